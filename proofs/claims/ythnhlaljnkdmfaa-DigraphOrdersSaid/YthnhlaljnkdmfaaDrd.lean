/- The reference's depths. Conditions: the edges lie among the nodes, and there is an order. -/
import Derived.Test.YthnhlaljnkdmfaaDro
namespace Go.Proofs.Ythnhlaljnkdmfaa
open Go.RowKit
set_option linter.unusedVariables false
set_option linter.unusedSimpArgs false

set_option maxRecDepth 100000 in
set_option maxHeartbeats 8000000 in
theorem r8depths_any (n : Nat) (E : List (Nat × Nat)) (v : Value) (w : World) (hE : IsEds w v E) (hv : Gp.vtx n E) (hn : n ≤ 300) (hl : E.length ≤ 1000) (hac : (Gp.ordL n E).length = n) :
    Calls Try.prog 19 #[.int .i64 n, v] w fun e w' => (∃ u, e = .returned u ∧ Own w.heap.size 3 eInt 1 w' u (Gp.depL n E)) ∧ Below w.heap.size w w' := by
  have hE0 := hE
  obtain ⟨a, cap, rfl, hcap, hbig, hs⟩ := hE
  have hll : n < 2147483648 := by omega
  go_enter Try.func19, Try.ntmps19
  go_wp2_with (refine wpList_mk _ rfl _ _ 25 rfl w.heap.size 3 _ 8 undInts infInt eInt 0 rfl rfl _ _ n rfl rfl rfl rfl hll (by omega) (Nat.le_refl _) ?_; intro w1 hown1 hb1 hlt1)
  refine Calls.to (r8order_any n E _ w1 (hE0.mono hb1) hv hn hl) ?_
  rintro e w2 ⟨u, b, rfl, ⟨hlen, rfl, hL⟩ | ⟨hlen, -, -⟩⟩ hb2
  rotate_left
  · omega
  have hown2 := hown1.below hb2
  have hbw2 := hb1.trans (hb2.mono hb1.size)
  have hlt2 : w.heap.size < w2.heap.size := by have := hb2.size; omega
  have hlbk : ∀ W, Below (w.heap.size + 1) w2 W → True := fun _ _ => trivial
  obtain ⟨la, lc, rfl⟩ := hL.isSlice
  have hdep : Hid (Gp.depL n E = Gp.depF n E (Gp.ordL n E)) := rfl
  obtain ⟨L, hLe⟩ : ∃ L, L = Gp.ordL n E := ⟨_, rfl⟩
  have hself := Gp.ordL_self n E
  have hlt := (Gp.ordL_inv n E).lt
  rw [← hLe] at hL hlen hdep hself hlt ⊢
  have HLN := Lib.hid hlen
  have hlw : ∀ g, (Value.slice la L.length lc).ownBlock = some g → g ≠ w.heap.size := fun g hg => by have := (hL.lt g hg).1; omega
  have hLk := fun W (hW : w2.grownBy W (some w.heap.size)) => (Own.kept hL hW (fun g hg e => hlw g hg (by injection e with e; exact e.symm))).isC
  have HLe := Lib.hid hLe
  clear hown1 hb1 hlt1 hb2 hlen hac hLe hlbk hlw
  have hG0 := World.grownBy.refl w2 (some w.heap.size)
  go_wp2_with fail
  go_loopw [8] (fun s8 wr => ∃ (j : Nat), j ≤ L.length ∧ s8 = .int .i64 j ∧ w2.grownBy wr (some w.heap.size) ∧ Own w.heap.size 3 eInt 1 wr (.slice (some ⟨w.heap.size, 0, none⟩) n n) (Gp.depF n E (L.take j))) (fun s8 _ => L.length - (intOf s8).toNat)
  case atStart => exact ⟨0, Nat.zero_le _, rfl, hG0, by rw [List.take_zero]; exact hown2⟩
  clear hown2 hG0
  case round =>
    obtain ⟨j, hj, rfl, hG, HO⟩ := hrel
    by_cases hjl : j < L.length
    · have hin : L[j] < n := hlt _ (List.getElem_mem hjl)
      have hself := hself _ (List.getElem_mem hjl)
      have hol := Gp.depF_len n E (L.take j)
      have hsm := Gp.depF_small E (n := n) (L.take j) L[j]
      rw [List.length_take] at hsm
      have hstep : Hid (Gp.depE L[j] E (Gp.depF n E (L.take j)) = Gp.depF n E (L.take (j + 1))) := Lib.hid (by
        rw [Gp.depE_is hv hself hol, List.take_succ_eq_append_getElem hjl, Gp.depF_snoc])
      have hsm2 : Hid (0 ≤ (Gp.depF n E (L.take j)).getD L[j] 0 ∧ (Gp.depF n E (L.take j)).getD L[j] 0 ≤ 1000000) := Lib.hid ⟨hsm.1, by have := HLN.out; omega⟩
      have hol := Lib.hid hol
      have hLc := fun W (hW : w2.grownBy W (some w.heap.size)) => (hLk W hW).nat j hjl
      clear hsm
      generalize Gp.depF n E (L.take j) = o at *
      generalize L[j] = i at *
      obtain ⟨d0, hd0⟩ : ∃ d0, d0 = o.getD i 0 := ⟨_, rfl⟩
      rw [← hd0] at hsm2
      have hd1 := Lib.hid hd0.symm
      have hd2 : 0 ≤ d0 ∧ d0 ≤ 1000000 := hsm2.out
      have hjl1 : decide (j < L.length) = true := decide_eq_true hjl
      clear hd0 hsm2
      obtain ⟨lb, lo, rfl, _⟩ := hLc wr hG
      go_wp2_with fail
      go_loopw [9] (fun s9 wr => ∃ (k : Nat) (o3 : List Int), k ≤ E.length ∧ s9 = .int .i64 k ∧ w2.grownBy wr (some w.heap.size) ∧ Own w.heap.size 3 eInt 1 wr (.slice (some ⟨w.heap.size, 0, none⟩) n n) o3 ∧ Hid (o3.length = n) ∧ Hid (o3.getD i 0 = d0) ∧ Hid (Gp.depE i (E.drop k) o3 = Gp.depE i E o)) (fun s9 _ => E.length - (intOf s9).toNat)
      case atStart => exact ⟨0, o, Nat.zero_le _, rfl, hG, HO, hol, hd1, Lib.hid (by rw [List.drop_zero])⟩
      clear hG HO hol hd1
      case round =>
        obtain ⟨k, o3, hk, rfl, hG, HO, HL3, HD3, HF3⟩ := hrel
        by_cases hkl : k < E.length
        · have hbr : Below w.heap.size w wr := below_grown hbw2 hG (by omega) (Nat.le_refl _)
          obtain ⟨eb, eo, rfl, c2, c3⟩ := (hs.mono hbr).ed k hkl
          obtain ⟨lb', lo', hle, c1⟩ := hLc wr hG
          simp only [Option.some.injEq, Addr.mk.injEq] at hle
          obtain ⟨rfl, rfl, _⟩ := hle
          have he1 : (E[k]).1 < n ∧ (E[k]).2 < n := hv _ (List.getElem_mem hkl)
          have hio : i < o3.length := by have := HL3.out; omega
          have hqo : (E[k]).2 < o3.length := by have := HL3.out; omega
          have q5 := HO.inti i hio
          have e5 := HD3.out
          rw [getD_at hio] at e5
          rw [e5] at q5
          have q4 := HO.inti (E[k]).2 hqo
          have f4 : wr.frozen? ⟨w.heap.size, (E[k]).2, none⟩ = false := Own.free HO _
          have hst : Hid (Gp.depE i (E.drop k) o3 = if (E[k]).1 == i && decide (o3.getD (E[k]).2 0 < o3.getD i 0 + 1) then Gp.depE i (E.drop (k + 1)) (o3.set (E[k]).2 (o3.getD i 0 + 1)) else Gp.depE i (E.drop (k + 1)) o3) := by
            rw [List.drop_eq_getElem_cons hkl]; rfl
          have hni : (E[k]).1 = i → (E[k]).2 ≠ i := fun h1 h2 => by
            have := Gp.inE_iff.2 (show ((E[k]).1, (E[k]).2) ∈ E from List.getElem_mem hkl)
            rw [h1, h2, hself] at this; cases this
          rw [HD3.out, getD_at hqo] at hst
          have hls : Hid ((o3.set (E[k]).2 (d0 + 1)).length = n) := Lib.hid (by rw [List.length_set]; exact HL3.out)
          have hds : (E[k]).1 = i → Hid ((o3.set (E[k]).2 (d0 + 1)).getD i 0 = d0) := fun h => Lib.hid (by rw [Gp.getD_set_ne (hni h)]; exact HD3.out)
          have x8 : IntKind.i64.wrap ((k : Int) + 1) = k + 1 := IntWalk.i64_in _ (by omega)
          have x9 : IntKind.i64.wrap (d0 + 1) = d0 + 1 := IntWalk.i64_in _ (by omega)
          generalize o3[(E[k]).2] = x at *
          obtain ⟨p, hp⟩ : ∃ p, p = (E[k]).1 := ⟨_, rfl⟩
          obtain ⟨q, hq⟩ : ∃ q, q = (E[k]).2 := ⟨_, rfl⟩
          rw [← hp] at c2 hst hds he1
          rw [← hq] at c3 hst hls hds q4 f4 he1 hqo
          clear hp hq hni hLk hLc e5
          by_cases hpi : p = i
          · subst hpi
            have hpp : (p == p) = true := by simp
            have hds2 := hds rfl
            clear hds
            rw [hpp, Bool.true_and] at hst
            by_cases hx : x < d0 + 1
            · have hx1 : decide (x < d0 + 1) = true := decide_eq_true hx
              rw [hx1] at hst
              simp only [if_true] at hst
              go_wp2_with fail
              go_quiet (fail)
              have hbd : Below wr.heap.size wr (wr.drewN nq) := below_drewN (Below.refl _ _) _
              have HOd := HO.below hbd
              have hGd : w2.grownBy (wr.drewN nq) (some w.heap.size) := hG.trans ⟨hbd.os, hbd.tape, hbd.output, hbd.size, fun j hj _ => hbd.block j hj⟩
              have d1 := cell_lt c1 hbd
              have d2 := cell_lt c2 hbd
              have d3 := cell_lt c3 hbd
              have d4 := cell_lt q4 hbd
              have d5 := cell_lt q5 hbd
              have g4 : (wr.drewN nq).frozen? ⟨w.heap.size, q, none⟩ = false := Own.free HOd _
              have hOs := (HOd.seti q hqo (d0 + 1)).below (Below.drew (Below.refl _ _))
              have hGs := (hGd.trans (grownBy_set (wr.drewN nq) ⟨w.heap.size, q, none⟩ (.int .i64 (d0 + 1)))).trans (grownBy_drew _ (some w.heap.size))
              generalize wr.drewN nq = wd at *
              clear c1 c2 c3 q4 q5 f4 HO hG HOd hGd hbd
              go_wp2_with fail
              go_region
              go_wp2_with fail
              go_roundw
              case measure => simp [intOf]; omega
              case rel => exact ⟨k + 1, o3.set q (d0 + 1), by omega, by go_num, hGs, hOs, hls, hds2, Lib.hid (hst.out.symm.trans HF3.out)⟩
            · have hx1 : decide (x < d0 + 1) = false := decide_eq_false hx
              rw [hx1] at hst
              simp only [if_false, Bool.false_eq_true] at hst
              go_wp2_with fail
              go_quiet (fail)
              have hbd : Below wr.heap.size wr (wr.drewN nq) := below_drewN (Below.refl _ _) _
              have HOd := HO.below hbd
              have hGd : w2.grownBy (wr.drewN nq) (some w.heap.size) := hG.trans ⟨hbd.os, hbd.tape, hbd.output, hbd.size, fun j hj _ => hbd.block j hj⟩
              generalize wr.drewN nq = wd at *
              go_wp2_with fail
              go_roundw
              case measure => simp [intOf]; omega
              case rel => exact ⟨k + 1, o3, by omega, by go_num, hGd, HOd, HL3, HD3, Lib.hid (hst.out.symm.trans HF3.out)⟩
          · have hp1 : (p == i) = false := by simpa using hpi
            have hp2 : ((p : Int) == (i : Int)) = false := by rw [beq_eq_false_iff_ne]; omega
            rw [hp1, Bool.false_and] at hst
            simp only [if_false, Bool.false_eq_true] at hst
            go_wp2_with fail
            go_quiet (fail)
            have hbd : Below wr.heap.size wr (wr.drewN nq) := below_drewN (Below.refl _ _) _
            have HOd := HO.below hbd
            have hGd : w2.grownBy (wr.drewN nq) (some w.heap.size) := hG.trans ⟨hbd.os, hbd.tape, hbd.output, hbd.size, fun j hj _ => hbd.block j hj⟩
            generalize wr.drewN nq = wd at *
            go_wp2_with fail
            go_roundw
            case measure => simp [intOf]; omega
            case rel => exact ⟨k + 1, o3, by omega, by go_num, hGd, HOd, HL3, HD3, Lib.hid (hst.out.symm.trans HF3.out)⟩
        · obtain rfl : k = E.length := by omega
          have h1 : Hid (o3 = Gp.depF n E (L.take (j + 1))) := Lib.hid (by
            rw [← hstep.out, ← HF3.out, List.drop_length]; rfl)
          have x7 : IntKind.i64.wrap ((j : Int) + 1) = j + 1 := IntWalk.i64_in _ (by have := HLN.out; omega)
          clear hLc hLk
          go_wp2_with fail
          go_roundw
          case measure => simp [intOf]; omega
          case rel => exact ⟨j + 1, by omega, by go_num, hG, by rw [← h1.out]; exact HO⟩
    · obtain rfl : j = L.length := by omega
      have hjl1 : decide (L.length < L.length) = false := by simp
      rw [List.take_length, ← hdep.out] at HO
      have hbr : Below w.heap.size w wr := below_grown hbw2 hG (by omega) (Nat.le_refl _)
      clear hLk
      go_wp2_with fail
      go_ret
      exact ⟨⟨_, rfl, HO⟩, hbr⟩

end Go.Proofs.Ythnhlaljnkdmfaa
