/- Shortest lengths: digraph.distances. Conditions: the edges lie among the nodes. -/
import Derived.Test.YthnhlaljnkdmfaaDgn
import Derived.Test.YthnhlaljnkdmfaaDgt
import Derived.Test.YthnhlaljnkdmfaaGqp
namespace Go.Proofs.Ythnhlaljnkdmfaa
open Go.RowKit
set_option linter.unusedVariables false
set_option linter.unusedSimpArgs false

theorem Own.seti {base : Nat} {e : TypeId} {w : World} {g n c : Nat} {xs : List Int} (h : Own base e eInt 1 w (.slice (some ⟨g, 0, none⟩) n c) xs) (i : Nat) (hi : i < xs.length) (y : Int) :
    Own base e eInt 1 (w.setCell ⟨g, i, none⟩ (.int .i64 y)) (.slice (some ⟨g, 0, none⟩) n c) (xs.set i y) := by
  have := Own.store (enc := eInt) (k := 1) (fun _ => rfl) h i 0 hi Nat.zero_lt_one (.int .i64 y) y rfl
  simpa using this
theorem Own.inti {base : Nat} {e : TypeId} {w : World} {g n c : Nat} {xs : List Int} (h : Own base e eInt 1 w (.slice (some ⟨g, 0, none⟩) n c) xs) (i : Nat) (hi : i < xs.length) : w.cell? ⟨g, i, none⟩ = some (.int .i64 xs[i]) := by
  have := Own.cellAt' (enc := eInt) (k := 1) (fun _ => rfl) h i 0 hi Nat.zero_lt_one
  simpa using this
theorem fill_set (n k : Nat) (x y : Int) (hk : k < n) : (List.replicate k x ++ List.replicate (n - k) y).set k x = List.replicate (k + 1) x ++ List.replicate (n - (k + 1)) y := by
  apply List.ext_getElem
  · simp; omega
  · intro i h1 h2
    by_cases hi : k = i
    · subst hi
      rw [List.getElem_set_self, List.getElem_append_left (by simp), List.getElem_replicate]
    · rw [List.getElem_set_ne hi]
      by_cases hlt : i < k
      · rw [List.getElem_append_left (by simpa using hlt), List.getElem_append_left (by simp; omega), List.getElem_replicate, List.getElem_replicate]
      · rw [List.getElem_append_right (by simp; omega), List.getElem_append_right (by simp; omega), List.getElem_replicate, List.getElem_replicate]
theorem getD_at {α : Type} {xs : List α} {i : Nat} (hi : i < xs.length) (d : α) : xs.getD i d = xs[i] := by simp [List.getD, hi]
theorem begB_len {n b : Nat} (rd : Bool) : (Gp.begB n b rd).length = n := by
  unfold Gp.begB Gp.begS; split <;> simp
theorem neg_le (out : List Int) : Gp.neg out ≤ out.length := List.countP_le_length

theorem Own.isC {α : Type} {base : Nat} {e : TypeId} {enc : α → List Value} {k : Nat} {w : World} {a : Option Addr} {n c : Nat} {xs : List α} (h : Own base e enc k w (.slice a n c) xs) (hk : ∀ x, (enc x).length = k := by intro _; rfl) : IsC enc k w a xs := by
  obtain ⟨a', c', e, _, _, h3⟩ := h.isL hk
  simp only [Value.slice.injEq] at e
  obtain ⟨rfl, _, _⟩ := e
  exact h3

set_option maxRecDepth 100000 in
set_option maxHeartbeats 8000000 in
theorem dist_any (n : Nat) (E : List (Nat × Nat)) (v : Value) (b low : Nat) (rd : Bool) (w : World) (hE : IsEds w v E) (hv : Gp.vtx n E) (hn : n ≤ 1000000) (hl : E.length ≤ 1000000) (hbn : b < n) (hlo : low ≤ b) :
    Calls Try.prog 50 #[.int .i64 n, v, .int .i64 b, .int .i64 low, .bool rd] w fun e w' => (∃ u D, e = .returned u ∧ Own w.heap.size 3 eInt 1 w' u D ∧ Gp.IsD n E low b rd D) ∧ Below w.heap.size w w' := by
  have hE0 := hE
  obtain ⟨a, cap, rfl, hcap, hbig, hs⟩ := hE
  have hll : n < 2147483648 := by omega
  clear hs
  go_enter Try.func50, Try.ntmps50
  go_wp2_with fail
  refine Calls.to (turned_any E _ _ hE0 hl) ?_
  rintro e w1 ⟨tu, rfl, hT⟩ hb1
  have hTl := hT.isL eEd_len
  clear hT hE0
  go_wp2_with fail
  refine Calls.to (next_any n (Gp.rev E) _ w1 hTl (Gp.vtx_rev hv) hn (by rw [rev_len]; exact hl)) ?_
  rintro e w2 ⟨ru, vs, rfl, hR⟩ hb2
  have hbw2 : Below w.heap.size w w2 := hb1.trans (hb2.mono hb1.size)
  clear hTl hb1 hb2
  have hvl : vs.length = n := by have := hR.len; simpa using this
  obtain ⟨rg, rc, rfl, _, hrg, _, _⟩ := hR.out.place (by omega)
  have HVL := Lib.hid hvl
  have HR := Lib.hid hR
  clear hvl hR
  go_wp2_with (refine wpList_mk _ rfl _ _ 25 rfl w2.heap.size 3 _ 8 undInts infInt eInt 0 rfl rfl _ _ n rfl rfl rfl rfl hll (by omega) (Nat.le_refl _) ?_; intro w3 hown3 hb3 hlt3)
  go_loopw [29] (fun s29 wr => ∃ k : Nat, k ≤ n ∧ s29 = .int .i64 k ∧ Below w2.heap.size w2 wr ∧ w2.heap.size < wr.heap.size ∧ Own w2.heap.size 3 eInt 1 wr (.slice (some ⟨w2.heap.size, 0, none⟩) n n) (List.replicate k (-1) ++ List.replicate (n - k) 0)) (fun i _ => n - (intOf i).toNat)
  case atStart => exact ⟨0, Nat.zero_le _, rfl, hb3, hlt3, by simpa using hown3⟩
  clear hown3 hb3 hlt3
  case round =>
    obtain ⟨k, hk, rfl, hb, hlt, HO⟩ := hrel
    by_cases hkn : k < n
    · have hO2 := HO.seti k (by simp; omega) (-1)
      rw [fill_set n k (-1) 0 hkn] at hO2
      have q3 := HO.inti k (by simp; omega)
      have f3 : wr.frozen? ⟨w2.heap.size, k, none⟩ = false := Own.free HO _
      generalize (List.replicate k (-1) ++ List.replicate (n - k) 0)[k]'_ = z at q3
      have hb2 := hb.setCell (p := ⟨w2.heap.size, k, none⟩) (Nat.le_refl w2.heap.size) (.int .i64 (-1))
      have hl2 : w2.heap.size < (wr.setCell ⟨w2.heap.size, k, none⟩ (.int .i64 (-1))).heap.size := by simp [World.setCell]; exact hlt
      clear HO
      go_wp2_with fail
      go_roundw
      case measure => simp [intOf]; omega
      case rel => exact ⟨k + 1, by omega, by go_num, hb2, hl2, hO2⟩
    · obtain rfl : n = k := by omega
      rw [Nat.sub_self, List.replicate_zero, List.append_nil] at HO
      have q3 := HO.inti b (by simpa using hbn)
      have f3 : wr.frozen? ⟨w2.heap.size, b, none⟩ = false := Own.free HO _
      rw [List.getElem_replicate] at q3
      have HQ0 := Own.fresh (enc := eNat) (k := 1) (fun _ => rfl) wr (w2.heap.size + 1) (by omega) 3 b #[.int .i64 b] rfl
      have hA : Below wr.heap.size wr (wr.alloc (.cells #[.int .i64 (b : Int)] 3)) := alloc_below _ _
      have HOA := HO.below hA
      have hbA := hb.trans (hA.mono (by omega : w2.heap.size ≤ wr.heap.size))
      have hlA : w2.heap.size < (wr.alloc (.cells #[.int .i64 (b : Int)] 3)).heap.size := by have := hA.size; omega
      have HI := Gp.BInv.start (E := E) (low := low) rd hbn hlo
      have q3A : (wr.alloc (.cells #[.int .i64 (b : Int)] 3)).cell? ⟨w2.heap.size, b, none⟩ = some (.int .i64 (-1)) := cell_lt q3 hA
      have f3A : (wr.alloc (.cells #[.int .i64 (b : Int)] 3)).frozen? ⟨w2.heap.size, b, none⟩ = false := Own.free HOA _
      have hneB : (Value.slice (some ⟨wr.heap.size, 0, none⟩) 1 1).ownBlock ≠ some w2.heap.size := by
        simp [Value.ownBlock]; omega
      have hsz : (wr.alloc (.cells #[.int .i64 (b : Int)] 3)).heap.size = wr.heap.size + 1 := by simp
      cases rd
      · have hse : (wr.setCell ⟨w2.heap.size, b, none⟩ (.int .i64 0)).heap.size = wr.heap.size := by simp [World.setCell]
        have hA1 : Below (wr.setCell ⟨w2.heap.size, b, none⟩ (.int .i64 0)).heap.size (wr.setCell ⟨w2.heap.size, b, none⟩ (.int .i64 0)) ((wr.setCell ⟨w2.heap.size, b, none⟩ (.int .i64 0)).alloc (.cells #[.int .i64 (b : Int)] 3)) := alloc_below _ _
        have hOF := (HO.seti b (by simpa using hbn) 0).below hA1
        have hQF := Own.fresh (enc := eNat) (k := 1) (fun _ => rfl) (wr.setCell ⟨w2.heap.size, b, none⟩ (.int .i64 0)) (w2.heap.size + 1) (by omega) 3 b #[.int .i64 b] rfl
        rw [hse] at hQF hA1
        have hbF := (hb.setCell (p := ⟨w2.heap.size, b, none⟩) (Nat.le_refl w2.heap.size) (.int .i64 0)).trans (hA1.mono (by omega : w2.heap.size ≤ wr.heap.size))
        have hlF : w2.heap.size < ((wr.setCell ⟨w2.heap.size, b, none⟩ (.int .i64 0)).alloc (.cells #[.int .i64 (b : Int)] 3)).heap.size := by
          have := hA1.size; omega
        clear HOA HQ0 hbA hA1 hA HO
        go_wp2_with fail
        go_loopw [14, 15] (fun s14 s15 wr => ∃ (d : Nat) (out : List Int) (q : List Nat), s15 = .int .i64 d ∧ Own (w2.heap.size + 1) 3 eNat 1 wr s14 q ∧ Own w2.heap.size 3 eInt 1 wr (.slice (some ⟨w2.heap.size, 0, none⟩) n n) out ∧ Below w2.heap.size w2 wr ∧ w2.heap.size < wr.heap.size ∧ Gp.BInv n E low b false d out q ∧ Hid (Gp.neg out + q.length + d ≤ n + 2)) (fun _ s15 _ => n + 3 - (intOf s15).toNat)
        case atStart => exact ⟨1, Gp.begB n b false, [b], rfl, hQF, hOF, hbF, hlF, HI, Lib.hid (by have := neg_le (Gp.begB n b false); rw [begB_len] at this; simp; omega)⟩
        clear hQF hOF hbF hlF HI
        case round =>
          obtain ⟨d, out, q, rfl, HQ, HO, hb, hlt, HI, HN⟩ := hrel
          obtain ⟨qa, qc, rfl⟩ := HQ.isSlice
          by_cases hq : 0 < q.length
          · have hS : ∀ g, (Value.slice qa q.length qc).ownBlock = some g → g < wr.heap.size := fun g hg => (HQ.lt g hg).2
            obtain ⟨S, hSe⟩ : ∃ S, S = wr.heap.size := ⟨_, rfl⟩
            rw [← hSe] at hS hlt
            have hSw : S ≤ wr.heap.size := by omega
            clear hSe
            have HM0 : Own S 3 eNat 1 wr (.slice none 0 0) [] := World.ownsRow_nil _ _ _ _
            have hdn : d ≤ n + 2 := by have := HN.out; omega
            have x9 : IntKind.i64.wrap ((d : Int) + 1) = d + 1 := IntWalk.i64_in _ (by omega)
            have HLo := Lib.hid HI.len
            go_wp2_with fail
            go_loopw [16, 50] (fun s16 s50 wr => ∃ (j : Nat) (o2 : List Int) (mo : List Nat), j ≤ q.length ∧ s50 = .int .i64 j ∧ Own S 3 eNat 1 wr s16 mo ∧ Own (w2.heap.size + 1) 3 eNat 1 wr (.slice qa q.length qc) q ∧ Own w2.heap.size 3 eInt 1 wr (.slice (some ⟨w2.heap.size, 0, none⟩) n n) o2 ∧ Below w2.heap.size w2 wr ∧ S ≤ wr.heap.size ∧ Hid (o2.length = n) ∧ Hid (Gp.neg o2 + mo.length = Gp.neg out) ∧ Hid (Gp.bfsQ n E low d (q.drop j) o2 mo = Gp.bfsQ n E low d q out [])) (fun _ i _ => q.length - (intOf i).toNat)
            case atStart => exact ⟨0, out, [], Nat.zero_le _, rfl, HM0, HQ, HO, hb, hSw, HLo, Lib.hid (by simp), Lib.hid (by rw [List.drop_zero])⟩
            clear HM0 HQ HO hb hSw
            case round =>
              obtain ⟨j, o2, mo, hj, rfl, HM, HQ, HO, hb, hSl, HL, HN2, HF⟩ := hrel
              by_cases hjl : j < q.length
              · obtain ⟨qb, qo, rfl, c1⟩ := HQ.isC.nat j hjl
                have hin : q[j] < n := (HI.snd _ (List.getElem_mem hjl)).1
                have hiv : q[j] < vs.length := by have := HVL.out; omega
                have q3 := OwnR.cellv (HR.out.below hb) q[j] hiv
                have hrow := fun W (hW : Below w2.heap.size w2 W) => (HR.out.below hW).row q[j] hiv (by simpa using hin)
                simp only [List.getElem_map, List.getElem_range] at hrow
                obtain ⟨ka, kc, hke⟩ := (hrow w2 (Below.refl _ _)).isSlice
                simp only [hke] at q3 hrow
                clear hke
                have hks : ∀ k ∈ Gp.nxt n (Gp.rev E) q[j], k < n := fun k hk => (Gp.mem_nxt.1 hk).1
                have hstep : Hid (Gp.bfsQ n E low d (q.drop j) o2 mo = Gp.bfsQ n E low d (q.drop (j + 1)) (Gp.bfsIn low d (Gp.nxt n (Gp.rev E) q[j]) o2 mo).1 (Gp.bfsIn low d (Gp.nxt n (Gp.rev E) q[j]) o2 mo).2) := by
                  rw [List.drop_eq_getElem_cons hjl]; rfl
                generalize q[j] = i at *
                have hkl : (Gp.nxt n (Gp.rev E) i).length < 2147483648 := by have := Gp.nxt_len n (Gp.rev E) i; omega
                generalize Gp.nxt n (Gp.rev E) i = ks at *
                go_wp2_with fail
                go_loopw [16, 59] (fun s16 s59 wr => ∃ (m : Nat) (o3 : List Int) (mr : List Nat), m ≤ ks.length ∧ s59 = .int .i64 m ∧ Own S 3 eNat 1 wr s16 mr ∧ Own (w2.heap.size + 1) 3 eNat 1 wr (.slice (some ⟨qb, qo, none⟩) q.length qc) q ∧ Own w2.heap.size 3 eInt 1 wr (.slice (some ⟨w2.heap.size, 0, none⟩) n n) o3 ∧ Below w2.heap.size w2 wr ∧ S ≤ wr.heap.size ∧ Hid (o3.length = n) ∧ Hid (Gp.neg o3 + mr.length = Gp.neg out) ∧ Hid (Gp.bfsIn low d (ks.drop m) o3 mr = Gp.bfsIn low d ks o2 mo)) (fun _ i _ => ks.length - (intOf i).toNat)
                case atStart => exact ⟨0, o2, mo, Nat.zero_le _, rfl, HM, HQ, HO, hb, hSl, HL, HN2, Lib.hid (by rw [List.drop_zero])⟩
                clear HM HQ HO hb hSl q3 c1
                case round =>
                  obtain ⟨m, o3, mr, hm, rfl, HM, HQ, HO, hb, hSl, HL3, HN3, HF3⟩ := hrel
                  by_cases hml : m < ks.length
                  · obtain ⟨kb, ko, rfl, c2⟩ := (hrow wr hb).isC.nat m hml
                    have hkn : ks[m] < n := hks _ (List.getElem_mem hml)
                    have hko : ks[m] < o3.length := by have := HL3.out; omega
                    have q4 := HO.inti ks[m] hko
                    have f4 : wr.frozen? ⟨w2.heap.size, ks[m], none⟩ = false := Own.free HO _
                    have hOs := HO.seti ks[m] hko (d : Int)
                    have hst : Hid (Gp.bfsIn low d (ks.drop m) o3 mr = if decide (low ≤ ks[m]) && decide (o3.getD ks[m] (-1) < 0) then Gp.bfsIn low d (ks.drop (m + 1)) (o3.set ks[m] d) (mr ++ [ks[m]]) else Gp.bfsIn low d (ks.drop (m + 1)) o3 mr) := by
                      rw [List.drop_eq_getElem_cons hml]; rfl
                    have hng : o3.getD ks[m] (-1) < 0 → Hid (Gp.neg (o3.set ks[m] d) + 1 = Gp.neg o3) := fun h => Lib.hid (Gp.neg_set hko h (by omega))
                    rw [getD_at hko] at hst hng
                    have hml2 : mr.length < 2147483648 := by have := HN3.out; have := HN.out; omega
                    have x8 : IntKind.i64.wrap ((m : Int) + 1) = m + 1 := IntWalk.i64_in _ (by omega)
                    have hls : Hid ((o3.set ks[m] d).length = n) := Lib.hid (by rw [List.length_set]; exact HL3.out)
                    generalize o3[ks[m]] = x at *
                    generalize ks[m] = k at *
                    obtain ⟨ma, mc, rfl⟩ := HM.isSlice
                    cases c5 : decide (low ≤ k)
                    · rw [c5] at hst
                      have c5' : decide ((low : Int) ≤ k) = false := by simp at c5 ⊢; exact c5
                      clear hrow hng hOs hls
                      go_wp2_with fail
                      go_roundw
                      case measure => simp [intOf]; omega
                      case rel => exact ⟨m + 1, o3, mr, by omega, by go_num, HM, HQ, HO, hb, hSl, HL3, HN3, HF3.out.symm.trans (hst.out) |>.symm⟩
                    · rw [c5] at hst
                      have c5' : decide ((low : Int) ≤ k) = true := by simp at c5 ⊢; exact c5
                      cases c6 : decide (x < 0)
                      · rw [c6] at hst
                        clear hrow hng hOs hls
                        go_wp2_with fail
                        go_roundw
                        case measure => simp [intOf]; omega
                        case rel => exact ⟨m + 1, o3, mr, by omega, by go_num, HM, HQ, HO, hb, hSl, HL3, HN3, HF3.out.symm.trans (hst.out) |>.symm⟩
                      · rw [c6] at hst
                        have hng := hng (of_decide_eq_true c6)
                        have hM1 := HM.set' ⟨w2.heap.size, k, none⟩ (.int .i64 (d : Int)) (fun e => by have := (HM.lt _ e).1; simp only at this; omega)
                        have hQ1 := HQ.set' ⟨w2.heap.size, k, none⟩ (.int .i64 (d : Int)) (fun e => by have := (HQ.lt _ e).1; simp only at this; omega)
                        have hb1 := hb.setCell (p := ⟨w2.heap.size, k, none⟩) (Nat.le_refl w2.heap.size) (.int .i64 (d : Int))
                        have hs1 : S ≤ (wr.setCell ⟨w2.heap.size, k, none⟩ (.int .i64 (d : Int))).heap.size := by simp [World.setCell]; exact hSl
                        clear HM HQ HO hrow
                        go_wp2_with (at_builtin; go_must (refine wpList_pushR rfl _ _ 25 rfl 3 _ 1 8 undInts infInt rfl (by decide) k (fun _ => rfl) (by simp [Value.oneCell']) _ mr rfl hM1 wr.heap.size rfl (by simp [World.setCell]) hml2 (by decide) hs1 _ rfl ?_); intro g3 cap3 w5 hR5)
                        have HM5 := hR5.own
                        have HQ5 := hR5.other hQ1 (fun g hg e => by have h1 := hS g hg; have h2 := (hM1.lt g e).1; omega)
                        have HO5 := hR5.other hOs (fun g hg e => by simp only [Value.ownBlock, Option.some.injEq] at hg; have h2 := (hM1.lt g e).1; omega)
                        have hb5 := hb1.trans ((hR5.below hM1 hs1).mono (by omega))
                        have hs5 : S ≤ w5.heap.size := by have := hR5.grown.size; omega
                        clear hR5 hM1 hQ1 hOs hb1 hs1 q4 f4
                        go_wp2_with fail
                        go_roundw
                        case measure => simp [intOf]; omega
                        case rel =>
                          refine ⟨m + 1, o3.set k d, mr ++ [k], by omega, by go_num, ?_, HQ5, HO5, hb5, hs5, hls, Lib.hid (by have := hng.out; have := HN3.out; simp; omega), HF3.out.symm.trans (hst.out) |>.symm⟩
                          simpa using HM5
                  · obtain rfl : m = ks.length := by omega
                    have h1 : Gp.bfsIn low d ks o2 mo = (o3, mr) := by
                      rw [← HF3.out, List.drop_length]; rfl
                    rw [h1] at hstep
                    have hF' := Lib.hid (hstep.out.symm.trans HF.out)
                    clear hrow hstep h1
                    have x7 : IntKind.i64.wrap ((j : Int) + 1) = j + 1 := IntWalk.i64_in _ (by have := HN.out; omega)
                    go_wp2_with fail
                    go_roundw
                    case measure => simp [intOf]; omega
                    case rel => exact ⟨j + 1, o3, mr, by omega, by go_num, HM, HQ, HO, hb, hSl, HL3, HN3, hF'⟩
              · obtain rfl : j = q.length := by omega
                have h1 : Gp.bfsQ n E low d q out [] = (o2, mo) := by
                  rw [← HF.out, List.drop_length]; rfl
                have hI2 := HI.round hv
                rw [h1] at hI2
                have hM2 := HM.base (base' := w2.heap.size + 1) (by omega)
                have hN3 : Hid (Gp.neg o2 + mo.length + (d + 1) ≤ n + 2) := Lib.hid (by have := HN2.out; have := HN.out; omega)
                clear HF HQ HM
                go_wp2_with fail
                go_roundw
                case measure => simp [intOf]; omega
                case rel => exact ⟨d + 1, o2, mo, by go_num, hM2, HO, hb, by omega, hI2, hN3⟩
          · obtain rfl : q = [] := List.eq_nil_of_length_eq_zero (by omega)
            have HD := HI.done
            go_wp2_with fail
            go_ret
            exact ⟨⟨_, out, rfl, HO.base hbw2.size, HD⟩, hbw2.trans (hb.mono hbw2.size)⟩
      · have hOF := HOA
        have hQF := HQ0
        have hbF := hbA
        have hlF := hlA
        clear HOA HQ0 hbA q3 f3 hA HO hb
        go_wp2_with fail
        go_loopw [14, 15] (fun s14 s15 wr => ∃ (d : Nat) (out : List Int) (q : List Nat), s15 = .int .i64 d ∧ Own (w2.heap.size + 1) 3 eNat 1 wr s14 q ∧ Own w2.heap.size 3 eInt 1 wr (.slice (some ⟨w2.heap.size, 0, none⟩) n n) out ∧ Below w2.heap.size w2 wr ∧ w2.heap.size < wr.heap.size ∧ Gp.BInv n E low b true d out q ∧ Hid (Gp.neg out + q.length + d ≤ n + 2)) (fun _ s15 _ => n + 3 - (intOf s15).toNat)
        case atStart => exact ⟨1, Gp.begB n b true, [b], rfl, hQF, hOF, hbF, hlF, HI, Lib.hid (by have := neg_le (Gp.begB n b true); rw [begB_len] at this; simp; omega)⟩
        clear hQF hOF hbF hlF HI
        case round =>
          obtain ⟨d, out, q, rfl, HQ, HO, hb, hlt, HI, HN⟩ := hrel
          obtain ⟨qa, qc, rfl⟩ := HQ.isSlice
          by_cases hq : 0 < q.length
          · have hS : ∀ g, (Value.slice qa q.length qc).ownBlock = some g → g < wr.heap.size := fun g hg => (HQ.lt g hg).2
            obtain ⟨S, hSe⟩ : ∃ S, S = wr.heap.size := ⟨_, rfl⟩
            rw [← hSe] at hS hlt
            have hSw : S ≤ wr.heap.size := by omega
            clear hSe
            have HM0 : Own S 3 eNat 1 wr (.slice none 0 0) [] := World.ownsRow_nil _ _ _ _
            have hdn : d ≤ n + 2 := by have := HN.out; omega
            have x9 : IntKind.i64.wrap ((d : Int) + 1) = d + 1 := IntWalk.i64_in _ (by omega)
            have HLo := Lib.hid HI.len
            go_wp2_with fail
            go_loopw [16, 50] (fun s16 s50 wr => ∃ (j : Nat) (o2 : List Int) (mo : List Nat), j ≤ q.length ∧ s50 = .int .i64 j ∧ Own S 3 eNat 1 wr s16 mo ∧ Own (w2.heap.size + 1) 3 eNat 1 wr (.slice qa q.length qc) q ∧ Own w2.heap.size 3 eInt 1 wr (.slice (some ⟨w2.heap.size, 0, none⟩) n n) o2 ∧ Below w2.heap.size w2 wr ∧ S ≤ wr.heap.size ∧ Hid (o2.length = n) ∧ Hid (Gp.neg o2 + mo.length = Gp.neg out) ∧ Hid (Gp.bfsQ n E low d (q.drop j) o2 mo = Gp.bfsQ n E low d q out [])) (fun _ i _ => q.length - (intOf i).toNat)
            case atStart => exact ⟨0, out, [], Nat.zero_le _, rfl, HM0, HQ, HO, hb, hSw, HLo, Lib.hid (by simp), Lib.hid (by rw [List.drop_zero])⟩
            clear HM0 HQ HO hb hSw
            case round =>
              obtain ⟨j, o2, mo, hj, rfl, HM, HQ, HO, hb, hSl, HL, HN2, HF⟩ := hrel
              by_cases hjl : j < q.length
              · obtain ⟨qb, qo, rfl, c1⟩ := HQ.isC.nat j hjl
                have hin : q[j] < n := (HI.snd _ (List.getElem_mem hjl)).1
                have hiv : q[j] < vs.length := by have := HVL.out; omega
                have q3 := OwnR.cellv (HR.out.below hb) q[j] hiv
                have hrow := fun W (hW : Below w2.heap.size w2 W) => (HR.out.below hW).row q[j] hiv (by simpa using hin)
                simp only [List.getElem_map, List.getElem_range] at hrow
                obtain ⟨ka, kc, hke⟩ := (hrow w2 (Below.refl _ _)).isSlice
                simp only [hke] at q3 hrow
                clear hke
                have hks : ∀ k ∈ Gp.nxt n (Gp.rev E) q[j], k < n := fun k hk => (Gp.mem_nxt.1 hk).1
                have hstep : Hid (Gp.bfsQ n E low d (q.drop j) o2 mo = Gp.bfsQ n E low d (q.drop (j + 1)) (Gp.bfsIn low d (Gp.nxt n (Gp.rev E) q[j]) o2 mo).1 (Gp.bfsIn low d (Gp.nxt n (Gp.rev E) q[j]) o2 mo).2) := by
                  rw [List.drop_eq_getElem_cons hjl]; rfl
                generalize q[j] = i at *
                have hkl : (Gp.nxt n (Gp.rev E) i).length < 2147483648 := by have := Gp.nxt_len n (Gp.rev E) i; omega
                generalize Gp.nxt n (Gp.rev E) i = ks at *
                go_wp2_with fail
                go_loopw [16, 59] (fun s16 s59 wr => ∃ (m : Nat) (o3 : List Int) (mr : List Nat), m ≤ ks.length ∧ s59 = .int .i64 m ∧ Own S 3 eNat 1 wr s16 mr ∧ Own (w2.heap.size + 1) 3 eNat 1 wr (.slice (some ⟨qb, qo, none⟩) q.length qc) q ∧ Own w2.heap.size 3 eInt 1 wr (.slice (some ⟨w2.heap.size, 0, none⟩) n n) o3 ∧ Below w2.heap.size w2 wr ∧ S ≤ wr.heap.size ∧ Hid (o3.length = n) ∧ Hid (Gp.neg o3 + mr.length = Gp.neg out) ∧ Hid (Gp.bfsIn low d (ks.drop m) o3 mr = Gp.bfsIn low d ks o2 mo)) (fun _ i _ => ks.length - (intOf i).toNat)
                case atStart => exact ⟨0, o2, mo, Nat.zero_le _, rfl, HM, HQ, HO, hb, hSl, HL, HN2, Lib.hid (by rw [List.drop_zero])⟩
                clear HM HQ HO hb hSl q3 c1
                case round =>
                  obtain ⟨m, o3, mr, hm, rfl, HM, HQ, HO, hb, hSl, HL3, HN3, HF3⟩ := hrel
                  by_cases hml : m < ks.length
                  · obtain ⟨kb, ko, rfl, c2⟩ := (hrow wr hb).isC.nat m hml
                    have hkn : ks[m] < n := hks _ (List.getElem_mem hml)
                    have hko : ks[m] < o3.length := by have := HL3.out; omega
                    have q4 := HO.inti ks[m] hko
                    have f4 : wr.frozen? ⟨w2.heap.size, ks[m], none⟩ = false := Own.free HO _
                    have hOs := HO.seti ks[m] hko (d : Int)
                    have hst : Hid (Gp.bfsIn low d (ks.drop m) o3 mr = if decide (low ≤ ks[m]) && decide (o3.getD ks[m] (-1) < 0) then Gp.bfsIn low d (ks.drop (m + 1)) (o3.set ks[m] d) (mr ++ [ks[m]]) else Gp.bfsIn low d (ks.drop (m + 1)) o3 mr) := by
                      rw [List.drop_eq_getElem_cons hml]; rfl
                    have hng : o3.getD ks[m] (-1) < 0 → Hid (Gp.neg (o3.set ks[m] d) + 1 = Gp.neg o3) := fun h => Lib.hid (Gp.neg_set hko h (by omega))
                    rw [getD_at hko] at hst hng
                    have hml2 : mr.length < 2147483648 := by have := HN3.out; have := HN.out; omega
                    have x8 : IntKind.i64.wrap ((m : Int) + 1) = m + 1 := IntWalk.i64_in _ (by omega)
                    have hls : Hid ((o3.set ks[m] d).length = n) := Lib.hid (by rw [List.length_set]; exact HL3.out)
                    generalize o3[ks[m]] = x at *
                    generalize ks[m] = k at *
                    obtain ⟨ma, mc, rfl⟩ := HM.isSlice
                    cases c5 : decide (low ≤ k)
                    · rw [c5] at hst
                      have c5' : decide ((low : Int) ≤ k) = false := by simp at c5 ⊢; exact c5
                      clear hrow hng hOs hls
                      go_wp2_with fail
                      go_roundw
                      case measure => simp [intOf]; omega
                      case rel => exact ⟨m + 1, o3, mr, by omega, by go_num, HM, HQ, HO, hb, hSl, HL3, HN3, HF3.out.symm.trans (hst.out) |>.symm⟩
                    · rw [c5] at hst
                      have c5' : decide ((low : Int) ≤ k) = true := by simp at c5 ⊢; exact c5
                      cases c6 : decide (x < 0)
                      · rw [c6] at hst
                        clear hrow hng hOs hls
                        go_wp2_with fail
                        go_roundw
                        case measure => simp [intOf]; omega
                        case rel => exact ⟨m + 1, o3, mr, by omega, by go_num, HM, HQ, HO, hb, hSl, HL3, HN3, HF3.out.symm.trans (hst.out) |>.symm⟩
                      · rw [c6] at hst
                        have hng := hng (of_decide_eq_true c6)
                        have hM1 := HM.set' ⟨w2.heap.size, k, none⟩ (.int .i64 (d : Int)) (fun e => by have := (HM.lt _ e).1; simp only at this; omega)
                        have hQ1 := HQ.set' ⟨w2.heap.size, k, none⟩ (.int .i64 (d : Int)) (fun e => by have := (HQ.lt _ e).1; simp only at this; omega)
                        have hb1 := hb.setCell (p := ⟨w2.heap.size, k, none⟩) (Nat.le_refl w2.heap.size) (.int .i64 (d : Int))
                        have hs1 : S ≤ (wr.setCell ⟨w2.heap.size, k, none⟩ (.int .i64 (d : Int))).heap.size := by simp [World.setCell]; exact hSl
                        clear HM HQ HO hrow
                        go_wp2_with (at_builtin; go_must (refine wpList_pushR rfl _ _ 25 rfl 3 _ 1 8 undInts infInt rfl (by decide) k (fun _ => rfl) (by simp [Value.oneCell']) _ mr rfl hM1 wr.heap.size rfl (by simp [World.setCell]) hml2 (by decide) hs1 _ rfl ?_); intro g3 cap3 w5 hR5)
                        have HM5 := hR5.own
                        have HQ5 := hR5.other hQ1 (fun g hg e => by have h1 := hS g hg; have h2 := (hM1.lt g e).1; omega)
                        have HO5 := hR5.other hOs (fun g hg e => by simp only [Value.ownBlock, Option.some.injEq] at hg; have h2 := (hM1.lt g e).1; omega)
                        have hb5 := hb1.trans ((hR5.below hM1 hs1).mono (by omega))
                        have hs5 : S ≤ w5.heap.size := by have := hR5.grown.size; omega
                        clear hR5 hM1 hQ1 hOs hb1 hs1 q4 f4
                        go_wp2_with fail
                        go_roundw
                        case measure => simp [intOf]; omega
                        case rel =>
                          refine ⟨m + 1, o3.set k d, mr ++ [k], by omega, by go_num, ?_, HQ5, HO5, hb5, hs5, hls, Lib.hid (by have := hng.out; have := HN3.out; simp; omega), HF3.out.symm.trans (hst.out) |>.symm⟩
                          simpa using HM5
                  · obtain rfl : m = ks.length := by omega
                    have h1 : Gp.bfsIn low d ks o2 mo = (o3, mr) := by
                      rw [← HF3.out, List.drop_length]; rfl
                    rw [h1] at hstep
                    have hF' := Lib.hid (hstep.out.symm.trans HF.out)
                    clear hrow hstep h1
                    have x7 : IntKind.i64.wrap ((j : Int) + 1) = j + 1 := IntWalk.i64_in _ (by have := HN.out; omega)
                    go_wp2_with fail
                    go_roundw
                    case measure => simp [intOf]; omega
                    case rel => exact ⟨j + 1, o3, mr, by omega, by go_num, HM, HQ, HO, hb, hSl, HL3, HN3, hF'⟩
              · obtain rfl : j = q.length := by omega
                have h1 : Gp.bfsQ n E low d q out [] = (o2, mo) := by
                  rw [← HF.out, List.drop_length]; rfl
                have hI2 := HI.round hv
                rw [h1] at hI2
                have hM2 := HM.base (base' := w2.heap.size + 1) (by omega)
                have hN3 : Hid (Gp.neg o2 + mo.length + (d + 1) ≤ n + 2) := Lib.hid (by have := HN2.out; have := HN.out; omega)
                clear HF HQ HM
                go_wp2_with fail
                go_roundw
                case measure => simp [intOf]; omega
                case rel => exact ⟨d + 1, o2, mo, by go_num, hM2, HO, hb, by omega, hI2, hN3⟩
          · obtain rfl : q = [] := List.eq_nil_of_length_eq_zero (by omega)
            have HD := HI.done
            go_wp2_with fail
            go_ret
            exact ⟨⟨_, out, rfl, HO.base hbw2.size, HD⟩, hbw2.trans (hb.mono hbw2.size)⟩

end Go.Proofs.Ythnhlaljnkdmfaa
