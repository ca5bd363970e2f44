/- The least order: digraph.order. Conditions: the edges lie among the nodes. -/
import Derived.Test.YtlcfnbnpkcjjlaaGreatDgd
import Derived.Test.YtlcfnbnpkcjjlaaGreatDgi
namespace Go.Proofs.YtlcfnbnpkcjjlaaGreat
open Go.RowKit
set_option linter.unusedVariables false
set_option linter.unusedSimpArgs false

def vLen : Value → Nat
  | .slice _ n _ => n
  | _ => 0
theorem filter_snoc {p : Nat → Bool} {k : Nat} : (List.range (k + 1)).filter p = (List.range k).filter p ++ (if p k then [k] else []) := by
  rw [List.range_succ, List.filter_append]
  congr 1
  by_cases h : p k = true
  · rw [if_pos h, List.filter_cons_of_pos h]; rfl
  · rw [if_neg h, List.filter_cons_of_neg h]; rfl
theorem preL_small (n : Nat) (E : Gp.Gr) (m x : Nat) (hm : m ≤ n) : 0 ≤ (Gp.preL n E m).getD x 0 ∧ (Gp.preL n E m).getD x 0 ≤ (n : Int) := by
  by_cases hx : x < n
  · rw [Gp.preL_get hx]
    have : (List.range m).countP (fun a => Gp.inE E a x) ≤ m := by
      have := List.countP_le_length (p := fun a => Gp.inE E a x) (l := List.range m)
      simpa using this
    omega
  · rw [List.getD, List.getElem?_eq_none (by rw [Gp.preL_len]; omega)]; simp
theorem cntL_small (n : Nat) (E : Gp.Gr) (out : List Nat) (x : Nat) : 0 ≤ (Gp.cntL n E out).getD x 0 ∧ (Gp.cntL n E out).getD x 0 ≤ (n : Int) := by
  by_cases hx : x < n
  · rw [Gp.cntL_get hx]
    have : Gp.cnt n E out x ≤ n := by
      have := List.countP_le_length (p := fun a => Gp.inE E a x && !out.contains a) (l := List.range n)
      rw [List.length_range] at this
      exact this
    omega
  · rw [List.getD, List.getElem?_eq_none (by simp [Gp.cntL]; omega)]; simp

theorem ordF_none {n : Nat} {E : Gp.Gr} {out : List Nat} (h : Gp.nextV n E out = none) : ∀ f, Gp.ordF n E f out = out
  | 0 => rfl
  | f + 1 => by unfold Gp.ordF; rw [h]
/-- What is ready: nothing, or a row at an offset. -/
def RdyO (base : Nat) (w : World) (v : Value) (xs : List Nat) : Prop := (xs = [] ∧ ∃ a c, v = .slice a 0 c) ∨ OwnO base w v xs

set_option maxRecDepth 100000 in
set_option maxHeartbeats 16000000 in
theorem order0_any (n : Nat) (E : List (Nat × Nat)) (v : Value) (w : World) (hE : IsEds w v E) (hv : Gp.vtx n E) (hn : n ≤ 1000000) (hl : E.length ≤ 1000000) :
    Calls Tryz.prog 64 #[.int .i64 n, v] w fun e w' => (∃ u, e = .returned u ∧ Own w.heap.size 3 eNat 1 w' u (Gp.ordL n E)) ∧ Below w.heap.size w w' := by
  have hE0 := hE
  obtain ⟨a, cap, rfl, hcap, hbig, hs⟩ := hE
  have hll : n < 2147483648 := by omega
  clear hs
  go_enter Tryz.func64, Tryz.ntmps64
  go_wp2_with fail
  refine Calls.to (next_any n E _ w hE0 hv hn hl) ?_
  rintro e w2 ⟨ru, vs, rfl, hR⟩ hbw2
  clear hE0
  obtain ⟨ra, rc, hre⟩ := hR.out.isSlice
  have hvl : vs.length = n := by have := hR.len; simpa using this
  have HVL := Lib.hid hvl
  have HR := Lib.hid hR
  have HRE := Lib.hid hre
  rw [hvl] at hre
  subst hre
  clear hR hvl
  go_wp2_with (refine wpList_mk _ rfl _ _ 26 rfl w2.heap.size 3 _ 8 undInts infInt eInt 0 rfl rfl _ _ n rfl rfl rfl rfl hll (by omega) (Nat.le_refl _) ?_; intro w3 hown3 hb3 hlt3)
  go_loopw [27] (fun s27 wr => ∃ (j : Nat), j ≤ n ∧ s27 = .int .i64 j ∧ Own w2.heap.size 3 eInt 1 wr (.slice (some ⟨w2.heap.size, 0, none⟩) n n) (Gp.preL n E j) ∧ Below w2.heap.size w2 wr ∧ w2.heap.size < wr.heap.size) (fun i _ => n - (intOf i).toNat)
  case atStart => exact ⟨0, Nat.zero_le _, rfl, by rw [Gp.preL_zero]; exact hown3, hb3, hlt3⟩
  clear hown3 hb3 hlt3
  case round =>
    obtain ⟨j, hj, rfl, HO, hb, hlt⟩ := hrel
    by_cases hjn : j < n
    · have hjv : j < vs.length := by have := HVL.out; omega
      obtain ⟨rg, rc', hrp, _⟩ := HR.out.out.place (by omega)
      have hre2 := HRE.out
      rw [hrp] at hre2
      simp only [Value.slice.injEq] at hre2
      obtain ⟨rfl, _, rfl⟩ := hre2
      have hRp := HR.out
      rw [hrp] at hRp
      have q3 := OwnR.cellv (hRp.below hb) j hjv
      have hrow := fun W (hW : Below w2.heap.size w2 W) => (hRp.below hW).row j hjv (by simpa using hjn)
      simp only [List.getElem_map, List.getElem_range] at hrow
      obtain ⟨ka, kc, hke⟩ := (hrow w2 (Below.refl _ _)).isSlice
      simp only [hke] at q3 hrow
      clear hke hRp hrp
      have hks : ∀ k ∈ Gp.nxt n E j, k < n := fun k hk => (Gp.mem_nxt.1 hk).1
      have hnd := Lib.hid (Gp.nxt_nodup n E j)
      have hstep := Lib.hid (Gp.preL_succ (n := n) E j)
      have hsm : ∀ x ∈ (Gp.nxt n E j).drop 0, 0 ≤ (Gp.preL n E j).getD x 0 ∧ (Gp.preL n E j).getD x 0 ≤ (n : Int) := fun x _ => preL_small n E j x hj
      have hpl := Lib.hid (Gp.preL_len n E j)
      have hkl : (Gp.nxt n E j).length < 2147483648 := by have := Gp.nxt_len n E j; omega
      generalize Gp.nxt n E j = ks at *
      generalize Gp.preL n E j = wt at *
      go_wp2_with fail
      go_loopw [33] (fun s33 wr => ∃ (m : Nat) (wt2 : List Int), m ≤ ks.length ∧ s33 = .int .i64 m ∧ Own w2.heap.size 3 eInt 1 wr (.slice (some ⟨w2.heap.size, 0, none⟩) n n) wt2 ∧ Below w2.heap.size w2 wr ∧ w2.heap.size < wr.heap.size ∧ Hid (wt2.length = n) ∧ Hid (∀ x ∈ ks.drop m, 0 ≤ wt2.getD x 0 ∧ wt2.getD x 0 ≤ (n : Int)) ∧ Hid (Gp.addAll (ks.drop m) wt2 = Gp.addAll ks wt)) (fun i _ => ks.length - (intOf i).toNat)
      case atStart => exact ⟨0, wt, Nat.zero_le _, rfl, HO, hb, hlt, hpl, Lib.hid hsm, Lib.hid (by rw [List.drop_zero])⟩
      clear HO hb hlt q3 hsm
      case round =>
        obtain ⟨m, wt2, hm, rfl, HO, hb, hlt, HL2, HS2, HF⟩ := hrel
        by_cases hml : m < ks.length
        · obtain ⟨kb, ko, rfl, c2⟩ := (hrow wr hb).isC.nat m hml
          have hkn : ks[m] < n := hks _ (List.getElem_mem hml)
          have hko : ks[m] < wt2.length := by have := HL2.out; omega
          have q4 := HO.inti ks[m] hko
          have f4 : wr.frozen? ⟨w2.heap.size, ks[m], none⟩ = false := Own.free HO _
          have hOs := HO.seti ks[m] hko (wt2[ks[m]] + 1)
          have hdr := List.drop_eq_getElem_cons hml
          have hst : Hid (Gp.addAll (ks.drop m) wt2 = Gp.addAll (ks.drop (m + 1)) (wt2.set ks[m] (wt2[ks[m]] + 1))) := by
            rw [hdr, ← getD_at hko 0]; rfl
          have hxb := HS2.out ks[m] (by rw [hdr]; exact List.mem_cons_self ..)
          rw [getD_at hko] at hxb
          have hls : Hid ((wt2.set ks[m] (wt2[ks[m]] + 1)).length = n) := Lib.hid (by rw [List.length_set]; exact HL2.out)
          have hss : Hid (∀ x ∈ ks.drop (m + 1), 0 ≤ (wt2.set ks[m] (wt2[ks[m]] + 1)).getD x 0 ∧ (wt2.set ks[m] (wt2[ks[m]] + 1)).getD x 0 ≤ (n : Int)) := Lib.hid (fun x hx => by
            have h1 := HS2.out x (by rw [hdr]; exact List.mem_cons_of_mem _ hx)
            have hnd2 := (List.drop_sublist m ks).nodup hnd.out
            rw [hdr] at hnd2
            have hne : ks[m] ≠ x := fun e => (List.nodup_cons.1 hnd2).1 (e ▸ hx)
            rw [Gp.getD_set_ne hne]; exact h1)
          have x8 : IntKind.i64.wrap ((m : Int) + 1) = m + 1 := IntWalk.i64_in _ (by omega)
          have x9 : IntKind.i64.wrap (wt2[ks[m]] + 1) = wt2[ks[m]] + 1 := IntWalk.i64_in _ (by omega)
          have hb1 := hb.setCell (p := ⟨w2.heap.size, ks[m], none⟩) (Nat.le_refl w2.heap.size) (.int .i64 (wt2[ks[m]] + 1))
          have hl1 : w2.heap.size < (wr.setCell ⟨w2.heap.size, ks[m], none⟩ (.int .i64 (wt2[ks[m]] + 1))).heap.size := by simp [World.setCell]; exact hlt
          clear hdr hxb
          generalize wt2[ks[m]] = x at *
          generalize ks[m] = k at *
          clear hrow HO hb
          go_wp2_with fail
          go_roundw
          case measure => simp [intOf]; omega
          case rel => exact ⟨m + 1, wt2.set k (x + 1), by omega, by go_num, hOs, hb1, hl1, hls, hss, Lib.hid (hst.out.symm.trans HF.out)⟩
        · obtain rfl : m = ks.length := by omega
          have h1 : Hid (wt2 = Gp.preL n E (j + 1)) := Lib.hid (by
            rw [← hstep.out, ← HF.out, List.drop_length]; rfl)
          have x8 : IntKind.i64.wrap ((j : Int) + 1) = j + 1 := IntWalk.i64_in _ (by omega)
          clear hrow
          go_wp2_with fail
          go_roundw
          case measure => simp [intOf]; omega
          case rel => exact ⟨j + 1, by omega, by go_num, by rw [← h1.out]; exact HO, hb, hlt⟩
    · obtain rfl : n = j := by omega
      rw [Gp.preL_all] at HO
      have hHK := Gp.KInv.start hv
      have hwl : Hid ((Gp.cntL n E []).length = n) := Lib.hid (by simp [Gp.cntL])
      obtain ⟨wt, hwt⟩ : ∃ wt, wt = Gp.cntL n E [] := ⟨_, rfl⟩
      rw [← hwt] at HO hHK hwl
      have HK0 := Lib.hid hHK
      have HW0 := Lib.hid hwt
      clear hHK hwt
      go_wp2_with fail
      go_loopw [11, 47] (fun s11 s47 wr => ∃ (k : Nat), k ≤ n ∧ s47 = .int .i64 k ∧ Own (w2.heap.size + 1) 3 eNat 1 wr s11 ((List.range k).filter fun x => decide (wt.getD x 0 = 0)) ∧ Own w2.heap.size 3 eInt 1 wr (.slice (some ⟨w2.heap.size, 0, none⟩) n n) wt ∧ Below w2.heap.size w2 wr ∧ w2.heap.size < wr.heap.size) (fun _ i _ => n - (intOf i).toNat)
      case atStart => exact ⟨0, Nat.zero_le _, rfl, World.ownsRow_nil _ _ _ _, HO, hb, hlt⟩
      clear HO hb hlt
      case round =>
        obtain ⟨k, hk, rfl, HD, HO, hb, hlt⟩ := hrel
        by_cases hkn : k < n
        · have hko : k < wt.length := by have := hwl.out; omega
          have q4 := HO.inti k hko
          have hfs : Hid ((List.range (k + 1)).filter (fun x => decide (wt.getD x 0 = 0)) = (List.range k).filter (fun x => decide (wt.getD x 0 = 0)) ++ (if decide (wt[k] = 0) then [k] else [])) := by
            have := Lib.hid (filter_snoc (p := fun x => decide (wt.getD x 0 = 0)) (k := k))
            simp only [getD_at hko] at this
            exact this
          have hfl : ((List.range k).filter fun x => decide (wt.getD x 0 = 0)).length < 2147483648 := by
            have := List.length_filter_le (fun x => decide (wt.getD x 0 = 0)) (List.range k)
            simp only [List.length_range] at this
            omega
          have x8 : IntKind.i64.wrap ((k : Int) + 1) = k + 1 := IntWalk.i64_in _ (by omega)
          generalize wt[k] = x at *
          generalize (List.range k).filter (fun x => decide (wt.getD x 0 = 0)) = fl at *
          obtain ⟨fa, fc, rfl⟩ := HD.isSlice
          by_cases hx0 : x = 0
          · subst hx0
            have hs1 : w2.heap.size + 1 ≤ wr.heap.size := by omega
            go_wp2_with (at_builtin; go_must (refine wpList_pushR rfl _ _ 26 rfl 3 _ 1 8 undInts infInt rfl (by decide) k (fun _ => rfl) (by simp [Value.oneCell']) _ fl rfl HD wr.heap.size rfl rfl hfl (by decide) hs1 _ rfl ?_); intro g3 cap3 w5 hR5)
            have HD5 := hR5.own
            have HO5 := hR5.other HO (fun g hg e => by simp only [Value.ownBlock, Option.some.injEq] at hg; have h2 := (HD.lt g e).1; omega)
            have hb5 := hb.trans ((hR5.below HD hs1).mono (by omega))
            have hl5 : w2.heap.size < w5.heap.size := by have := hR5.grown.size; omega
            clear hR5 HD HO hb q4
            go_wp2_with fail
            go_roundw
            case measure => simp [intOf]; omega
            case rel =>
              refine ⟨k + 1, by omega, by go_num, ?_, HO5, hb5, hl5⟩
              rw [hfs.out]
              simpa using HD5
          · have hx1 : (x == 0) = false := by rw [beq_eq_false_iff_ne]; exact hx0
            have hx2 : decide (x = 0) = false := decide_eq_false hx0
            go_wp2_with fail
            go_roundw
            case measure => simp [intOf]; omega
            case rel =>
              refine ⟨k + 1, by omega, by go_num, ?_, HO, hb, hlt⟩
              rw [hfs.out, hx2]
              simpa using HD
        · obtain rfl : n = k := by omega
          generalize (List.range n).filter (fun x => decide (wt.getD x 0 = 0)) = rd0 at *
          have hord : Hid (Gp.ordF n E n [] = Gp.ordL n E) := rfl
          have HKx : Hid (Gp.KInv n E [] rd0 wt) := HK0
          obtain ⟨da, dc, rfl⟩ := HD.isSlice
          have hrd : RdyO (w2.heap.size + 1) wr (.slice da rd0.length dc) rd0 := by
            by_cases hr0 : 0 < rd0.length
            · exact .inr (OwnO.ofOwn HD hr0)
            · have h0 : rd0 = [] := List.eq_nil_of_length_eq_zero (by omega)
              exact .inl ⟨h0, da, dc, by rw [h0]; rfl⟩
          clear HD HK0 HW0
          go_wp2_with fail
          go_loopw [11, 12] (fun s11 s12 wr => ∃ (rd out : List Nat) (wt2 : List Int), RdyO (w2.heap.size + 1) wr s11 rd ∧ Own (w2.heap.size + 1) 3 eNat 1 wr s12 out ∧ (∀ g, s11.ownBlock = some g → s12.ownBlock ≠ some g) ∧ Own w2.heap.size 3 eInt 1 wr (.slice (some ⟨w2.heap.size, 0, none⟩) n n) wt2 ∧ Below w2.heap.size w2 wr ∧ w2.heap.size < wr.heap.size ∧ Hid (Gp.KInv n E out rd wt2) ∧ Hid (Gp.ordF n E n out = Gp.ordL n E)) (fun _ s12 _ => n - vLen s12)
          case atStart => exact ⟨rd0, [], wt, hrd, World.ownsRow_nil _ _ _ _, fun g _ e => (by simp [Value.ownBlock] at e), HO, hb, hlt, HKx, hord⟩
          clear hrd HO hb hlt HKx hord hwl
          case round =>
            obtain ⟨rd, out, wt2, HRD, HU, hsep, HO, hb, hlt, HK, HF⟩ := hrel
            obtain ⟨oa, oc, rfl⟩ := HU.isSlice
            rcases HRD with ⟨rfl, ra0, rc0, rfl⟩ | HRD
            · have hfin : Hid (out = Gp.ordL n E) := Lib.hid ((ordF_none HK.out.empty n).symm.trans HF.out)
              go_wp2_with fail
              go_ret
              exact ⟨⟨_, rfl, by rw [← hfin.out]; exact HU.base (by have := hbw2.size; omega)⟩, hbw2.trans (hb.mono hbw2.size)⟩
            · obtain ⟨g, off, c, rfl⟩ := HRD.isSlice
              by_cases hr : 0 < rd.length
              · obtain ⟨i, r, hir⟩ : ∃ i r, rd = i :: r := by
                  cases rd with
                  | nil => simp at hr
                  | cons i r => exact ⟨i, r, rfl⟩
                have e0 : rd[0]'hr = i := by subst hir; rfl
                have c1 := HRD.cellAt 0 hr
                rw [e0, Nat.add_zero] at c1
                obtain ⟨off', c', HT, hrun⟩ := OwnO.tail (x := i) (xs := r) (n := rd.length) (c := c) (by rw [← hir]; exact HRD)
                rw [← hir] at hrun
                have HKh : Gp.KInv n E out (i :: r) wt2 := hir ▸ HK.out
                have hin : i < n := ((HKh.mem i).1 (List.mem_cons_self ..)).1
                have hio : i ∉ out := (Gp.rdyB_iff.1 ((HKh.mem i).1 (List.mem_cons_self ..)).2).1
                have hol : out.length < n := HKh.o.next_len HKh.head
                have hord' : Hid (Gp.ordF n E n (out ++ [i]) = Gp.ordL n E) := Lib.hid ((Gp.ordL_step n HKh.o (by omega) HKh.head).symm.trans HF.out)
                have hnext := Lib.hid (HKh.step hv)
                have hnot : ∀ k ∈ Gp.nxt n E i, k ∉ r := by
                  intro k hk hkr
                  have := (Gp.rdyB_iff.1 ((HKh.mem k).1 (List.mem_cons_of_mem _ hkr)).2).2 i (Gp.mem_nxt.1 hk).2
                  exact hio this
                have hra : r.Pairwise (· < ·) := (List.pairwise_cons.1 HKh.asc).2
                have hrn : ∀ x ∈ r, x < n := fun x hx => ((HKh.mem x).1 (List.mem_cons_of_mem _ hx)).1
                have hwl2 : Hid (wt2.length = n) := Lib.hid (by rw [HKh.w]; simp [Gp.cntL])
                have hsm : ∀ x, 0 ≤ wt2.getD x 0 ∧ wt2.getD x 0 ≤ (n : Int) := fun x => by rw [HKh.w]; exact cntL_small n E out x
                have hiv : i < vs.length := by have := HVL.out; omega
                obtain ⟨rg, rc', hrp, _⟩ := HR.out.out.place (by omega)
                have hre2 := HRE.out
                rw [hrp] at hre2
                simp only [Value.slice.injEq] at hre2
                obtain ⟨rfl, _, rfl⟩ := hre2
                have hRp := HR.out
                rw [hrp] at hRp
                have q3 := fun W (hW : Below w2.heap.size w2 W) => OwnR.cellv (hRp.below hW) i hiv
                have hrow := fun W (hW : Below w2.heap.size w2 W) => (hRp.below hW).row i hiv (by simpa using hin)
                simp only [List.getElem_map, List.getElem_range] at hrow
                obtain ⟨ka, kc, hke⟩ := (hrow w2 (Below.refl _ _)).isSlice
                simp only [hke] at q3 hrow
                clear hke hRp hrp HKh HK HRD e0
                have hks : ∀ k ∈ Gp.nxt n E i, k < n := fun k hk => (Gp.mem_nxt.1 hk).1
                have hnd := Lib.hid (Gp.nxt_nodup n E i)
                have hkl : (Gp.nxt n E i).length < 2147483648 := by have := Gp.nxt_len n E i; omega
                have hin0 : Hid (r.Pairwise (· < ·) ∧ (∀ x ∈ r, x < n) ∧ ∀ x ∈ (Gp.nxt n E i).drop 0, x ∉ r ∧ 0 ≤ wt2.getD x 0 ∧ wt2.getD x 0 ≤ (n : Int)) := Lib.hid ⟨hra, hrn, fun x hx => ⟨hnot x hx, hsm x⟩⟩
                clear hra hrn hnot hsm
                generalize Gp.nxt n E i = ks at *
                have hs1 : w2.heap.size + 1 ≤ wr.heap.size := by omega
                have hol2 : out.length < 2147483648 := by omega
                have HIR := Lib.hid hir
                clear hir
                go_wp2_with (at_builtin; go_must (refine wpList_pushR rfl _ _ 26 rfl 3 _ 1 8 undInts infInt rfl (by decide) i (fun _ => rfl) (by simp [Value.oneCell']) _ out rfl HU wr.heap.size rfl rfl hol2 (by decide) hs1 _ rfl ?_); intro g5 cap5 w5 hR5; have hb5 := hb.trans ((hR5.below HU hs1).mono (by omega)); have q5 := q3 w5 hb5)
                have HU5 := hR5.own
                have HT5 := HT.kept hR5.grown (fun g' hg e => hsep g' hg e)
                have HO5 := hR5.other HO (fun g' hg e => by simp only [Value.ownBlock, Option.some.injEq] at hg; have h2 := (HU.lt g' e).1; omega)
                have hl5 : w2.heap.size < w5.heap.size := by have := hR5.grown.size; omega
                have hsep5 : ∀ g', (Value.slice (some ⟨g, off', none⟩) r.length c').ownBlock = some g' → (Value.slice (some ⟨g5, 0, none⟩) (out.length + 1) cap5).ownBlock ≠ some g' := fun g' hg e => by
                  rcases hR5.place g' e with h1 | h1
                  · exact hsep g' hg h1
                  · have := (HT.lt g' hg).2; omega
                clear hR5 HU HT HO hb hlt hsep c1 hrun q3 hs1
                go_wp2_with fail
                go_loopw [11, 76] (fun s11 s76 wr => ∃ (m : Nat) (rd2 : List Nat) (wt3 : List Int), m ≤ ks.length ∧ s76 = .int .i64 m ∧ OwnO (w2.heap.size + 1) wr s11 rd2 ∧ Own (w2.heap.size + 1) 3 eNat 1 wr (.slice (some ⟨g5, 0, none⟩) (out.length + 1) cap5) (out ++ [i]) ∧ (∀ g', s11.ownBlock = some g' → (Value.slice (some ⟨g5, 0, none⟩) (out.length + 1) cap5).ownBlock ≠ some g') ∧ Own w2.heap.size 3 eInt 1 wr (.slice (some ⟨w2.heap.size, 0, none⟩) n n) wt3 ∧ Below w2.heap.size w2 wr ∧ w2.heap.size < wr.heap.size ∧ Hid (wt3.length = n) ∧ Hid (rd2.Pairwise (· < ·) ∧ (∀ x ∈ rd2, x < n) ∧ ∀ x ∈ ks.drop m, x ∉ rd2 ∧ 0 ≤ wt3.getD x 0 ∧ wt3.getD x 0 ≤ (n : Int)) ∧ Hid (Gp.relax (ks.drop m) wt3 rd2 = Gp.relax ks wt2 r)) (fun _ i _ => ks.length - (intOf i).toNat)
                case atStart => exact ⟨0, r, wt2, Nat.zero_le _, rfl, HT5, HU5, hsep5, HO5, hb5, hl5, hwl2, hin0, Lib.hid (by rw [List.drop_zero])⟩
                clear HT5 HU5 hsep5 HO5 hb5 hl5 hwl2 hin0 q5
                case round =>
                  obtain ⟨m, rd2, wt3, hm, rfl, HT, HU, hsep, HO, hb, hlt, HL3, HS3, HF3⟩ := hrel
                  obtain ⟨tg, toff, tc, rfl⟩ := HT.isSlice
                  by_cases hml : m < ks.length
                  · obtain ⟨kb, ko, rfl, c2⟩ := (hrow wr hb).isC.nat m hml
                    have hkn : ks[m] < n := hks _ (List.getElem_mem hml)
                    have hko : ks[m] < wt3.length := by have := HL3.out; omega
                    have q4 := HO.inti ks[m] hko
                    have f4 : wr.frozen? ⟨w2.heap.size, ks[m], none⟩ = false := Own.free HO _
                    obtain ⟨y, hy⟩ : ∃ y, y = wt3[ks[m]] - 1 := ⟨_, rfl⟩
                    have hOs := HO.seti ks[m] hko y
                    have hdr := List.drop_eq_getElem_cons hml
                    have hst : Hid (Gp.relax (ks.drop m) wt3 rd2 = if y = 0 then Gp.relax (ks.drop (m + 1)) (wt3.set ks[m] y) (Gp.insN ks[m] rd2) else Gp.relax (ks.drop (m + 1)) (wt3.set ks[m] y) rd2) := by
                      rw [hdr, hy, ← getD_at hko 0]; rfl
                    obtain ⟨s1, s2, s3⟩ := HS3.out
                    obtain ⟨hkr, hxb1, hxb2⟩ := s3 ks[m] (by rw [hdr]; exact List.mem_cons_self ..)
                    rw [getD_at hko] at hxb1 hxb2
                    have hls : Hid ((wt3.set ks[m] y).length = n) := Lib.hid (by rw [List.length_set]; exact HL3.out)
                    have hnd2 := (List.drop_sublist m ks).nodup hnd.out
                    rw [hdr] at hnd2
                    have hne2 : ∀ x ∈ ks.drop (m + 1), ks[m] ≠ x := fun x hx e => (List.nodup_cons.1 hnd2).1 (e ▸ hx)
                    have hrest : ∀ x ∈ ks.drop (m + 1), x ∉ rd2 ∧ 0 ≤ (wt3.set ks[m] y).getD x 0 ∧ (wt3.set ks[m] y).getD x 0 ≤ (n : Int) := fun x hx => by
                      rw [Gp.getD_set_ne (hne2 x hx)]
                      exact s3 x (by rw [hdr]; exact List.mem_cons_of_mem _ hx)
                    have hsA : Hid (rd2.Pairwise (· < ·) ∧ (∀ x ∈ rd2, x < n) ∧ ∀ x ∈ ks.drop (m + 1), x ∉ rd2 ∧ 0 ≤ (wt3.set ks[m] y).getD x 0 ∧ (wt3.set ks[m] y).getD x 0 ≤ (n : Int)) := Lib.hid ⟨s1, s2, hrest⟩
                    have hsB : Hid ((Gp.insN ks[m] rd2).Pairwise (· < ·) ∧ (∀ x ∈ Gp.insN ks[m] rd2, x < n) ∧ ∀ x ∈ ks.drop (m + 1), x ∉ Gp.insN ks[m] rd2 ∧ 0 ≤ (wt3.set ks[m] y).getD x 0 ∧ (wt3.set ks[m] y).getD x 0 ≤ (n : Int)) := Lib.hid ⟨Gp.insN_asc s1 hkr, fun x hx => by
                      rcases Gp.mem_insN.1 hx with e | e
                      · rw [e]; exact hkn
                      · exact s2 x e, fun x hx => ⟨fun h => by
                      rcases Gp.mem_insN.1 h with e | e
                      · exact hne2 x hx e.symm
                      · exact (hrest x hx).1 e, (hrest x hx).2⟩⟩
                    have hrl : rd2.length ≤ 1000000 := by
                      have := Gp.nodup_le n rd2 (Gp.asc_nodup s1) s2; omega
                    have x8 : IntKind.i64.wrap ((m : Int) + 1) = m + 1 := IntWalk.i64_in _ (by omega)
                    have x9 : IntKind.i64.wrap (wt3[ks[m]] - 1) = y := by rw [hy]; exact IntWalk.i64_in _ (by omega)
                    have hb1 := hb.setCell (p := ⟨w2.heap.size, ks[m], none⟩) (Nat.le_refl w2.heap.size) (.int .i64 y)
                    have hl1 : w2.heap.size < (wr.setCell ⟨w2.heap.size, ks[m], none⟩ (.int .i64 y)).heap.size := by simp [World.setCell]; exact hlt
                    have HT1 := HT.set' ⟨w2.heap.size, ks[m], none⟩ (.int .i64 y) (fun e => by have := (HT.lt _ e).1; simp only at this; omega)
                    have HU1 := HU.set' ⟨w2.heap.size, ks[m], none⟩ (.int .i64 y) (fun e => by have := (HU.lt _ e).1; simp only at this; omega)
                    clear hdr hxb1 hxb2 hy hnd2 hne2 hrest HS3 hkr s3 s2
                    generalize wt3[ks[m]] = x at *
                    generalize ks[m] = k at *
                    clear hrow HO hb HT HU
                    by_cases hy0 : y = 0
                    · subst hy0
                      go_wp2_with fail
                      refine Calls.to (searchO_any rd2 k _ (w2.heap.size + 1) _ HT1 s1 hrl) ?_
                      rintro e w6 ⟨bb, rfl⟩ hb6
                      have hb66 := hb1.trans (hb6.mono (by omega))
                      have hl6 : w2.heap.size < w6.heap.size := by have := hb6.size; omega
                      have HT6 := (HT1.below hb6).below (alloc_below w6 (.cells #[.int .i64 (k : Int)] 3))
                      have HU6 := (HU1.below hb6).below (alloc_below w6 (.cells #[.int .i64 (k : Int)] 3))
                      have HO6 := (hOs.below hb6).below (alloc_below w6 (.cells #[.int .i64 (k : Int)] 3))
                      have hbA := hb66.trans ((alloc_below w6 (.cells #[.int .i64 (k : Int)] 3)).mono (by omega))
                      have hlA : w2.heap.size + 1 ≤ (w6.alloc (.cells #[.int .i64 (k : Int)] 3)).heap.size := by simp; omega
                      have hgl : tg < w6.heap.size := ((HT1.below hb6).lt tg rfl).2
                      clear HT1 HU1 hOs hb1 hl1 hb6 hb66 q4 f4 c2
                      go_wp2_with fail
                      refine (insO_any rd2 (rd2.countP fun x => decide (x < k)) k w6.heap.size 1 _ (w2.heap.size + 1) _ HT6 List.countP_le_length hrl (heap_alloc_new w6 _) (by simp [Value.ownBlock]; omega) hlA).mono ?_
                      rintro e w7 ⟨v', rfl, hS7⟩
                      have HT7 : OwnO (w2.heap.size + 1) w7 v' (Gp.insN k rd2) := hS7.own
                      have HU7 := HU6.kept hS7.grown (fun g' hg e => hsep g' e hg)
                      have HO7 := HO6.kept hS7.grown (fun g' hg e => by simp only [Value.ownBlock, Option.some.injEq] at hg e; have := (HT6.lt tg rfl).1; omega)
                      have hb7 := hbA.grown hS7.grown (by omega) (fun k' hk' => by have := (HT6.lt k' hk').1; omega)
                      have hl7 : w2.heap.size < w7.heap.size := by have := hS7.grown.size; omega
                      have hsep7 : ∀ g', v'.ownBlock = some g' → (Value.slice (some ⟨g5, 0, none⟩) (out.length + 1) cap5).ownBlock ≠ some g' := fun g' hg e => by
                        rcases hS7.place g' hg with h1 | h1
                        · exact hsep g' h1 e
                        · have := (HU6.lt g' e).2; omega
                      clear hS7 HT6 HU6 HO6 hbA hlA hsep
                      simp only [if_true] at hst
                      go_wp2_with fail
                      go_roundw
                      case measure => simp [intOf]; omega
                      case rel => exact ⟨m + 1, Gp.insN k rd2, wt3.set k 0, by omega, by go_num, HT7, HU7, hsep7, HO7, hb7, hl7, hls, hsB, Lib.hid (hst.out.symm.trans HF3.out)⟩
                    · have hy1 : (y == 0) = false := by rw [beq_eq_false_iff_ne]; exact hy0
                      rw [if_neg hy0] at hst
                      clear hsB
                      go_wp2_with fail
                      go_roundw
                      case measure => simp [intOf]; omega
                      case rel => exact ⟨m + 1, rd2, wt3.set k y, by omega, by go_num, HT1, HU1, hsep, hOs, hb1, hl1, hls, hsA, Lib.hid (hst.out.symm.trans HF3.out)⟩
                  · obtain rfl : m = ks.length := by omega
                    have h1 : Gp.relax ks wt2 r = (wt3, rd2) := by
                      rw [← HF3.out, List.drop_length]; rfl
                    rw [h1] at hnext
                    clear hrow h1
                    go_wp2_with fail
                    go_roundw
                    case measure => simp [vLen]; omega
                    case rel =>
                      exact ⟨rd2, out ++ [i], wt3, .inr HT, HU, hsep, HO, hb, hlt, hnext, hord'⟩
              · obtain rfl : rd = [] := List.eq_nil_of_length_eq_zero (by omega)
                have hfin : Hid (out = Gp.ordL n E) := Lib.hid ((ordF_none HK.out.empty n).symm.trans HF.out)
                go_wp2_with fail
                go_ret
                exact ⟨⟨_, rfl, by rw [← hfin.out]; exact HU.base (by have := hbw2.size; omega)⟩, hbw2.trans (hb.mono hbw2.size)⟩

end Go.Proofs.YtlcfnbnpkcjjlaaGreat
