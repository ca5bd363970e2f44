/- Least paths and loops: digraph.Path, digraph.Loop. Conditions: the edges read as data. -/
import Derived.Test.YthnhlaljnkdmfaaDgw
namespace Go.Proofs.Ythnhlaljnkdmfaa
open Go.RowKit
set_option linter.unusedVariables false
set_option linter.unusedSimpArgs false

set_option maxRecDepth 100000 in
set_option maxHeartbeats 2000000 in
theorem path_bad (n : Int) (E : List (Int × Int)) (a b : Int) (v : Value) (w : World) (hE : IsEis w v E) (hbad : validB n E = false) :
    Calls Try.prog 28 #[.int .i64 n, v, .int .i64 a, .int .i64 b] w fun e w' => e = .returned (.tuple #[.slice none 0 0, .int .i64 1]) ∧ Below w.heap.size w w' := by
  have hc := valid_any n E v w hE
  rw [hbad] at hc
  go_enter Try.func28, Try.ntmps28
  go_wp2_with fail
  refine Calls.to hc ?_
  rintro e w1 rfl hb
  go_wp2_with fail
  go_ret2
  exact ⟨rfl, hb⟩

set_option maxRecDepth 100000 in
set_option maxHeartbeats 2000000 in
theorem path_rng (n : Int) (E : List (Int × Int)) (a b : Int) (v : Value) (w : World) (hE : IsEis w v E) (hok : validB n E = true) (hab : (isB n a && isB n b) = false) :
    Calls Try.prog 28 #[.int .i64 n, v, .int .i64 a, .int .i64 b] w fun e w' => e = .returned (.tuple #[.slice none 0 0, .int .i64 2]) ∧ Below w.heap.size w w' := by
  have hc := valid_any n E v w hE
  rw [hok] at hc
  have ha := fun W => is_any n a W
  have hb := fun W => is_any n b W
  cases h1 : isB n a
  · simp only [h1] at ha
    go_enter Try.func28, Try.ntmps28
    go_wp2_with fail
    refine Calls.to hc ?_
    rintro e w1 rfl hb1
    go_wp2_with fail
    refine (ha _).mono ?_
    rintro e w2 ⟨rfl, rfl⟩
    go_wp2_with fail
    go_ret2
    exact ⟨rfl, hb1⟩
  · rw [h1, Bool.true_and] at hab
    simp only [h1] at ha
    simp only [hab] at hb
    go_enter Try.func28, Try.ntmps28
    go_wp2_with fail
    refine Calls.to hc ?_
    rintro e w1 rfl hb1
    go_wp2_with fail
    refine (ha _).mono ?_
    rintro e w2 ⟨rfl, rfl⟩
    go_wp2_with fail
    refine (hb _).mono ?_
    rintro e w2 ⟨rfl, rfl⟩
    go_wp2_with fail
    go_ret2
    exact ⟨rfl, hb1⟩

theorem pthL_self {n : Nat} {E : Gp.Gr} {a : Nat} (hv : Gp.vtx n E) (ha : a < n) : Gp.pthL n E a a = some [a] := by
  unfold Gp.pthL
  rw [(Gp.stepsL_is (low := 0) hv ha).self ha]
  simp [Gp.lpR]
theorem pthL_none {n : Nat} {E : Gp.Gr} {a b : Nat} {D : List Int} (hv : Gp.vtx n E) (hb : b < n) (hI : Gp.IsD n E 0 b false D) (h : D.getD a (-1) < 0) : Gp.pthL n E a b = none := by
  rw [hI.uniq (Gp.stepsL_is (low := 0) hv hb)] at h
  unfold Gp.pthL
  rw [if_pos h]
theorem pthL_some {n : Nat} {E : Gp.Gr} {a b m : Nat} {D : List Int} (hv : Gp.vtx n E) (ha : a < n) (hb : b < n) (hab : a ≠ b) (hI : Gp.IsD n E 0 b false D) (h : D.getD a (-1) = ((m + 1 : Nat) : Int)) : Gp.pthL n E a b = some ((a :: Gp.wlkG n E D b 0 m a) ++ [b]) := by
  have hS := Gp.stepsL_is (low := 0) hv hb
  have hw := Gp.wlk_lp hv hI hS hb m a ha hab (by rw [← hI.uniq hS]; exact h)
  rw [hw]
  unfold Gp.pthL
  rw [← hI.uniq hS, h, if_neg (by omega), Int.toNat_natCast]

set_option maxRecDepth 100000 in
set_option maxHeartbeats 4000000 in
theorem path_ok (n : Nat) (E : List (Nat × Nat)) (a b : Nat) (v : Value) (w : World) (hE : IsEds w v E) (hv : Gp.vtx n E) (hn : n ≤ 300) (hl : E.length ≤ 1000) (ha : a < n) (hb : b < n) :
    Calls Try.prog 28 #[.int .i64 n, v, .int .i64 a, .int .i64 b] w fun e w' => (∃ u c, e = .returned (.tuple #[u, .int .i64 c]) ∧ ((Gp.pthL n E a b = none ∧ c = 12 ∧ u = .slice none 0 0) ∨ ∃ l, Gp.pthL n E a b = some l ∧ c = 0 ∧ Own w.heap.size 3 eNat 1 w' u l)) ∧ Below w.heap.size w w' := by
  have hc := valid_any n (edI E) v w (isL_edI.2 hE)
  rw [validB_ok hv hn hl] at hc
  have hia := fun W => is_any n a W
  have hib := fun W => is_any n b W
  have h1 : isB n a = true := by simp [isB]; omega
  have h2 : isB n b = true := by simp [isB]; omega
  simp only [h1] at hia
  simp only [h2] at hib
  by_cases hab : a = b
  · subst hab
    have hp := pthL_self hv ha
    go_enter Try.func28, Try.ntmps28
    go_wp2_with fail
    refine Calls.to hc ?_
    rintro e w1 rfl hb1
    go_wp2_with fail
    refine (hia _).mono ?_
    rintro e w2 ⟨rfl, rfl⟩
    go_wp2_with fail
    refine (hib _).mono ?_
    rintro e w2 ⟨rfl, rfl⟩
    have hO := Own.fresh (enc := eNat) (k := 1) (fun _ => rfl) w2 w.heap.size hb1.size 3 a #[.int .i64 a] rfl
    go_wp2_with fail
    go_ret2
    exact ⟨⟨_, _, rfl, .inr ⟨[a], hp, rfl, hO⟩⟩, by repeat' (first | exact Below.refl _ _ | assumption | refine Below.more ?_ ?_ _ | refine Below.alloc ?_ ?_ _ | refine Below.drew ?_ | refine below_drewN ?_ _ | refine Below.setCell ?_ ?_ _ | exact Below.size (by assumption) | (simp [go_sem, size_more]; done) | (simp [go_sem, size_more]; omega))⟩
  · have hab1 : (a == b) = false := by simpa using hab
    have hab2 : ((a : Int) == (b : Int)) = false := by rw [beq_eq_false_iff_ne]; omega
    go_enter Try.func28, Try.ntmps28
    go_wp2_with fail
    refine Calls.to hc ?_
    rintro e w1 rfl hb1
    go_wp2_with fail
    refine (hia _).mono ?_
    rintro e w2 ⟨rfl, rfl⟩
    go_wp2_with fail
    refine (hib _).mono ?_
    rintro e w2 ⟨rfl, rfl⟩
    have hE1 := hE.mono hb1
    go_wp2_with fail
    refine Calls.to (dist_any n E v b 0 false w2 hE1 hv (by omega) (by omega) hb (Nat.zero_le _)) ?_
    rintro e w3 ⟨du, D, rfl, hD, hI⟩ hb3
    have hb13 := hb1.trans (hb3.mono hb1.size)
    obtain ⟨dg, dc, rfl, _, hdg, _, _⟩ := hD.place (by rw [hI.len]; omega)
    have hal : a < D.length := by rw [hI.len]; exact ha
    have c1 := hD.inti a hal
    have hgD := getD_at hal (-1)
    by_cases hx : D[a] < 0
    · have hp := Lib.hid (pthL_none (a := a) hv hb hI (by rw [hgD]; exact hx))
      have hx1 : decide (D[a] < 0) = true := decide_eq_true hx
      generalize D[a] = x at *
      clear hgD
      go_wp2_with fail
      go_ret2
      exact ⟨⟨_, _, rfl, .inl ⟨hp.out, rfl, rfl⟩⟩, hb13⟩
    · have hx1 : decide (D[a] < 0) = false := decide_eq_false hx
      obtain ⟨k, hk, hkd⟩ := hI.nonneg ha (by rw [hgD]; omega)
      obtain ⟨m, rfl⟩ : ∃ m, k = m + 1 := by
        cases k with
        | zero => exact absurd hkd.1.1.zero' hab
        | succ m => exact ⟨m, rfl⟩
      have hp := Lib.hid (pthL_some hv ha hb hab hI hk)
      have hDL := hD.isL (fun _ => rfl)
      have HD := Lib.hid hD
      have hkk := Lib.hid hk
      generalize D[a] = x at *
      clear hgD hk hD
      have hE3 := hE1.mono hb3
      go_wp2_with fail
      refine Calls.to (next_any n E v w3 hE3 hv (by omega) (by omega)) ?_
      rintro e w4 ⟨ru, vs, rfl, hR⟩ hb4
      have hDL4 := hDL.mono hb4
      go_wp2_with fail
      refine Calls.to (walk_any n E D a b 0 m false _ ru _ vs w4 hR hDL4 hv hI (by omega) ha hb hkk.out) ?_
      rintro e w5 ⟨wu, rfl, hW⟩ hb5
      have hwl : (a :: Gp.wlkG n E D b 0 m a).length < 2147483648 := by
        rw [List.length_cons, Gp.wlkG_len]
        have := Wk_small hv hb hkd
        omega
      have hb15 := (hb13.trans (hb4.mono hb13.size)).trans (hb5.mono (by have := hb13.size; have := hb4.size; omega))
      have hs5 : w4.heap.size ≤ w5.heap.size := hb5.size
      generalize a :: Gp.wlkG n E D b 0 m a = wl at *
      obtain ⟨wa, wc, rfl⟩ := hW.isSlice
      go_wp2_with (at_builtin; go_must (refine wpList_pushR rfl _ _ 25 rfl 3 _ 1 8 undInts infInt rfl (by decide) b (fun _ => rfl) (by simp [Value.oneCell']) _ wl rfl hW w5.heap.size rfl rfl hwl (by decide) hs5 _ rfl ?_); intro g7 cap7 w7 hR7)
      have hO7 := hR7.own
      have hb57 := hR7.below hW hs5
      have hs45 : w.heap.size ≤ w4.heap.size := by have := hb13.size; have := hb4.size; omega
      go_wp2_with fail
      go_ret2
      exact ⟨⟨_, _, rfl, .inr ⟨_, hp.out, rfl, hO7.base hs45⟩⟩, hb15.trans (hb57.mono hs45)⟩

set_option maxRecDepth 100000 in
set_option maxHeartbeats 2000000 in
theorem loop_bad (n : Int) (E : List (Int × Int)) (v : Value) (w : World) (hE : IsEis w v E) (hbad : validB n E = false) :
    Calls Try.prog 20 #[.int .i64 n, v] w fun e w' => e = .returned (.tuple #[.slice none 0 0, .int .i64 1]) ∧ Below w.heap.size w w' := by
  have hc := valid_any n E v w hE
  rw [hbad] at hc
  go_enter Try.func20, Try.ntmps20
  go_wp2_with fail
  refine Calls.to hc ?_
  rintro e w1 rfl hb
  go_wp2_with fail
  go_ret2
  exact ⟨rfl, hb⟩

def lopK (n : Nat) (E : Gp.Gr) (k : Nat) : List Nat := (List.range k).foldl (Gp.lopS n E) []
theorem lopK_succ (n : Nat) (E : Gp.Gr) (k : Nat) : lopK n E (k + 1) = Gp.lopS n E (lopK n E k) k := by
  unfold lopK
  rw [List.range_succ, List.foldl_append]; rfl
theorem lopK_len {n : Nat} {E : Gp.Gr} (hv : Gp.vtx n E) : ∀ k, k ≤ n → (lopK n E k).length ≤ n
  | 0, _ => by simp [lopK]
  | k + 1, h => by
    rw [lopK_succ]
    unfold Gp.lopS
    split
    · exact Gp.cycL_len_le hv (by omega)
    · exact lopK_len hv k (by omega)
/-- The best loop so far: none, or a row of the call's own. -/
def RowB (base : Nat) (w : World) (v : Value) (xs : List Nat) : Prop := (xs = [] ∧ v = .slice none 0 0) ∨ (0 < xs.length ∧ Own base 3 eNat 1 w v xs)
theorem RowB.below {base : Nat} {w w' : World} {v : Value} {xs : List Nat} (h : RowB base w v xs) (hb : Below w.heap.size w w') : RowB base w' v xs := by
  rcases h with h | ⟨h1, h2⟩
  · exact .inl h
  · exact .inr ⟨h1, h2.below hb⟩

set_option maxRecDepth 100000 in
set_option maxHeartbeats 8000000 in
theorem loop_ok (n : Nat) (E : List (Nat × Nat)) (v : Value) (w : World) (hE : IsEds w v E) (hv : Gp.vtx n E) (hn : n ≤ 300) (hl : E.length ≤ 1000) :
    Calls Try.prog 20 #[.int .i64 n, v] w fun e w' => (∃ u c, e = .returned (.tuple #[u, .int .i64 c]) ∧ ((Gp.lopL n E = [] ∧ c = 12 ∧ u = .slice none 0 0) ∨ (0 < (Gp.lopL n E).length ∧ c = 0 ∧ Own w.heap.size 3 eNat 1 w' u (Gp.lopL n E)))) ∧ Below w.heap.size w w' := by
  have hc := valid_any n (edI E) v w (isL_edI.2 hE)
  rw [validB_ok hv hn hl] at hc
  have hnil := fun (w : World) a n c => Lib.run_eql_slice_nil (P := Try.prog) w 25 3 a n c 0 0 undInts
  have hfin : Hid (Gp.lopL n E = lopK n E n) := rfl
  go_enter Try.func20, Try.ntmps20
  go_wp2_with fail
  refine Calls.to hc ?_
  rintro e w1 rfl hb1
  have hE1 := hE.mono hb1
  go_wp2_with fail
  refine Calls.to (next_any n E v w1 hE1 hv (by omega) (by omega)) ?_
  rintro e w2 ⟨ru, vs, rfl, hR⟩ hb2
  have hb12 := hb1.trans (hb2.mono hb1.size)
  have HR := Lib.hid hR
  clear hR hc
  go_wp2_with fail
  go_loopw [7, 18] (fun s7 s18 wr => ∃ (i : Nat) (best : List Nat), i ≤ n ∧ s18 = .int .i64 i ∧ Below w2.heap.size w2 wr ∧ RowB w2.heap.size wr s7 best ∧ Hid (best = lopK n E i)) (fun _ s18 _ => n - (intOf s18).toNat)
  case atStart => exact ⟨0, [], Nat.zero_le _, rfl, Below.refl _ _, .inl ⟨rfl, rfl⟩, rfl⟩
  case round =>
    obtain ⟨i, best, hi, rfl, hb, HB, HK⟩ := hrel
    by_cases hin : i < n
    · have hEr := (hE1.mono hb2).mono hb
      have hbl : best.length ≤ n := by rw [HK.out]; exact lopK_len hv i hi
      have hnx := Lib.hid (lopK_succ n E i)
      rw [← HK.out] at hnx
      have x8 : IntKind.i64.wrap ((i : Int) + 1) = i + 1 := IntWalk.i64_in _ (by omega)
      clear HK
      go_wp2_with fail
      refine Calls.to (dist_any n E v i i true wr hEr hv (by omega) (by omega) hin (Nat.le_refl _)) ?_
      rintro e w5 ⟨du, D, rfl, hD, hI⟩ hb5
      have hb25 := hb.trans (hb5.mono hb.size)
      have HB5 := HB.below hb5
      obtain ⟨dg, dc, rfl, _, hdg, _, _⟩ := hD.place (by rw [hI.len]; omega)
      have hal : i < D.length := by rw [hI.len]; exact hin
      have c1 := hD.inti i hal
      have hgD := getD_at hal (-1)
      have hcy := Gp.cyc_is hv hI hin
      rw [hgD] at hcy
      have hDL := hD.isL (fun _ => rfl)
      by_cases hx : 0 < D[i]
      · have hx1 : decide (0 < D[i]) = true := decide_eq_true hx
        obtain ⟨m, hm⟩ : ∃ m : Nat, D[i] = ((m + 1 : Nat) : Int) := ⟨(D[i] - 1).toNat, by omega⟩
        have hm2 : D.getD i (-1) = ((m + 1 : Nat) : Int) := by rw [hgD, hm]
        rw [if_pos hx, show (D[i] - 1).toNat = m by omega] at hcy
        have hcl : (Gp.cycL n E i).length = m + 1 := by rw [hcy, List.length_cons, Gp.wlkG_len]
        have hne : Gp.cycL n E i ≠ [] := by rw [hcy]; simp
        have hmn := Wk_small hv hin (hI.of_get hin hm2)
        unfold Gp.lopS at hnx
        rw [hcl] at hnx
        have HCY := Lib.hid hcy
        have hRr := HR.out.below hb25
        have hM2 := Lib.hid hm2
        have hMx := Lib.hid hm
        clear hcy hcl hgD hm2 hD
        generalize D[i] = x at *
        rcases HB5 with ⟨rfl, rfl⟩ | ⟨hbp, HO⟩
        · simp only [hne, ne_eq, not_false_eq_true, true_or, and_self, if_true] at hnx
          have hnx := Lib.hid (hnx.out.trans HCY.out)
          clear hm
          go_wp2_with fail
          refine Calls.to (walk_any n E D i i i m true _ ru _ vs w5 hRr hDL hv hI (by omega) hin hin hM2.out) ?_
          rintro e w6 ⟨wu, rfl, hW⟩ hb6
          have hW2 := hW.base (base' := w2.heap.size) (by have := hb25.size; omega)
          have hb26 := hb25.trans (hb6.mono hb25.size)
          go_wp2_with fail
          go_roundw
          case measure => simp [intOf]; omega
          case rel => exact ⟨i + 1, _, by omega, by go_num, hb26, .inr ⟨by simp, hW2⟩, Lib.hid hnx.out.symm⟩
        · obtain ⟨bg, bc, rfl, _, hbg, _, _⟩ := HO.place hbp
          have hbne : best ≠ [] := fun e => by subst e; simp at hbp
          by_cases hlt : m + 1 < best.length
          · have hx2 : decide (x < (best.length : Int)) = true := decide_eq_true (by omega)
            simp only [hne, ne_eq, not_false_eq_true, true_and, hlt, or_true, if_true] at hnx
            have hnx := Lib.hid (hnx.out.trans HCY.out)
            clear hm
            go_wp2_with fail
            refine Calls.to (walk_any n E D i i i m true _ ru _ vs w5 hRr hDL hv hI (by omega) hin hin hM2.out) ?_
            rintro e w6 ⟨wu, rfl, hW⟩ hb6
            have hW2 := hW.base (base' := w2.heap.size) (by have := hb25.size; omega)
            have hb26 := hb25.trans (hb6.mono hb25.size)
            go_wp2_with fail
            go_roundw
            case measure => simp [intOf]; omega
            case rel => exact ⟨i + 1, _, by omega, by go_num, hb26, .inr ⟨by simp, hW2⟩, Lib.hid hnx.out.symm⟩
          · have hx2 : decide (x < (best.length : Int)) = false := decide_eq_false (by omega)
            simp only [hne, ne_eq, not_false_eq_true, true_and, hlt, hbne, or_false, if_false] at hnx
            clear hm
            go_wp2_with fail
            go_roundw
            case measure => simp [intOf]; omega
            case rel => exact ⟨i + 1, best, by omega, by go_num, hb25, .inr ⟨hbp, HO⟩, Lib.hid hnx.out.symm⟩
      · have hx1 : decide (0 < D[i]) = false := decide_eq_false hx
        rw [if_neg hx] at hcy
        unfold Gp.lopS at hnx
        simp only [hcy, ne_eq, not_true_eq_false, false_and, if_false] at hnx
        clear hgD
        generalize D[i] = x at *
        go_wp2_with fail
        go_roundw
        case measure => simp [intOf]; omega
        case rel => exact ⟨i + 1, best, by omega, by go_num, hb25, HB5, Lib.hid hnx.out.symm⟩
    · obtain rfl : n = i := by omega
      have hfi := hfin.out.trans HK.out.symm
      have HFI := Lib.hid hfi
      have hbb := hb12.trans (hb.mono hb12.size)
      clear hfi
      rcases HB with ⟨rfl, rfl⟩ | ⟨hbp, HO⟩
      · go_wp2_with fail
        go_ret2
        rw [HFI.out]
        exact ⟨⟨_, _, rfl, .inl ⟨rfl, rfl, rfl⟩⟩, hbb⟩
      · obtain ⟨bg, bc, rfl, _, hbg, _, _⟩ := HO.place hbp
        go_wp2_with fail
        go_ret2
        rw [HFI.out]
        exact ⟨⟨_, _, rfl, .inr ⟨hbp, rfl, HO.base hb12.size⟩⟩, hbb⟩

end Go.Proofs.Ythnhlaljnkdmfaa
