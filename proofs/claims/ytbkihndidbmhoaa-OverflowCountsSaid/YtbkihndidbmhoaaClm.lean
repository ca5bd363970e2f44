/- DateOf and Split. Conditions: none beyond the numbers' range. -/
import Derived.Test.YtbkihndidbmhoaaClk
import Derived.Deep.RegionHeld3
import Derived.Deep.RegionLaw
namespace Go.Proofs.Ytbkihndidbmhoaa
open Go.RowKit
set_option linter.unusedVariables false
set_option linter.unusedSimpArgs false

structure Dt where
  y : Int
  m : Int
  d : Int
abbrev eDt (x : Dt) : List Value := [.int .i64 x.y, .int .i64 x.m, .int .i64 x.d]
theorem eDt_len (x : Dt) : (eDt x).length = 3 := rfl

set_option maxRecDepth 100000 in
set_option maxHeartbeats 2000000 in
theorem dateOf_bad (n : Int) (w : World) (h : n < bef 1 ∨ bef 10000 ≤ n) (b1 : -1000000 ≤ n) (b2 : n ≤ 1000000) :
    Calls Try.prog 54 #[.int .i64 n] w fun e w' => e = .returned (.tuple #[.agg #[.int .i64 0, .int .i64 0, .int .i64 0], .int .i64 2]) ∧ Below w.heap.size w w' := by
  have q1 : (1 : Int) ≤ 1 := by omega
  have q2 : (1 : Int) ≤ 10001 := by omega
  have q3 : (1 : Int) ≤ 10000 := by omega
  have q4 : (10000 : Int) ≤ 10001 := by omega
  by_cases h1 : n < bef 1
  · have d1 : decide (n < bef 1) = true := by simpa using h1
    go_enter Try.func54, Try.ntmps54
    go_wp2_with fail
    go_quiet ((go_at_call 78; exact Calls.quiet_of_same (before_any _ _ q1 q2)))
    go_wp2_with fail
    exact bodyPost_ret (v := .tuple #[.agg #[.int .i64 0, .int .i64 0, .int .i64 0], .int .i64 2]) (by simp [results, Try.results54, go_sem]) rfl ⟨rfl, by repeat' (first | exact Below.refl _ _ | assumption | refine Below.more ?_ ?_ _ | refine Below.alloc ?_ ?_ _ | refine Below.drew ?_ | refine below_drewN ?_ _ | refine Below.setCell ?_ ?_ _ | exact Below.size (by assumption) | (simp [go_sem, size_more]; done) | (simp [go_sem, size_more]; omega))⟩
  · have d1 : decide (n < bef 1) = false := by simpa using h1
    have h2 : bef 10000 ≤ n := by omega
    have d2 : decide (bef 10000 ≤ n) = true := by simpa using h2
    clear h
    go_enter Try.func54, Try.ntmps54
    go_wp2_with fail
    go_quiet ((go_at_call 78; exact Calls.quiet_of_same (before_any _ _ (by omega) (by omega))))
    go_wp2_with fail
    exact bodyPost_ret (v := .tuple #[.agg #[.int .i64 0, .int .i64 0, .int .i64 0], .int .i64 2]) (by simp [results, Try.results54, go_sem]) rfl ⟨rfl, by repeat' (first | exact Below.refl _ _ | assumption | refine Below.more ?_ ?_ _ | refine Below.alloc ?_ ?_ _ | refine Below.drew ?_ | refine below_drewN ?_ _ | refine Below.setCell ?_ ?_ _ | exact Below.size (by assumption) | (simp [go_sem, size_more]; done) | (simp [go_sem, size_more]; omega))⟩

set_option maxRecDepth 100000 in
set_option maxHeartbeats 8000000 in
theorem dateOf_ok (n y : Int) (w : World) (hy : IsYear n y) :
    Calls Try.prog 54 #[.int .i64 n] w fun e w' => (∃ m d, e = .returned (.tuple #[.agg #[.int .i64 y, .int .i64 m, .int .i64 d], .int .i64 0])) ∧ Below w.heap.size w w' := by
  have q1 : (1 : Int) ≤ 1 := by omega
  have q2 : (1 : Int) ≤ 10001 := by omega
  have q3 : (1 : Int) ≤ 10000 := by omega
  have q4 : (10000 : Int) ≤ 10001 := by omega
  obtain ⟨y1, y2, y3, y4⟩ := hy
  have hbA := bef_mono y1
  have hbB := bef_mono (a := y + 1) (b := 10000) (by omega)
  have hbb := bef_bound y y1 (by omega)
  have hbb2 := bef_bound (y + 1) (by omega) (by omega)
  have d1 : decide (n < bef 1) = false := by simp; omega
  have d2 : decide (bef 10000 ≤ n) = false := by simp; omega
  have hD := bef_succ y
  have hlp := lp01 y
  have D1 : n - bef y + 1 ≤ 365 + lp y := by omega
  have Y3 := Lib.hid y3; have Y4 := Lib.hid y4
  clear hD
  go_enter Try.func54, Try.ntmps54
  go_wp2_with fail
  go_quiet ((go_at_call 78; exact Calls.quiet_of_same (before_any _ _ (by omega) (by omega))))
  go_wp2_with fail
  obtain ⟨W0, hW0⟩ : ∃ W0, W0 = ((w.alloc (.cells #[.int .i64 n] 3)).alloc (.cells #[.int .i64 0, .int .i64 0, .int .i64 0] 64)).drewN nq := ⟨_, rfl⟩
  rw [← hW0]
  have hcB : W0.cell? ⟨w.heap.size, 0, none⟩ = some (.int .i64 n) := by rw [hW0]; simp [go_sem]
  have r0 : W0.cell? ⟨w.heap.size + 1, 0, none⟩ = some (.int .i64 0) := by rw [hW0]; simp [go_sem]
  have r1 : W0.cell? ⟨w.heap.size + 1, 1, none⟩ = some (.int .i64 0) := by rw [hW0]; simp [go_sem]
  have r2 : W0.cell? ⟨w.heap.size + 1, 2, none⟩ = some (.int .i64 0) := by rw [hW0]; simp [go_sem]
  have s0 : W0.frozen? ⟨w.heap.size + 1, 0, none⟩ = false := by rw [hW0]; simp [go_sem]
  have s1 : W0.frozen? ⟨w.heap.size + 1, 1, none⟩ = false := by rw [hW0]; simp [go_sem]
  have s2 : W0.frozen? ⟨w.heap.size + 1, 2, none⟩ = false := by rw [hW0]; simp [go_sem]
  have hsz0 : w.heap.size + 2 ≤ W0.heap.size := by rw [hW0]; simp
  have hbW0 : Below w.heap.size w W0 := by rw [hW0]; repeat' (first | exact Below.refl _ _ | assumption | refine Below.more ?_ ?_ _ | refine Below.alloc ?_ ?_ _ | refine Below.drew ?_ | refine below_drewN ?_ _ | refine Below.setCell ?_ ?_ _ | exact Below.size (by assumption) | (simp [go_sem, size_more]; done) | (simp [go_sem, size_more]; omega))
  clear hW0
  refine Calls.to (search_any 80 #[.pointer (some ⟨w.heap.size, 0, none⟩)] ent80 (fun i => decide (n < bef (i + 2))) 9999 _ rfl (by decide) _ ?_) ?_
  · intro W hW x hx0 hx1
    refine dateOf1_any n x w.heap.size W ?_ hx0 hx1
    exact (hW.cell (p := ⟨w.heap.size, 0, none⟩) (by show w.heap.size < _; omega)).trans hcB
  rintro e w1 ⟨r, rfl, hr, hr1, hr2⟩ hb1
  have hr9 : r < 9999 := by
    apply Nat.lt_of_not_le; intro h
    have := hr1 (by omega)
    obtain rfl : r = 9999 := by omega
    simp only [decide_eq_false_iff_not] at this
    apply this
    have e1 : ((9999 : Nat) : Int) - 1 + 2 = 10000 := by decide
    rw [e1]; omega
  have hy2 : IsYear n ((r : Int) + 1) := by
    refine ⟨by omega, by omega, ?_, ?_⟩
    · rcases Nat.eq_zero_or_pos r with h | h
      · subst h
        have := Y3.out
        show bef (0 + 1) ≤ n
        rw [Int.zero_add]; omega
      · have := hr1 h
        simp only [decide_eq_false_iff_not] at this
        rw [show (r : Int) - 1 + 2 = r + 1 from by omega] at this
        omega
    · have := hr2 hr9
      simp only [decide_eq_true_eq] at this
      rw [show (r : Int) + 1 + 1 = r + 2 from by omega]; exact this
  have hyr : y = (r : Int) + 1 := isYear_unique ⟨y1, y2, Y3.out, Y4.out⟩ hy2
  subst hyr
  clear hr1 hr2 hy2
  have hc0 : w1.cell? ⟨w.heap.size, 0, none⟩ = some (.int .i64 n) := (hb1.cell (p := ⟨w.heap.size, 0, none⟩) (by show w.heap.size < _; omega)).trans hcB
  have hsz1 : w.heap.size + 2 ≤ w1.heap.size := by have := hb1.size; omega
  have hbw1 : Below (w.heap.size + 2) W0 w1 := hb1.mono hsz0
  clear hcB
  clear hb1
  go_wp2_with fail
  have hk1 : IntKind.i64.wrap (n - bef ((r : Int) + 1)) = n - bef ((r : Int) + 1) := IntWalk.i64_in _ (by omega)
  have hk2 : IntKind.i64.wrap (n - bef ((r : Int) + 1) + 1) = n - bef ((r : Int) + 1) + 1 := IntWalk.i64_in _ (by omega)
  go_region_held3 (fun w' => w'.cell? ⟨w.heap.size, 0, none⟩ = some (.int .i64 n)) (first | go_keep) ((go_at_call 78; refine (before_any _ _ (by omega) (by omega)).mono ?_; rintro e w' ⟨rfl, rfl⟩))
  all_goals
    have hown0 := (Own.fresh (enc := eDt) eDt_len w1 w1.heap.size (Nat.le_refl _) 64 ⟨(r : Int) + 1, 1, n - bef ((r : Int) + 1) + 1⟩ _ rfl).below ((Below.refl _ _).drew)
    have hbw2 : Below (w.heap.size + 2) W0 (w1.alloc (.cells #[.int .i64 ((r : Int) + 1), .int .i64 1, .int .i64 (n - bef ((r : Int) + 1) + 1)] 64)).drew := (hbw1.alloc (by omega) _).drew
    have hsz2 : w1.heap.size < (w1.alloc (.cells #[.int .i64 ((r : Int) + 1), .int .i64 1, .int .i64 (n - bef ((r : Int) + 1) + 1)] 64)).drew.heap.size := by simp
    clear hk1 hk2
    generalize (w1.alloc (.cells #[.int .i64 ((r : Int) + 1), .int .i64 1, .int .i64 (n - bef ((r : Int) + 1) + 1)] 64)).drew = W2 at *
    have hD0 : 1 ≤ n - bef ((r : Int) + 1) + 1 := by omega
    have hD1 : n - bef ((r : Int) + 1) + 1 ≤ 366 := by omega
    generalize n - bef ((r : Int) + 1) + 1 = D0 at *
    have hB5 : w.heap.size + 2 ≤ w1.heap.size := hsz1
    generalize w1.heap.size = B5 at *
    go_wp2_with fail
    go_loopw [25] (fun _ wr => ∃ m d : Int, 1 ≤ m ∧ m ≤ 12 ∧ 1 ≤ d ∧ d ≤ 366 ∧ Hid (d + mcum ((r : Int) + 1) m = D0) ∧ Own B5 64 eDt 3 wr (.slice (some ⟨B5, 0, none⟩) 1 1) [⟨(r : Int) + 1, m, d⟩] ∧ Below (w.heap.size + 2) W0 wr ∧ B5 < wr.heap.size)
      (fun _ wr => (12 - intOf ((wr.cell? ⟨B5, 1, none⟩).getD undef)).toNat)
    case atStart => exact ⟨1, D0, by omega, by omega, by omega, by omega, by show D0 + mcum _ 1 = D0; rw [mcum_1]; omega, hown0, hbw2, hsz2⟩
    case round =>
      obtain ⟨m, d, m1, m2, dd1, dd2, hD, hown, hb, hsz⟩ := hrel
      have c0 := hown.cellAt' eDt_len 0 0 (by simp) (by omega)
      have c1 := hown.cellAt' eDt_len 0 1 (by simp) (by omega)
      have c2 := hown.cellAt' eDt_len 0 2 (by simp) (by omega)
      simp at c0 c1 c2
      have ml := mlen_bound ((r : Int) + 1) m
      go_wp2_with fail
      by_cases hd : mlen ((r : Int) + 1) m < d
      · go_region_held3 (fun w' => w'.cell? ⟨B5, 1, none⟩ = some (.int .i64 m) ∧ w'.cell? ⟨B5, 2, none⟩ = some (.int .i64 d)) (first | go_keep | (refine ⟨?_, ?_⟩ <;> (rw [hb1.cell (by simp; omega)]; assumption))) ((go_at_call 81; refine (month_any _ _ _ (by omega) (by omega) (by omega)).mono ?_; rintro e w' ⟨rfl, hb1⟩))
        have hbX : Below wr.heap.size wr w' := ((Below.refl _ _).drew).trans hb1
        have hown1 := hown.below hbX
        have hbb1 := hb.trans (hbX.mono (show w.heap.size + 2 ≤ wr.heap.size by omega))
        have hszX : B5 < w'.heap.size := by have := hbX.size; omega
        have e0 := hown1.cellAt' eDt_len 0 0 (by simp) (by omega)
        have e1 := hown1.cellAt' eDt_len 0 1 (by simp) (by omega)
        have e2 := hown1.cellAt' eDt_len 0 2 (by simp) (by omega)
        have f2 := hown1.free 2
        simp at e0 e1 e2
        have hm12 : m < 12 := by
          apply Int.not_le.1; intro h
          obtain rfl : m = 12 := by omega
          have h1 := hD.out
          have h2 := mcum_succ ((r : Int) + 1) 12 (by omega) (by omega)
          rw [show (12 : Int) + 1 = 13 from rfl, mcum_13] at h2
          omega
        have hD2 : Hid (d - mlen ((r : Int) + 1) m + mcum ((r : Int) + 1) (m + 1) = D0) := by
          show _ = _
          have h1 := hD.out
          have h2 := mcum_succ ((r : Int) + 1) m (by omega) (by omega)
          omega
        clear hb1 hbX c0 c2 hown hb
        go_wp2_with fail
        have hk : IntKind.i64.wrap (d - mlen ((r : Int) + 1) m) = d - mlen ((r : Int) + 1) m := IntWalk.i64_in _ (by omega)
        go_region_law (first | (go_simp; go_at_call 81; refine (month_any _ _ _ (by omega) (by omega) (by omega)).mono ?_; rintro e w4 ⟨rfl, hb4⟩; have f4 : w4.frozen? ⟨B5, 2, none⟩ = false := (hb4.frozen (p := ⟨B5, 2, none⟩) hszX).trans (by simp [f2]); have g2 : w4.cell? ⟨B5, 2, none⟩ = some (.int .i64 d) := (hb4.cell (p := ⟨B5, 2, none⟩) hszX).trans (by simp [e2])))
        all_goals
          have hb4X : Below w'.heap.size w' w4 := ((Below.refl _ _).drew).trans hb4
          have hown2 : Own B5 64 eDt 3 (w4.setCell ⟨B5, 2, none⟩ (.int .i64 (d - mlen ((r : Int) + 1) m))) (.slice (some ⟨B5, 0, none⟩) 1 1) [⟨(r : Int) + 1, m, d - mlen ((r : Int) + 1) m⟩] := by
            have := (hown1.below hb4X).store eDt_len 0 2 (by simp) (by omega) (.int .i64 (d - mlen ((r : Int) + 1) m)) ⟨(r : Int) + 1, m, d - mlen ((r : Int) + 1) m⟩ (by simp)
            simpa using this
          have hbb2 : Below (w.heap.size + 2) W0 (w4.setCell ⟨B5, 2, none⟩ (.int .i64 (d - mlen ((r : Int) + 1) m))) := (hbb1.trans (hb4X.mono (by omega))).setCell hB5 _
          have hsz4 : B5 < (w4.setCell ⟨B5, 2, none⟩ (.int .i64 (d - mlen ((r : Int) + 1) m))).heap.size := by have := hb4X.size; simp; omega
          clear hk hb4 hb4X f4 g2 f2 e0 e1 e2 hown1 hbb1 hszX
          generalize w4.setCell ⟨B5, 2, none⟩ (.int .i64 (d - mlen ((r : Int) + 1) m)) = W5 at *
          have k0 := hown2.cellAt' eDt_len 0 0 (by simp) (by omega)
          have k1 := hown2.cellAt' eDt_len 0 1 (by simp) (by omega)
          have k2 := hown2.cellAt' eDt_len 0 2 (by simp) (by omega)
          have f1 := hown2.free 1
          simp at k0 k1 k2
          go_wp2_with fail
          have hown3 : Own B5 64 eDt 3 (W5.setCell ⟨B5, 1, none⟩ (.int .i64 (m + 1))) (.slice (some ⟨B5, 0, none⟩) 1 1) [⟨(r : Int) + 1, m + 1, d - mlen ((r : Int) + 1) m⟩] := by
            have := hown2.store eDt_len 0 1 (by simp) (by omega) (.int .i64 (m + 1)) ⟨(r : Int) + 1, m + 1, d - mlen ((r : Int) + 1) m⟩ (by simp)
            simpa using this
          have kk := hown3.cellAt' eDt_len 0 1 (by simp) (by omega)
          simp only [Nat.zero_mul, Nat.zero_add] at kk
          refine ⟨⟨m + 1, d - mlen ((r : Int) + 1) m, by omega, by omega, by omega, by omega, hD2.out, hown3, hbb2.setCell hB5 _, by simp; omega⟩, ?_⟩
          rw [kk, c1]
          simp [intOf]; omega
      · go_region_held3 (fun w' => w'.cell? ⟨B5, 1, none⟩ = some (.int .i64 m) ∧ w'.cell? ⟨B5, 2, none⟩ = some (.int .i64 d)) (first | go_keep | (refine ⟨?_, ?_⟩ <;> (rw [hb1.cell (by simp; omega)]; assumption))) ((go_at_call 81; refine (month_any _ _ _ (by omega) (by omega) (by omega)).mono ?_; rintro e w' ⟨rfl, hb1⟩))
        have hbX : Below wr.heap.size wr w' := ((Below.refl _ _).drew).trans hb1
        have hown1 := hown.below hbX
        have hbb1 := hb.trans (hbX.mono (show w.heap.size + 2 ≤ wr.heap.size by omega))
        have hszX : B5 < w'.heap.size := by have := hbX.size; omega
        have e0 := hown1.cellAt' eDt_len 0 0 (by simp) (by omega)
        have e1 := hown1.cellAt' eDt_len 0 1 (by simp) (by omega)
        have e2 := hown1.cellAt' eDt_len 0 2 (by simp) (by omega)
        simp at e0 e1 e2
        have u0 := (hbb1.cell (p := ⟨w.heap.size + 1, 0, none⟩) (by show w.heap.size + 1 < _; omega)).trans r0
        have u1 := (hbb1.cell (p := ⟨w.heap.size + 1, 1, none⟩) (by show w.heap.size + 1 < _; omega)).trans r1
        have u2 := (hbb1.cell (p := ⟨w.heap.size + 1, 2, none⟩) (by show w.heap.size + 1 < _; omega)).trans r2
        have v0 := (hbb1.frozen (p := ⟨w.heap.size + 1, 0, none⟩) (by show w.heap.size + 1 < _; omega)).trans s0
        have v1 := (hbb1.frozen (p := ⟨w.heap.size + 1, 1, none⟩) (by show w.heap.size + 1 < _; omega)).trans s1
        have v2 := (hbb1.frozen (p := ⟨w.heap.size + 1, 2, none⟩) (by show w.heap.size + 1 < _; omega)).trans s2
        have hbF : Below w.heap.size w w' := hbW0.trans (hbb1.mono (by omega))
        clear hb1 hbX c0 c1 c2 hown hb r0 r1 r2 s0 s1 s2 hbb1 hown1
        go_wp2_with fail
        exact bodyPost_ret (v := .tuple #[.agg #[.int .i64 ((r : Int) + 1), .int .i64 m, .int .i64 d], .int .i64 0]) (by simp [results, Try.results54, go_sem, u0, u1, u2]) rfl ⟨⟨m, d, rfl⟩, by repeat' (first | exact Below.refl _ _ | assumption | refine Below.more ?_ ?_ _ | refine Below.alloc ?_ ?_ _ | refine Below.drew ?_ | refine below_drewN ?_ _ | refine Below.setCell ?_ ?_ _ | exact Below.size (by assumption) | (simp [go_sem, size_more]; done) | (simp [go_sem, size_more]; omega))⟩

end Go.Proofs.Ytbkihndidbmhoaa
