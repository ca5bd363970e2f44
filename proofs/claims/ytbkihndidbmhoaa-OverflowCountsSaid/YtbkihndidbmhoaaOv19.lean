/- The reference's calendar: Leap, Days, Floor. Conditions: the numbers' range. -/
import Derived.Test.YtbkihndidbmhoaaOv18
namespace Go.Proofs.Ytbkihndidbmhoaa
open Go.RowKit
set_option linter.unusedVariables false
set_option linter.unusedSimpArgs false

set_option maxHeartbeats 400000 in
theorem r5leap_any (y : Int) (w : World) (h1 : 0 ≤ y) : Calls Try.prog 121 #[.int .i64 y] w fun e w' => e = .returned (.bool (leapB y)) ∧ w' = w := by
  unfold leapB
  by_cases h4 : y % 4 = 0
  · by_cases h100 : y % 100 = 0
    · have b1 : (y % 4 == 0) = true := by simpa using h4
      have b2 : (y % 100 != 0) = false := by simpa using h100
      go_enter Try.func121, Try.ntmps121
      go_wp2_with fail
      go_ret
      exact ⟨ret_bool (by rw [Bool.eq_iff_iff]; simp [h4, h100]), rfl⟩
    · have b1 : (y % 4 == 0) = true := by simpa using h4
      have b2 : (y % 100 != 0) = true := by simpa using h100
      go_enter Try.func121, Try.ntmps121
      go_wp2_with fail
      go_ret
      exact ⟨ret_bool (by rw [Bool.eq_iff_iff]; simp [h4, h100]), rfl⟩
  · have b1 : (y % 4 == 0) = false := by simpa using h4
    have h400 : ¬ y % 400 = 0 := by omega
    go_enter Try.func121, Try.ntmps121
    go_wp2_with fail
    go_ret
    exact ⟨ret_bool (by rw [Bool.eq_iff_iff]; simp [h4, h400]), rfl⟩

set_option maxRecDepth 100000 in
set_option maxHeartbeats 1000000 in
theorem r5days_any (y m : Int) (w : World) (h1 : 0 ≤ y) (m1 : 1 ≤ m) (m2 : m ≤ 12) : Calls Try.prog 108 #[.int .i64 y, .int .i64 m] w fun e w' => e = .returned (.int .i64 (mlen y m)) ∧ Below w.heap.size w w' := by
  by_cases h2 : m = 2
  · subst h2
    cases hl : leapB y
    all_goals
      have HL := Lib.hid hl
      clear hl
      go_enter Try.func108, Try.ntmps108
      go_wp2_with fail
      refine (r5leap_any y _ h1).mono ?_
      rintro e w1 ⟨rfl, rfl⟩
      rw [HL.out]
      go_wp2_with fail
      go_ret
      exact ⟨ret_int (by simp [mlen, lp, HL.out]), by repeat' (first | exact Below.refl _ _ | assumption | refine Below.more ?_ ?_ _ | refine Below.alloc ?_ ?_ _ | refine Below.drew ?_ | refine below_drewN ?_ _ | refine Below.setCell ?_ ?_ _ | exact Below.size (by assumption) | (simp [go_sem, size_more]; done) | (simp [go_sem, size_more]; omega))⟩
  · obtain rfl | rfl | rfl | rfl | rfl | rfl | rfl | rfl | rfl | rfl | rfl : m = 1 ∨ m = 3 ∨ m = 4 ∨ m = 5 ∨ m = 6 ∨ m = 7 ∨ m = 8 ∨ m = 9 ∨ m = 10 ∨ m = 11 ∨ m = 12 := by omega
    all_goals
      clear h2 m1 m2
      go_enter Try.func108, Try.ntmps108
      go_wp2_with fail
      go_ret
      exact ⟨ret_int (by simp [mlen]), by repeat' (first | exact Below.refl _ _ | assumption | refine Below.more ?_ ?_ _ | refine Below.alloc ?_ ?_ _ | refine Below.drew ?_ | refine below_drewN ?_ _ | refine Below.setCell ?_ ?_ _ | exact Below.size (by assumption) | (simp [go_sem, size_more]; done) | (simp [go_sem, size_more]; omega))⟩

theorem r5floor_any (a : Int) (w : World) (h1 : -1000000000000 ≤ a) (h2 : a ≤ 1000000000000) : Calls Try.prog 85 #[.int .i64 a, .int .i64 86400] w fun e w' => e = .returned (.int .i64 (a / 86400)) ∧ w' = w := by
  by_cases h0 : 0 ≤ a
  · go_enter Try.func85, Try.ntmps85
    go_wp2_with fail
    go_ret
    exact ⟨rfl, rfl⟩
  · obtain ⟨b, rfl⟩ : ∃ b : Int, a = -b := ⟨-a, by omega⟩
    have hb0 : 0 ≤ b := by omega
    have e1 : (-b).tdiv 86400 = -(b / 86400) := by rw [Int.neg_tdiv, Int.tdiv_eq_ediv_of_nonneg hb0]
    obtain ⟨q, hq⟩ : ∃ q, b / 86400 = q := ⟨_, rfl⟩
    have q1 : 0 ≤ q := by omega
    have q2 : q ≤ 1000000000000 := by omega
    rw [hq] at e1
    by_cases h3 : -b - -q * 86400 < 0
    · have hres : -b / 86400 = -q - 1 := by omega
      have HRES := Lib.hid hres; have HQ := Lib.hid hq
      clear hres hq
      rw [HRES.out]
      go_enter Try.func85, Try.ntmps85
      go_wp2_with fail
      go_ret
      exact ⟨rfl, rfl⟩
    · have hres : -b / 86400 = -q := by omega
      have HRES := Lib.hid hres; have HQ := Lib.hid hq
      clear hres hq
      rw [HRES.out]
      go_enter Try.func85, Try.ntmps85
      go_wp2_with fail
      go_ret
      exact ⟨rfl, rfl⟩

end Go.Proofs.Ytbkihndidbmhoaa
