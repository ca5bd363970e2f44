/- The calendar's functions: before, leap, month, sort.Search, DateOf, Split. Conditions: none (month: a month from 1 to 12; before: a year from 1 to 10001). -/
import Derived.Test.YtbkihndidbmhoaaRows
import Derived.Test.YtbkihndidbmhoaaCal
import Derived.BigRegion
import Derived.Deep.QuietTactic
import Derived.BigQuiet
import Derived.Deep.DeepMust
namespace Go.Proofs.Ytbkihndidbmhoaa
open Go.RowKit
set_option linter.unusedVariables false
set_option linter.unusedSimpArgs false

set_option maxHeartbeats 400000 in
theorem before_any (y : Int) (w : World) (h1 : 1 ≤ y) (h2 : y ≤ 10001) : Calls Try.prog 78 #[.int .i64 y] w fun e w' => e = .returned (.int .i64 (bef y)) ∧ w' = w := by
  unfold bef
  go_enter Try.func78, Try.ntmps78
  go_wp2_with fail
  go_ret
  exact ⟨ret_int (by omega), rfl⟩

set_option maxHeartbeats 400000 in
theorem leap_any (y : Int) (w : World) (h1 : 0 ≤ y) : Calls Try.prog 105 #[.int .i64 y] w fun e w' => e = .returned (.bool (leapB y)) ∧ w' = w := by
  unfold leapB
  by_cases h4 : y % 4 = 0
  · by_cases h100 : y % 100 = 0
    · have b1 : (y % 4 == 0) = true := by simpa using h4
      have b2 : (y % 100 != 0) = false := by simpa using h100
      go_enter Try.func105, Try.ntmps105
      go_wp2_with fail
      go_ret
      exact ⟨ret_bool (by rw [Bool.eq_iff_iff]; simp [h4, h100]), rfl⟩
    · have b1 : (y % 4 == 0) = true := by simpa using h4
      have b2 : (y % 100 != 0) = true := by simpa using h100
      go_enter Try.func105, Try.ntmps105
      go_wp2_with fail
      go_ret
      exact ⟨ret_bool (by rw [Bool.eq_iff_iff]; simp [h4, h100]), rfl⟩
  · have b1 : (y % 4 == 0) = false := by simpa using h4
    go_enter Try.func105, Try.ntmps105
    go_wp2_with fail
    go_ret
    exact ⟨ret_bool (by rw [Bool.eq_iff_iff]; simp [h4]), rfl⟩

set_option maxRecDepth 100000 in
set_option maxHeartbeats 1000000 in
theorem month_any (y m : Int) (w : World) (h1 : 0 ≤ y) (m1 : 1 ≤ m) (m2 : m ≤ 12) : Calls Try.prog 81 #[.int .i64 y, .int .i64 m] w fun e w' => e = .returned (.int .i64 (mlen y m)) ∧ Below w.heap.size w w' := by
  by_cases h2 : m = 2
  · subst h2
    cases hl : leapB y
    · have HL := Lib.hid hl
      clear hl
      go_enter Try.func81, Try.ntmps81
      go_wp2_with fail
      refine (leap_any y _ h1).mono ?_
      rintro e w1 ⟨rfl, rfl⟩
      rw [HL.out]
      go_wp2_with fail
      go_ret
      exact ⟨ret_int (by simp [mlen, lp, HL.out]), by repeat' (first | exact Below.refl _ _ | assumption | refine Below.more ?_ ?_ _ | refine Below.alloc ?_ ?_ _ | refine Below.drew ?_ | refine below_drewN ?_ _ | refine Below.setCell ?_ ?_ _ | exact Below.size (by assumption) | (simp [go_sem, size_more]; done) | (simp [go_sem, size_more]; omega))⟩
    · have HL := Lib.hid hl
      clear hl
      go_enter Try.func81, Try.ntmps81
      go_wp2_with fail
      refine (leap_any y _ h1).mono ?_
      rintro e w1 ⟨rfl, rfl⟩
      rw [HL.out]
      go_wp2_with fail
      go_ret
      exact ⟨ret_int (by simp [mlen, lp, HL.out]), by repeat' (first | exact Below.refl _ _ | assumption | refine Below.more ?_ ?_ _ | refine Below.alloc ?_ ?_ _ | refine Below.drew ?_ | refine below_drewN ?_ _ | refine Below.setCell ?_ ?_ _ | exact Below.size (by assumption) | (simp [go_sem, size_more]; done) | (simp [go_sem, size_more]; omega))⟩
  · obtain rfl | rfl | rfl | rfl | rfl | rfl | rfl | rfl | rfl | rfl | rfl : m = 1 ∨ m = 3 ∨ m = 4 ∨ m = 5 ∨ m = 6 ∨ m = 7 ∨ m = 8 ∨ m = 9 ∨ m = 10 ∨ m = 11 ∨ m = 12 := by omega
    all_goals
      clear h2 m1 m2
      go_enter Try.func81, Try.ntmps81
      go_wp2_with fail
      go_ret
      exact ⟨ret_int (by simp [mlen]), by repeat' (first | exact Below.refl _ _ | assumption | refine Below.more ?_ ?_ _ | refine Below.alloc ?_ ?_ _ | refine Below.drew ?_ | refine below_drewN ?_ _ | refine Below.setCell ?_ ?_ _ | exact Below.size (by assumption) | (simp [go_sem, size_more]; done) | (simp [go_sem, size_more]; omega))⟩

/-- A predicate on numbers from 0 to n, handed over as a function value. -/
def FnOn (P : Program) (g : Nat) (lb : Array Value) (p : Int → Bool) (n : Int) (w : World) : Prop :=
  ∀ W, Below w.heap.size w W → ∀ x : Int, 0 ≤ x → x < n → Calls P g (#[.int .i64 x] ++ lb) W fun e w' => e = .returned (.bool (p x)) ∧ Below W.heap.size W w'

set_option maxHeartbeats 1000000 in
theorem search_any (g : Nat) (lb : Array Value) (eg : ∀ args w, (callFunc g args).run Try.prog w = .ok (.enter g args) w) (p : Int → Bool) (n : Nat) (N : Int) (hN : N = n) (hn : n ≤ 1000000) (w : World) (hp : FnOn Try.prog g lb p n w) :
    Calls Try.prog 79 #[.int .i64 N, .func (.func g) #[] lb] w fun e w' => (∃ r : Nat, e = .returned (.int .i64 r) ∧ r ≤ n ∧ (0 < r → p ((r : Int) - 1) = false) ∧ (r < n → p r = true)) ∧ Below w.heap.size w w' := by
  subst hN
  have HP := Lib.hid hp
  clear hp
  go_enter Try.func79, Try.ntmps79
  go_wp2_with fail
  go_loopw [5, 6] (fun s5 s6 wr => ∃ i j : Nat, i ≤ j ∧ j ≤ n ∧ s5 = .int .i64 i ∧ s6 = .int .i64 j ∧ Hid (0 < i → p ((i : Int) - 1) = false) ∧ Hid (j < n → p j = true) ∧ Below w.heap.size w wr) (fun i j _ => (intOf j - intOf i).toNat)
  case atStart => exact ⟨0, n, Nat.zero_le _, Nat.le_refl _, rfl, rfl, fun h => absurd h (Nat.lt_irrefl _), fun h => absurd h (Nat.lt_irrefl _), Below.refl _ _⟩
  case round =>
    obtain ⟨i, j, hij, hjn, rfl, rfl, h1, h2, hb⟩ := hrel
    by_cases hlt : i < j
    · obtain ⟨h, hh⟩ : ∃ h : Nat, ((i : Int) + j) / 2 = h := ⟨(i + j) / 2, by omega⟩
      have hi : i ≤ h := by omega
      have hj : h < j := by omega
      have hx := HP.out wr hb (h : Int) (by omega) (by omega)
      cases hpy : p h
      all_goals
        rw [hpy] at hx
        have HPY := Lib.hid hpy
        clear hpy
        go_wp2_with fail
        refine (Calls.to hx ?_)
        rintro e w1 rfl hb1
        have hbb := hb.trans (hb1.mono hb.size)
        go_wp2_with fail
        go_roundw
        case measure => simp [intOf]; omega
      · exact ⟨h + 1, j, by omega, by omega, by go_num, rfl, by show _ → _; intro _; have := HPY.out; simpa using this, h2, hbb⟩
      · exact ⟨i, h, by omega, by omega, rfl, rfl, h1, fun _ => HPY.out, hbb⟩
    · obtain rfl : i = j := by omega
      go_wp2_with fail
      go_ret
      exact ⟨⟨i, rfl, by omega, h1.out, h2.out⟩, hb⟩

theorem ent80 : ∀ args w, (callFunc 80 args).run Try.prog w = .ok (.enter 80 args) w := by
  intro args w
  simp [go_sem]

set_option maxHeartbeats 1000000 in
theorem dateOf1_any (n i : Int) (B : Nat) (w : World) (hc : w.cell? ⟨B, 0, none⟩ = some (.int .i64 n)) (h0 : 0 ≤ i) (h1 : i < 9999) :
    Calls Try.prog 80 #[.int .i64 i, .pointer (some ⟨B, 0, none⟩)] w fun e w' => e = .returned (.bool (decide (n < bef (i + 2)))) ∧ Below w.heap.size w w' := by
  have hwk : IntKind.i64.wrap (i + 2) = i + 2 := IntWalk.i64_in _ (by omega)
  have q1 : 1 ≤ i + 2 := by omega
  have q2 : i + 2 ≤ 10001 := by omega
  go_enter Try.func80, Try.ntmps80
  go_wp2_with fail
  go_quiet ((go_at_call 78; exact Calls.quiet_of_same (before_any _ _ q1 q2)))
  go_wp2_with fail
  go_ret
  exact ⟨rfl, by repeat' (first | exact Below.refl _ _ | assumption | refine Below.more ?_ ?_ _ | refine Below.alloc ?_ ?_ _ | refine Below.drew ?_ | refine below_drewN ?_ _ | refine Below.setCell ?_ ?_ _ | exact Below.size (by assumption) | (simp [go_sem, size_more]; done) | (simp [go_sem, size_more]; omega))⟩

end Go.Proofs.Ytbkihndidbmhoaa
