/- Plain facts on the calendar: the days before a year, the days of a month, the year of a day. No program is named. Conditions: none. | The calendar's functions: before, leap, month, sort.Search, DateOf, Split. Conditions: none (month: a month from 1 to 12; before: a year from 1 to 10001). | DateOf and Split. Conditions: none beyond the numbers' range. | clock.Split. Conditions: none. -/
import Derived.Test.YtbkihndidbmhoaaMBase
import Derived.Test.YtbkihndidbmhoaaRows
import Derived.BigRegion
import Derived.Deep.QuietTactic
import Derived.BigQuiet
import Derived.Deep.DeepMust
import Derived.Deep.RegionHeld3
import Derived.Deep.RegionLaw
namespace Go.Proofs.Ytbkihndidbmhoaa
open Go.RowKit
set_option linter.unusedVariables false
set_option linter.unusedSimpArgs false

def bef (y : Int) : Int := 365 * (y - 1) + (y - 1) / 4 - (y - 1) / 100 + (y - 1) / 400 - 730119
def leapB (y : Int) : Bool := (decide (y % 4 = 0) && !decide (y % 100 = 0)) || decide (y % 400 = 0)
def lp (y : Int) : Int := if leapB y = true then 1 else 0

theorem lp01 (y : Int) : 0 ≤ lp y ∧ lp y ≤ 1 := by unfold lp; split <;> omega

theorem bef_succ (y : Int) : bef (y + 1) = bef y + 365 + lp y := by
  unfold bef lp leapB
  by_cases h4 : y % 4 = 0 <;> by_cases h100 : y % 100 = 0 <;> by_cases h400 : y % 400 = 0 <;> simp [h4, h100, h400] <;> omega

theorem bef_mono_step (y : Int) : bef y < bef (y + 1) := by rw [bef_succ]; have := lp01 y; omega

theorem bef_lt_nat (y : Int) : ∀ n : Nat, bef y ≤ bef (y + n)
  | 0 => by simp
  | n + 1 => by
    have h1 := bef_lt_nat y n
    have h2 := bef_mono_step (y + n)
    have e : y + ((n + 1 : Nat) : Int) = y + n + 1 := by omega
    rw [e]; omega

theorem bef_mono {a b : Int} (h : a ≤ b) : bef a ≤ bef b := by
  obtain ⟨n, hn⟩ : ∃ n : Nat, b = a + n := ⟨(b - a).toNat, by omega⟩
  rw [hn]; exact bef_lt_nat a n

theorem bef_lt {a b : Int} (h : a < b) : bef a < bef b := by
  have h1 := bef_mono_step a
  have h2 := bef_mono (a := a + 1) (b := b) (by omega)
  omega

theorem bef_1 : bef 1 = -730119 := by decide
theorem bef_10000 : bef 10000 = 2921940 := by decide
theorem bef_bound (y : Int) (h1 : 1 ≤ y) (h2 : y ≤ 10000) : -730119 ≤ bef y ∧ bef y ≤ 2921940 := by
  have a := bef_mono h1
  have b := bef_mono h2
  rw [bef_1] at a; rw [bef_10000] at b
  exact ⟨a, b⟩

def IsYear (n y : Int) : Prop := 1 ≤ y ∧ y ≤ 9999 ∧ bef y ≤ n ∧ n < bef (y + 1)

theorem isYear_unique {n a b : Int} (ha : IsYear n a) (hb : IsYear n b) : a = b := by
  obtain ⟨_, _, a3, a4⟩ := ha
  obtain ⟨_, _, b3, b4⟩ := hb
  rcases Int.lt_trichotomy a b with h | h | h
  · have := bef_mono (a := a + 1) (b := b) (by omega); omega
  · exact h
  · have := bef_mono (a := b + 1) (b := a) (by omega); omega

open Classical in
noncomputable def yearOf (n : Int) : Int := if h : ∃ y, IsYear n y then h.choose else 0
theorem yearOf_eq {n y : Int} (h : IsYear n y) : yearOf n = y := by
  unfold yearOf
  have hex : ∃ y, IsYear n y := ⟨y, h⟩
  rw [dif_pos hex]
  exact isYear_unique hex.choose_spec h

theorem year_mono {a b y z : Int} (ha : IsYear a y) (hb : IsYear b z) (h : a ≤ b) : y ≤ z := by
  obtain ⟨_, _, a3, a4⟩ := ha
  obtain ⟨_, _, b3, b4⟩ := hb
  rcases Int.lt_or_le z y with h1 | h1
  · have := bef_mono (a := z + 1) (b := y) (by omega); omega
  · exact h1

theorem year_exists (n : Int) (h1 : bef 1 ≤ n) (h2 : n < bef 10000) : ∃ y, IsYear n y := by
  have key : ∀ k : Nat, k ≤ 9999 → n < bef (1 + k) → ∃ y, IsYear n y := by
    intro k
    induction k with
    | zero => intro _ h; exfalso; simp at h; omega
    | succ k ih =>
      intro hk h
      by_cases hc : n < bef (1 + k)
      · exact ih (by omega) hc
      · refine ⟨1 + k, by omega, by omega, by omega, ?_⟩
        have e : (1 : Int) + ((k + 1 : Nat) : Int) = 1 + k + 1 := by omega
        rw [e] at h; exact h
  exact key 9999 (Nat.le_refl _) (by simpa using h2)

/-- The days of a month, and those before it in its year. -/
def mlen (y m : Int) : Int :=
  if m = 2 then 28 + lp y else if m = 4 ∨ m = 6 ∨ m = 9 ∨ m = 11 then 30 else 31
def mc3 (m : Int) : Int := if m ≤ 3 then 59 else if m ≤ 4 then 90 else if m ≤ 5 then 120 else if m ≤ 6 then 151 else if m ≤ 7 then 181 else if m ≤ 8 then 212 else if m ≤ 9 then 243 else if m ≤ 10 then 273 else if m ≤ 11 then 304 else if m ≤ 12 then 334 else 365
def mcum (y m : Int) : Int := if m ≤ 1 then 0 else if m ≤ 2 then 31 else mc3 m + lp y
theorem mc3_bound (m : Int) : 59 ≤ mc3 m ∧ mc3 m ≤ 365 := by
  unfold mc3
  repeat (split; · omega)
  omega

theorem mcum_succ (y m : Int) (h1 : 1 ≤ m) (h2 : m ≤ 12) : mcum y (m + 1) = mcum y m + mlen y m := by
  obtain rfl | rfl | rfl | rfl | rfl | rfl | rfl | rfl | rfl | rfl | rfl | rfl : m = 1 ∨ m = 2 ∨ m = 3 ∨ m = 4 ∨ m = 5 ∨ m = 6 ∨ m = 7 ∨ m = 8 ∨ m = 9 ∨ m = 10 ∨ m = 11 ∨ m = 12 := by omega
  all_goals
    unfold mcum mlen mc3
    repeat (first | rw [if_pos (by omega)] | rw [if_neg (by omega)])
    omega

theorem mlen_bound (y m : Int) : 28 ≤ mlen y m ∧ mlen y m ≤ 31 := by
  have := lp01 y
  unfold mlen; split
  · omega
  · split <;> omega
theorem mcum_bound (y m : Int) : 0 ≤ mcum y m ∧ mcum y m ≤ 366 := by
  have := lp01 y
  have := mc3_bound m
  unfold mcum; split
  · omega
  · split <;> omega
theorem mcum_1 (y : Int) : mcum y 1 = 0 := by simp [mcum]
theorem mcum_13 (y : Int) : mcum y 13 = 365 + lp y := by simp [mcum, mc3]

/-- What Split hands back: the error's number, and the year. -/
noncomputable def splitM (t : Int) : Int × Int :=
  if t < -68719476736 ∨ 68719476736 < t then (2, 0)
  else if t / 86400 < bef 1 ∨ bef 10000 ≤ t / 86400 then (20, 0)
  else (0, yearOf (t / 86400))

theorem split_year {t : Int} (h : (splitM t).1 = 0) : IsYear (t / 86400) (splitM t).2 := by
  unfold splitM at *
  split at h
  · cases h
  · rename_i h1
    rw [if_neg h1]
    split at h
    · cases h
    · rename_i h2
      rw [if_neg h2]
      obtain ⟨y, hy⟩ := year_exists (t / 86400) (by omega) (by omega)
      show IsYear _ (yearOf _)
      rw [yearOf_eq hy]; exact hy

theorem split_ok (t : Int) (h1 : -60000000000 ≤ t) (h2 : t ≤ 60000000000) : (splitM t).1 = 0 := by
  unfold splitM
  rw [if_neg (by omega), if_neg (by rw [bef_1, bef_10000]; omega)]

theorem split_mono {a b : Int} (ha : (splitM a).1 = 0) (hb : (splitM b).1 = 0) (h : a ≤ b) : (splitM a).2 ≤ (splitM b).2 :=
  year_mono (split_year ha) (split_year hb) (Int.ediv_le_ediv (by omega) h)

end Go.Proofs.Ytbkihndidbmhoaa

namespace Go.Proofs.Ytbkihndidbmhoaa
open Go.RowKit
set_option linter.unusedVariables false
set_option linter.unusedSimpArgs false

set_option maxHeartbeats 400000 in
theorem before_any (y : Int) (w : World) (h1 : 1 ≤ y) (h2 : y ≤ 10001) : Calls Try.prog 78 #[.int .i64 y] w fun e w' => e = .returned (.int .i64 (bef y)) ∧ w' = w := by
  unfold bef
  go_enter Try.func78, Try.ntmps78
  go_wp2_with fail
  go_ret
  exact ⟨ret_int (by omega), rfl⟩

set_option maxHeartbeats 400000 in
theorem leap_any (y : Int) (w : World) (h1 : 0 ≤ y) : Calls Try.prog 105 #[.int .i64 y] w fun e w' => e = .returned (.bool (leapB y)) ∧ w' = w := by
  unfold leapB
  by_cases h4 : y % 4 = 0
  · by_cases h100 : y % 100 = 0
    · have b1 : (y % 4 == 0) = true := by simpa using h4
      have b2 : (y % 100 != 0) = false := by simpa using h100
      go_enter Try.func105, Try.ntmps105
      go_wp2_with fail
      go_ret
      exact ⟨ret_bool (by rw [Bool.eq_iff_iff]; simp [h4, h100]), rfl⟩
    · have b1 : (y % 4 == 0) = true := by simpa using h4
      have b2 : (y % 100 != 0) = true := by simpa using h100
      go_enter Try.func105, Try.ntmps105
      go_wp2_with fail
      go_ret
      exact ⟨ret_bool (by rw [Bool.eq_iff_iff]; simp [h4, h100]), rfl⟩
  · have b1 : (y % 4 == 0) = false := by simpa using h4
    go_enter Try.func105, Try.ntmps105
    go_wp2_with fail
    go_ret
    exact ⟨ret_bool (by rw [Bool.eq_iff_iff]; simp [h4]), rfl⟩

set_option maxRecDepth 100000 in
set_option maxHeartbeats 1000000 in
theorem month_any (y m : Int) (w : World) (h1 : 0 ≤ y) (m1 : 1 ≤ m) (m2 : m ≤ 12) : Calls Try.prog 81 #[.int .i64 y, .int .i64 m] w fun e w' => e = .returned (.int .i64 (mlen y m)) ∧ Below w.heap.size w w' := by
  by_cases h2 : m = 2
  · subst h2
    cases hl : leapB y
    · have HL := Lib.hid hl
      clear hl
      go_enter Try.func81, Try.ntmps81
      go_wp2_with fail
      refine (leap_any y _ h1).mono ?_
      rintro e w1 ⟨rfl, rfl⟩
      rw [HL.out]
      go_wp2_with fail
      go_ret
      exact ⟨ret_int (by simp [mlen, lp, HL.out]), by repeat' (first | exact Below.refl _ _ | assumption | refine Below.more ?_ ?_ _ | refine Below.alloc ?_ ?_ _ | refine Below.drew ?_ | refine below_drewN ?_ _ | refine Below.setCell ?_ ?_ _ | exact Below.size (by assumption) | (simp [go_sem, size_more]; done) | (simp [go_sem, size_more]; omega))⟩
    · have HL := Lib.hid hl
      clear hl
      go_enter Try.func81, Try.ntmps81
      go_wp2_with fail
      refine (leap_any y _ h1).mono ?_
      rintro e w1 ⟨rfl, rfl⟩
      rw [HL.out]
      go_wp2_with fail
      go_ret
      exact ⟨ret_int (by simp [mlen, lp, HL.out]), by repeat' (first | exact Below.refl _ _ | assumption | refine Below.more ?_ ?_ _ | refine Below.alloc ?_ ?_ _ | refine Below.drew ?_ | refine below_drewN ?_ _ | refine Below.setCell ?_ ?_ _ | exact Below.size (by assumption) | (simp [go_sem, size_more]; done) | (simp [go_sem, size_more]; omega))⟩
  · obtain rfl | rfl | rfl | rfl | rfl | rfl | rfl | rfl | rfl | rfl | rfl : m = 1 ∨ m = 3 ∨ m = 4 ∨ m = 5 ∨ m = 6 ∨ m = 7 ∨ m = 8 ∨ m = 9 ∨ m = 10 ∨ m = 11 ∨ m = 12 := by omega
    all_goals
      clear h2 m1 m2
      go_enter Try.func81, Try.ntmps81
      go_wp2_with fail
      go_ret
      exact ⟨ret_int (by simp [mlen]), by repeat' (first | exact Below.refl _ _ | assumption | refine Below.more ?_ ?_ _ | refine Below.alloc ?_ ?_ _ | refine Below.drew ?_ | refine below_drewN ?_ _ | refine Below.setCell ?_ ?_ _ | exact Below.size (by assumption) | (simp [go_sem, size_more]; done) | (simp [go_sem, size_more]; omega))⟩

/-- A predicate on numbers from 0 to n, handed over as a function value. -/
def FnOn (P : Program) (g : Nat) (lb : Array Value) (p : Int → Bool) (n : Int) (w : World) : Prop :=
  ∀ W, Below w.heap.size w W → ∀ x : Int, 0 ≤ x → x < n → Calls P g (#[.int .i64 x] ++ lb) W fun e w' => e = .returned (.bool (p x)) ∧ Below W.heap.size W w'

set_option maxHeartbeats 1000000 in
theorem search_any (g : Nat) (lb : Array Value) (eg : ∀ args w, (callFunc g args).run Try.prog w = .ok (.enter g args) w) (p : Int → Bool) (n : Nat) (N : Int) (hN : N = n) (hn : n ≤ 1000000) (w : World) (hp : FnOn Try.prog g lb p n w) :
    Calls Try.prog 79 #[.int .i64 N, .func (.func g) #[] lb] w fun e w' => (∃ r : Nat, e = .returned (.int .i64 r) ∧ r ≤ n ∧ (0 < r → p ((r : Int) - 1) = false) ∧ (r < n → p r = true)) ∧ Below w.heap.size w w' := by
  subst hN
  have HP := Lib.hid hp
  clear hp
  go_enter Try.func79, Try.ntmps79
  go_wp2_with fail
  go_loopw [5, 6] (fun s5 s6 wr => ∃ i j : Nat, i ≤ j ∧ j ≤ n ∧ s5 = .int .i64 i ∧ s6 = .int .i64 j ∧ Hid (0 < i → p ((i : Int) - 1) = false) ∧ Hid (j < n → p j = true) ∧ Below w.heap.size w wr) (fun i j _ => (intOf j - intOf i).toNat)
  case atStart => exact ⟨0, n, Nat.zero_le _, Nat.le_refl _, rfl, rfl, fun h => absurd h (Nat.lt_irrefl _), fun h => absurd h (Nat.lt_irrefl _), Below.refl _ _⟩
  case round =>
    obtain ⟨i, j, hij, hjn, rfl, rfl, h1, h2, hb⟩ := hrel
    by_cases hlt : i < j
    · obtain ⟨h, hh⟩ : ∃ h : Nat, ((i : Int) + j) / 2 = h := ⟨(i + j) / 2, by omega⟩
      have hi : i ≤ h := by omega
      have hj : h < j := by omega
      have hx := HP.out wr hb (h : Int) (by omega) (by omega)
      cases hpy : p h
      all_goals
        rw [hpy] at hx
        have HPY := Lib.hid hpy
        clear hpy
        go_wp2_with fail
        refine (Calls.to hx ?_)
        rintro e w1 rfl hb1
        have hbb := hb.trans (hb1.mono hb.size)
        go_wp2_with fail
        go_roundw
        case measure => simp [intOf]; omega
      · exact ⟨h + 1, j, by omega, by omega, by go_num, rfl, by show _ → _; intro _; have := HPY.out; simpa using this, h2, hbb⟩
      · exact ⟨i, h, by omega, by omega, rfl, rfl, h1, fun _ => HPY.out, hbb⟩
    · obtain rfl : i = j := by omega
      go_wp2_with fail
      go_ret
      exact ⟨⟨i, rfl, by omega, h1.out, h2.out⟩, hb⟩

theorem ent80 : ∀ args w, (callFunc 80 args).run Try.prog w = .ok (.enter 80 args) w := by
  intro args w
  simp [go_sem]

set_option maxHeartbeats 1000000 in
theorem dateOf1_any (n i : Int) (B : Nat) (w : World) (hc : w.cell? ⟨B, 0, none⟩ = some (.int .i64 n)) (h0 : 0 ≤ i) (h1 : i < 9999) :
    Calls Try.prog 80 #[.int .i64 i, .pointer (some ⟨B, 0, none⟩)] w fun e w' => e = .returned (.bool (decide (n < bef (i + 2)))) ∧ Below w.heap.size w w' := by
  have hwk : IntKind.i64.wrap (i + 2) = i + 2 := IntWalk.i64_in _ (by omega)
  have q1 : 1 ≤ i + 2 := by omega
  have q2 : i + 2 ≤ 10001 := by omega
  go_enter Try.func80, Try.ntmps80
  go_wp2_with fail
  go_quiet ((go_at_call 78; exact Calls.quiet_of_same (before_any _ _ q1 q2)))
  go_wp2_with fail
  go_ret
  exact ⟨rfl, by repeat' (first | exact Below.refl _ _ | assumption | refine Below.more ?_ ?_ _ | refine Below.alloc ?_ ?_ _ | refine Below.drew ?_ | refine below_drewN ?_ _ | refine Below.setCell ?_ ?_ _ | exact Below.size (by assumption) | (simp [go_sem, size_more]; done) | (simp [go_sem, size_more]; omega))⟩

end Go.Proofs.Ytbkihndidbmhoaa

namespace Go.Proofs.Ytbkihndidbmhoaa
open Go.RowKit
set_option linter.unusedVariables false
set_option linter.unusedSimpArgs false

structure Dt where
  y : Int
  m : Int
  d : Int
abbrev eDt (x : Dt) : List Value := [.int .i64 x.y, .int .i64 x.m, .int .i64 x.d]
theorem eDt_len (x : Dt) : (eDt x).length = 3 := rfl

set_option maxRecDepth 100000 in
set_option maxHeartbeats 2000000 in
theorem dateOf_bad (n : Int) (w : World) (h : n < bef 1 ∨ bef 10000 ≤ n) (b1 : -1000000 ≤ n) (b2 : n ≤ 1000000) :
    Calls Try.prog 54 #[.int .i64 n] w fun e w' => e = .returned (.tuple #[.agg #[.int .i64 0, .int .i64 0, .int .i64 0], .int .i64 2]) ∧ Below w.heap.size w w' := by
  have q1 : (1 : Int) ≤ 1 := by omega
  have q2 : (1 : Int) ≤ 10001 := by omega
  have q3 : (1 : Int) ≤ 10000 := by omega
  have q4 : (10000 : Int) ≤ 10001 := by omega
  by_cases h1 : n < bef 1
  · have d1 : decide (n < bef 1) = true := by simpa using h1
    go_enter Try.func54, Try.ntmps54
    go_wp2_with fail
    go_quiet ((go_at_call 78; exact Calls.quiet_of_same (before_any _ _ q1 q2)))
    go_wp2_with fail
    exact bodyPost_ret (v := .tuple #[.agg #[.int .i64 0, .int .i64 0, .int .i64 0], .int .i64 2]) (by simp [results, Try.results54, go_sem]) rfl ⟨rfl, by repeat' (first | exact Below.refl _ _ | assumption | refine Below.more ?_ ?_ _ | refine Below.alloc ?_ ?_ _ | refine Below.drew ?_ | refine below_drewN ?_ _ | refine Below.setCell ?_ ?_ _ | exact Below.size (by assumption) | (simp [go_sem, size_more]; done) | (simp [go_sem, size_more]; omega))⟩
  · have d1 : decide (n < bef 1) = false := by simpa using h1
    have h2 : bef 10000 ≤ n := by omega
    have d2 : decide (bef 10000 ≤ n) = true := by simpa using h2
    clear h
    go_enter Try.func54, Try.ntmps54
    go_wp2_with fail
    go_quiet ((go_at_call 78; exact Calls.quiet_of_same (before_any _ _ (by omega) (by omega))))
    go_wp2_with fail
    exact bodyPost_ret (v := .tuple #[.agg #[.int .i64 0, .int .i64 0, .int .i64 0], .int .i64 2]) (by simp [results, Try.results54, go_sem]) rfl ⟨rfl, by repeat' (first | exact Below.refl _ _ | assumption | refine Below.more ?_ ?_ _ | refine Below.alloc ?_ ?_ _ | refine Below.drew ?_ | refine below_drewN ?_ _ | refine Below.setCell ?_ ?_ _ | exact Below.size (by assumption) | (simp [go_sem, size_more]; done) | (simp [go_sem, size_more]; omega))⟩

set_option maxRecDepth 100000 in
set_option maxHeartbeats 8000000 in
theorem dateOf_ok (n y : Int) (w : World) (hy : IsYear n y) :
    Calls Try.prog 54 #[.int .i64 n] w fun e w' => (∃ m d, e = .returned (.tuple #[.agg #[.int .i64 y, .int .i64 m, .int .i64 d], .int .i64 0])) ∧ Below w.heap.size w w' := by
  have q1 : (1 : Int) ≤ 1 := by omega
  have q2 : (1 : Int) ≤ 10001 := by omega
  have q3 : (1 : Int) ≤ 10000 := by omega
  have q4 : (10000 : Int) ≤ 10001 := by omega
  obtain ⟨y1, y2, y3, y4⟩ := hy
  have hbA := bef_mono y1
  have hbB := bef_mono (a := y + 1) (b := 10000) (by omega)
  have hbb := bef_bound y y1 (by omega)
  have hbb2 := bef_bound (y + 1) (by omega) (by omega)
  have d1 : decide (n < bef 1) = false := by simp; omega
  have d2 : decide (bef 10000 ≤ n) = false := by simp; omega
  have hD := bef_succ y
  have hlp := lp01 y
  have D1 : n - bef y + 1 ≤ 365 + lp y := by omega
  have Y3 := Lib.hid y3; have Y4 := Lib.hid y4
  clear hD
  go_enter Try.func54, Try.ntmps54
  go_wp2_with fail
  go_quiet ((go_at_call 78; exact Calls.quiet_of_same (before_any _ _ (by omega) (by omega))))
  go_wp2_with fail
  obtain ⟨W0, hW0⟩ : ∃ W0, W0 = ((w.alloc (.cells #[.int .i64 n] 3)).alloc (.cells #[.int .i64 0, .int .i64 0, .int .i64 0] 64)).drewN nq := ⟨_, rfl⟩
  rw [← hW0]
  have hcB : W0.cell? ⟨w.heap.size, 0, none⟩ = some (.int .i64 n) := by rw [hW0]; simp [go_sem]
  have r0 : W0.cell? ⟨w.heap.size + 1, 0, none⟩ = some (.int .i64 0) := by rw [hW0]; simp [go_sem]
  have r1 : W0.cell? ⟨w.heap.size + 1, 1, none⟩ = some (.int .i64 0) := by rw [hW0]; simp [go_sem]
  have r2 : W0.cell? ⟨w.heap.size + 1, 2, none⟩ = some (.int .i64 0) := by rw [hW0]; simp [go_sem]
  have s0 : W0.frozen? ⟨w.heap.size + 1, 0, none⟩ = false := by rw [hW0]; simp [go_sem]
  have s1 : W0.frozen? ⟨w.heap.size + 1, 1, none⟩ = false := by rw [hW0]; simp [go_sem]
  have s2 : W0.frozen? ⟨w.heap.size + 1, 2, none⟩ = false := by rw [hW0]; simp [go_sem]
  have hsz0 : w.heap.size + 2 ≤ W0.heap.size := by rw [hW0]; simp
  have hbW0 : Below w.heap.size w W0 := by rw [hW0]; repeat' (first | exact Below.refl _ _ | assumption | refine Below.more ?_ ?_ _ | refine Below.alloc ?_ ?_ _ | refine Below.drew ?_ | refine below_drewN ?_ _ | refine Below.setCell ?_ ?_ _ | exact Below.size (by assumption) | (simp [go_sem, size_more]; done) | (simp [go_sem, size_more]; omega))
  clear hW0
  refine Calls.to (search_any 80 #[.pointer (some ⟨w.heap.size, 0, none⟩)] ent80 (fun i => decide (n < bef (i + 2))) 9999 _ rfl (by decide) _ ?_) ?_
  · intro W hW x hx0 hx1
    refine dateOf1_any n x w.heap.size W ?_ hx0 hx1
    exact (hW.cell (p := ⟨w.heap.size, 0, none⟩) (by show w.heap.size < _; omega)).trans hcB
  rintro e w1 ⟨r, rfl, hr, hr1, hr2⟩ hb1
  have hr9 : r < 9999 := by
    apply Nat.lt_of_not_le; intro h
    have := hr1 (by omega)
    obtain rfl : r = 9999 := by omega
    simp only [decide_eq_false_iff_not] at this
    apply this
    have e1 : ((9999 : Nat) : Int) - 1 + 2 = 10000 := by decide
    rw [e1]; omega
  have hy2 : IsYear n ((r : Int) + 1) := by
    refine ⟨by omega, by omega, ?_, ?_⟩
    · rcases Nat.eq_zero_or_pos r with h | h
      · subst h
        have := Y3.out
        show bef (0 + 1) ≤ n
        rw [Int.zero_add]; omega
      · have := hr1 h
        simp only [decide_eq_false_iff_not] at this
        rw [show (r : Int) - 1 + 2 = r + 1 from by omega] at this
        omega
    · have := hr2 hr9
      simp only [decide_eq_true_eq] at this
      rw [show (r : Int) + 1 + 1 = r + 2 from by omega]; exact this
  have hyr : y = (r : Int) + 1 := isYear_unique ⟨y1, y2, Y3.out, Y4.out⟩ hy2
  subst hyr
  clear hr1 hr2 hy2
  have hc0 : w1.cell? ⟨w.heap.size, 0, none⟩ = some (.int .i64 n) := (hb1.cell (p := ⟨w.heap.size, 0, none⟩) (by show w.heap.size < _; omega)).trans hcB
  have hsz1 : w.heap.size + 2 ≤ w1.heap.size := by have := hb1.size; omega
  have hbw1 : Below (w.heap.size + 2) W0 w1 := hb1.mono hsz0
  clear hcB
  clear hb1
  go_wp2_with fail
  have hk1 : IntKind.i64.wrap (n - bef ((r : Int) + 1)) = n - bef ((r : Int) + 1) := IntWalk.i64_in _ (by omega)
  have hk2 : IntKind.i64.wrap (n - bef ((r : Int) + 1) + 1) = n - bef ((r : Int) + 1) + 1 := IntWalk.i64_in _ (by omega)
  go_region_held3 (fun w' => w'.cell? ⟨w.heap.size, 0, none⟩ = some (.int .i64 n)) (first | go_keep) ((go_at_call 78; refine (before_any _ _ (by omega) (by omega)).mono ?_; rintro e w' ⟨rfl, rfl⟩))
  all_goals
    have hown0 := (Own.fresh (enc := eDt) eDt_len w1 w1.heap.size (Nat.le_refl _) 64 ⟨(r : Int) + 1, 1, n - bef ((r : Int) + 1) + 1⟩ _ rfl).below ((Below.refl _ _).drew)
    have hbw2 : Below (w.heap.size + 2) W0 (w1.alloc (.cells #[.int .i64 ((r : Int) + 1), .int .i64 1, .int .i64 (n - bef ((r : Int) + 1) + 1)] 64)).drew := (hbw1.alloc (by omega) _).drew
    have hsz2 : w1.heap.size < (w1.alloc (.cells #[.int .i64 ((r : Int) + 1), .int .i64 1, .int .i64 (n - bef ((r : Int) + 1) + 1)] 64)).drew.heap.size := by simp
    clear hk1 hk2
    generalize (w1.alloc (.cells #[.int .i64 ((r : Int) + 1), .int .i64 1, .int .i64 (n - bef ((r : Int) + 1) + 1)] 64)).drew = W2 at *
    have hD0 : 1 ≤ n - bef ((r : Int) + 1) + 1 := by omega
    have hD1 : n - bef ((r : Int) + 1) + 1 ≤ 366 := by omega
    generalize n - bef ((r : Int) + 1) + 1 = D0 at *
    have hB5 : w.heap.size + 2 ≤ w1.heap.size := hsz1
    generalize w1.heap.size = B5 at *
    go_wp2_with fail
    go_loopw [25] (fun _ wr => ∃ m d : Int, 1 ≤ m ∧ m ≤ 12 ∧ 1 ≤ d ∧ d ≤ 366 ∧ Hid (d + mcum ((r : Int) + 1) m = D0) ∧ Own B5 64 eDt 3 wr (.slice (some ⟨B5, 0, none⟩) 1 1) [⟨(r : Int) + 1, m, d⟩] ∧ Below (w.heap.size + 2) W0 wr ∧ B5 < wr.heap.size)
      (fun _ wr => (12 - intOf ((wr.cell? ⟨B5, 1, none⟩).getD undef)).toNat)
    case atStart => exact ⟨1, D0, by omega, by omega, by omega, by omega, by show D0 + mcum _ 1 = D0; rw [mcum_1]; omega, hown0, hbw2, hsz2⟩
    case round =>
      obtain ⟨m, d, m1, m2, dd1, dd2, hD, hown, hb, hsz⟩ := hrel
      have c0 := hown.cellAt' eDt_len 0 0 (by simp) (by omega)
      have c1 := hown.cellAt' eDt_len 0 1 (by simp) (by omega)
      have c2 := hown.cellAt' eDt_len 0 2 (by simp) (by omega)
      simp at c0 c1 c2
      have ml := mlen_bound ((r : Int) + 1) m
      go_wp2_with fail
      by_cases hd : mlen ((r : Int) + 1) m < d
      · go_region_held3 (fun w' => w'.cell? ⟨B5, 1, none⟩ = some (.int .i64 m) ∧ w'.cell? ⟨B5, 2, none⟩ = some (.int .i64 d)) (first | go_keep | (refine ⟨?_, ?_⟩ <;> (rw [hb1.cell (by simp; omega)]; assumption))) ((go_at_call 81; refine (month_any _ _ _ (by omega) (by omega) (by omega)).mono ?_; rintro e w' ⟨rfl, hb1⟩))
        have hbX : Below wr.heap.size wr w' := ((Below.refl _ _).drew).trans hb1
        have hown1 := hown.below hbX
        have hbb1 := hb.trans (hbX.mono (show w.heap.size + 2 ≤ wr.heap.size by omega))
        have hszX : B5 < w'.heap.size := by have := hbX.size; omega
        have e0 := hown1.cellAt' eDt_len 0 0 (by simp) (by omega)
        have e1 := hown1.cellAt' eDt_len 0 1 (by simp) (by omega)
        have e2 := hown1.cellAt' eDt_len 0 2 (by simp) (by omega)
        have f2 := hown1.free 2
        simp at e0 e1 e2
        have hm12 : m < 12 := by
          apply Int.not_le.1; intro h
          obtain rfl : m = 12 := by omega
          have h1 := hD.out
          have h2 := mcum_succ ((r : Int) + 1) 12 (by omega) (by omega)
          rw [show (12 : Int) + 1 = 13 from rfl, mcum_13] at h2
          omega
        have hD2 : Hid (d - mlen ((r : Int) + 1) m + mcum ((r : Int) + 1) (m + 1) = D0) := by
          show _ = _
          have h1 := hD.out
          have h2 := mcum_succ ((r : Int) + 1) m (by omega) (by omega)
          omega
        clear hb1 hbX c0 c2 hown hb
        go_wp2_with fail
        have hk : IntKind.i64.wrap (d - mlen ((r : Int) + 1) m) = d - mlen ((r : Int) + 1) m := IntWalk.i64_in _ (by omega)
        go_region_law (first | (go_simp; go_at_call 81; refine (month_any _ _ _ (by omega) (by omega) (by omega)).mono ?_; rintro e w4 ⟨rfl, hb4⟩; have f4 : w4.frozen? ⟨B5, 2, none⟩ = false := (hb4.frozen (p := ⟨B5, 2, none⟩) hszX).trans (by simp [f2]); have g2 : w4.cell? ⟨B5, 2, none⟩ = some (.int .i64 d) := (hb4.cell (p := ⟨B5, 2, none⟩) hszX).trans (by simp [e2])))
        all_goals
          have hb4X : Below w'.heap.size w' w4 := ((Below.refl _ _).drew).trans hb4
          have hown2 : Own B5 64 eDt 3 (w4.setCell ⟨B5, 2, none⟩ (.int .i64 (d - mlen ((r : Int) + 1) m))) (.slice (some ⟨B5, 0, none⟩) 1 1) [⟨(r : Int) + 1, m, d - mlen ((r : Int) + 1) m⟩] := by
            have := (hown1.below hb4X).store eDt_len 0 2 (by simp) (by omega) (.int .i64 (d - mlen ((r : Int) + 1) m)) ⟨(r : Int) + 1, m, d - mlen ((r : Int) + 1) m⟩ (by simp)
            simpa using this
          have hbb2 : Below (w.heap.size + 2) W0 (w4.setCell ⟨B5, 2, none⟩ (.int .i64 (d - mlen ((r : Int) + 1) m))) := (hbb1.trans (hb4X.mono (by omega))).setCell hB5 _
          have hsz4 : B5 < (w4.setCell ⟨B5, 2, none⟩ (.int .i64 (d - mlen ((r : Int) + 1) m))).heap.size := by have := hb4X.size; simp; omega
          clear hk hb4 hb4X f4 g2 f2 e0 e1 e2 hown1 hbb1 hszX
          generalize w4.setCell ⟨B5, 2, none⟩ (.int .i64 (d - mlen ((r : Int) + 1) m)) = W5 at *
          have k0 := hown2.cellAt' eDt_len 0 0 (by simp) (by omega)
          have k1 := hown2.cellAt' eDt_len 0 1 (by simp) (by omega)
          have k2 := hown2.cellAt' eDt_len 0 2 (by simp) (by omega)
          have f1 := hown2.free 1
          simp at k0 k1 k2
          go_wp2_with fail
          have hown3 : Own B5 64 eDt 3 (W5.setCell ⟨B5, 1, none⟩ (.int .i64 (m + 1))) (.slice (some ⟨B5, 0, none⟩) 1 1) [⟨(r : Int) + 1, m + 1, d - mlen ((r : Int) + 1) m⟩] := by
            have := hown2.store eDt_len 0 1 (by simp) (by omega) (.int .i64 (m + 1)) ⟨(r : Int) + 1, m + 1, d - mlen ((r : Int) + 1) m⟩ (by simp)
            simpa using this
          have kk := hown3.cellAt' eDt_len 0 1 (by simp) (by omega)
          simp only [Nat.zero_mul, Nat.zero_add] at kk
          refine ⟨⟨m + 1, d - mlen ((r : Int) + 1) m, by omega, by omega, by omega, by omega, hD2.out, hown3, hbb2.setCell hB5 _, by simp; omega⟩, ?_⟩
          rw [kk, c1]
          simp [intOf]; omega
      · go_region_held3 (fun w' => w'.cell? ⟨B5, 1, none⟩ = some (.int .i64 m) ∧ w'.cell? ⟨B5, 2, none⟩ = some (.int .i64 d)) (first | go_keep | (refine ⟨?_, ?_⟩ <;> (rw [hb1.cell (by simp; omega)]; assumption))) ((go_at_call 81; refine (month_any _ _ _ (by omega) (by omega) (by omega)).mono ?_; rintro e w' ⟨rfl, hb1⟩))
        have hbX : Below wr.heap.size wr w' := ((Below.refl _ _).drew).trans hb1
        have hown1 := hown.below hbX
        have hbb1 := hb.trans (hbX.mono (show w.heap.size + 2 ≤ wr.heap.size by omega))
        have hszX : B5 < w'.heap.size := by have := hbX.size; omega
        have e0 := hown1.cellAt' eDt_len 0 0 (by simp) (by omega)
        have e1 := hown1.cellAt' eDt_len 0 1 (by simp) (by omega)
        have e2 := hown1.cellAt' eDt_len 0 2 (by simp) (by omega)
        simp at e0 e1 e2
        have u0 := (hbb1.cell (p := ⟨w.heap.size + 1, 0, none⟩) (by show w.heap.size + 1 < _; omega)).trans r0
        have u1 := (hbb1.cell (p := ⟨w.heap.size + 1, 1, none⟩) (by show w.heap.size + 1 < _; omega)).trans r1
        have u2 := (hbb1.cell (p := ⟨w.heap.size + 1, 2, none⟩) (by show w.heap.size + 1 < _; omega)).trans r2
        have v0 := (hbb1.frozen (p := ⟨w.heap.size + 1, 0, none⟩) (by show w.heap.size + 1 < _; omega)).trans s0
        have v1 := (hbb1.frozen (p := ⟨w.heap.size + 1, 1, none⟩) (by show w.heap.size + 1 < _; omega)).trans s1
        have v2 := (hbb1.frozen (p := ⟨w.heap.size + 1, 2, none⟩) (by show w.heap.size + 1 < _; omega)).trans s2
        have hbF : Below w.heap.size w w' := hbW0.trans (hbb1.mono (by omega))
        clear hb1 hbX c0 c1 c2 hown hb r0 r1 r2 s0 s1 s2 hbb1 hown1
        go_wp2_with fail
        exact bodyPost_ret (v := .tuple #[.agg #[.int .i64 ((r : Int) + 1), .int .i64 m, .int .i64 d], .int .i64 0]) (by simp [results, Try.results54, go_sem, u0, u1, u2]) rfl ⟨⟨m, d, rfl⟩, by repeat' (first | exact Below.refl _ _ | assumption | refine Below.more ?_ ?_ _ | refine Below.alloc ?_ ?_ _ | refine Below.drew ?_ | refine below_drewN ?_ _ | refine Below.setCell ?_ ?_ _ | exact Below.size (by assumption) | (simp [go_sem, size_more]; done) | (simp [go_sem, size_more]; omega))⟩

end Go.Proofs.Ytbkihndidbmhoaa

namespace Go.Proofs.Ytbkihndidbmhoaa
open Go.RowKit
set_option linter.unusedVariables false
set_option linter.unusedSimpArgs false

theorem instant_any (t : Int) (w : World) : Calls Try.prog 52 #[.int .i64 t] w fun e w' => e = .returned (.bool (decide (-68719476736 ≤ t) && decide (t ≤ 68719476736))) ∧ w' = w := by
  by_cases h : -68719476736 ≤ t
  all_goals
    go_enter Try.func52, Try.ntmps52
    go_wp2_with fail
    go_ret
    exact ⟨ret_bool (by simp <;> omega), rfl⟩

theorem floor_any (a : Int) (w : World) (h1 : -1000000000000 ≤ a) (h2 : a ≤ 1000000000000) : Calls Try.prog 53 #[.int .i64 a, .int .i64 86400] w fun e w' => e = .returned (.int .i64 (a / 86400)) ∧ w' = w := by
  by_cases h0 : 0 ≤ a
  · go_enter Try.func53, Try.ntmps53
    go_wp2_with fail
    go_ret
    exact ⟨rfl, rfl⟩
  · obtain ⟨b, rfl⟩ : ∃ b : Int, a = -b := ⟨-a, by omega⟩
    have hb0 : 0 ≤ b := by omega
    have e1 : (-b).tdiv 86400 = -(b / 86400) := by rw [Int.neg_tdiv, Int.tdiv_eq_ediv_of_nonneg hb0]
    have e2 : (-b).tmod 86400 = -(b % 86400) := by rw [Int.neg_tmod, Int.tmod_eq_emod_of_nonneg hb0]
    obtain ⟨q, hq⟩ : ∃ q, b / 86400 = q := ⟨_, rfl⟩
    obtain ⟨r, hr⟩ : ∃ r, b % 86400 = r := ⟨_, rfl⟩
    have q1 : 0 ≤ q := by omega
    have q2 : q ≤ 1000000000000 := by omega
    have r1 : 0 ≤ r := by omega
    rw [hq] at e1
    rw [hr] at e2
    by_cases h3 : 0 < r
    · have hres : -b / 86400 = -q - 1 := by omega
      have HRES := Lib.hid hres; have HQ := Lib.hid hq; have HR := Lib.hid hr
      clear hres hq hr
      rw [HRES.out]
      go_enter Try.func53, Try.ntmps53
      go_wp2_with fail
      go_ret
      exact ⟨rfl, rfl⟩
    · have hres : -b / 86400 = -q := by omega
      have HRES := Lib.hid hres; have HQ := Lib.hid hq; have HR := Lib.hid hr
      clear hres hq hr
      rw [HRES.out]
      go_enter Try.func53, Try.ntmps53
      go_wp2_with fail
      go_ret
      exact ⟨rfl, rfl⟩

/-- What Split hands back. -/
def SplitIs (t : Int) (e : Ending) : Prop := ∃ m d s : Int, e = .returned (.tuple #[.agg #[.int .i64 (splitM t).2, .int .i64 m, .int .i64 d], .int .i64 s, .int .i64 (splitM t).1])

set_option maxRecDepth 100000 in
set_option maxHeartbeats 2000000 in
theorem split_any (t : Int) (w : World) : Calls Try.prog 28 #[.int .i64 t] w fun e w' => SplitIs t e ∧ Below w.heap.size w w' := by
  by_cases hi : t < -68719476736 ∨ 68719476736 < t
  · have hm : splitM t = (2, 0) := by unfold splitM; rw [if_pos hi]
    have HM := Lib.hid hm
    have hd : (decide (-68719476736 ≤ t) && decide (t ≤ 68719476736)) = false := by simp; omega
    have HD := Lib.hid hd
    clear hm hd
    go_enter Try.func28, Try.ntmps28
    go_wp2_with fail
    refine (instant_any t _).mono ?_
    rintro e w1 ⟨rfl, rfl⟩
    rw [HD.out]
    go_wp2_with fail
    refine bodyPost_ret (v := .tuple #[.agg #[.int .i64 0, .int .i64 0, .int .i64 0], .int .i64 0, .int .i64 2]) (by simp [results, Try.results28, go_sem]) rfl ⟨⟨0, 0, 0, ?_⟩, by repeat' (first | exact Below.refl _ _ | assumption | refine Below.more ?_ ?_ _ | refine Below.alloc ?_ ?_ _ | refine Below.drew ?_ | refine below_drewN ?_ _ | refine Below.setCell ?_ ?_ _ | exact Below.size (by assumption) | (simp [go_sem, size_more]; done) | (simp [go_sem, size_more]; omega))⟩
    rw [HM.out]
  · have hd : (decide (-68719476736 ≤ t) && decide (t ≤ 68719476736)) = true := by simp; omega
    have HD := Lib.hid hd
    have n1 : -1000000 ≤ t / 86400 := by omega
    have n2 : t / 86400 ≤ 1000000 := by omega
    have t1 : -1000000000000 ≤ t := by omega
    have t2 : t ≤ 1000000000000 := by omega
    have HI := Lib.hid hi
    obtain ⟨n, hn⟩ : ∃ n, t / 86400 = n := ⟨_, rfl⟩
    rw [hn] at n1 n2
    have p1 : -100000000000 ≤ t - n * 86400 := by omega
    have p2 : t - n * 86400 ≤ 100000000000 := by omega
    have HN := Lib.hid hn
    clear hd hi hn
    by_cases hb : n < bef 1 ∨ bef 10000 ≤ n
    · have hm : splitM t = (20, 0) := by unfold splitM; rw [if_neg HI.out, HN.out, if_pos hb]
      have HM := Lib.hid hm; have HB := Lib.hid hb
      clear hm hb
      go_enter Try.func28, Try.ntmps28
      go_wp2_with fail
      refine (instant_any t _).mono ?_
      rintro e w1 ⟨rfl, rfl⟩
      rw [HD.out]
      go_wp2_with fail
      refine (floor_any t _ t1 t2).mono ?_
      rintro e w1 ⟨rfl, rfl⟩
      rw [HN.out]
      go_wp2_with fail
      refine Calls.to (dateOf_bad n _ HB.out n1 n2) ?_
      rintro e w2 rfl hb2
      have hbb : Below w.heap.size w w2 := by
        refine Below.trans ?_ (hb2.mono (by simp))
        repeat' (first | exact Below.refl _ _ | assumption | refine Below.more ?_ ?_ _ | refine Below.alloc ?_ ?_ _ | refine Below.drew ?_ | refine below_drewN ?_ _ | refine Below.setCell ?_ ?_ _ | exact Below.size (by assumption) | (simp [go_sem, size_more]; done) | (simp [go_sem, size_more]; omega))
      have hz : w.heap.size < w2.heap.size := by have := hb2.size; simp at this; omega
      have c0 : w2.cell? ⟨w.heap.size, 0, none⟩ = some (.int .i64 0) := (hb2.cell (p := ⟨w.heap.size, 0, none⟩) (by simp)).trans (by simp [go_sem])
      have c1 : w2.cell? ⟨w.heap.size, 1, none⟩ = some (.int .i64 0) := (hb2.cell (p := ⟨w.heap.size, 1, none⟩) (by simp)).trans (by simp [go_sem])
      have c2 : w2.cell? ⟨w.heap.size, 2, none⟩ = some (.int .i64 0) := (hb2.cell (p := ⟨w.heap.size, 2, none⟩) (by simp)).trans (by simp [go_sem])
      have f0 : w2.frozen? ⟨w.heap.size, 0, none⟩ = false := (hb2.frozen (p := ⟨w.heap.size, 0, none⟩) (by simp)).trans (by simp [go_sem])
      have f1 : w2.frozen? ⟨w.heap.size, 1, none⟩ = false := (hb2.frozen (p := ⟨w.heap.size, 1, none⟩) (by simp)).trans (by simp [go_sem])
      have f2 : w2.frozen? ⟨w.heap.size, 2, none⟩ = false := (hb2.frozen (p := ⟨w.heap.size, 2, none⟩) (by simp)).trans (by simp [go_sem])
      clear hb2
      go_wp2_with fail
      refine bodyPost_ret (v := .tuple #[.agg #[.int .i64 0, .int .i64 0, .int .i64 0], .int .i64 0, .int .i64 20]) (by simp (maxDischargeDepth := 9) [results, Try.results28, go_sem, c0, c1, c2]) rfl ⟨⟨0, 0, 0, ?_⟩, by repeat' (first | exact Below.refl _ _ | assumption | refine Below.more ?_ ?_ _ | refine Below.alloc ?_ ?_ _ | refine Below.drew ?_ | refine below_drewN ?_ _ | refine Below.setCell ?_ ?_ _ | exact Below.size (by assumption) | (simp [go_sem, size_more]; done) | (simp [go_sem, size_more]; omega))⟩
      rw [HM.out]
    · obtain ⟨y, hy⟩ := year_exists n (by omega) (by omega)
      have hm : splitM t = (0, y) := by unfold splitM; rw [if_neg HI.out, HN.out, if_neg hb, yearOf_eq hy]
      have HM := Lib.hid hm; have HY := Lib.hid hy
      clear hm hb hy
      go_enter Try.func28, Try.ntmps28
      go_wp2_with fail
      refine (instant_any t _).mono ?_
      rintro e w1 ⟨rfl, rfl⟩
      rw [HD.out]
      go_wp2_with fail
      refine (floor_any t _ t1 t2).mono ?_
      rintro e w1 ⟨rfl, rfl⟩
      rw [HN.out]
      go_wp2_with fail
      refine Calls.to (dateOf_ok n y _ HY.out) ?_
      rintro e w2 ⟨m, d, rfl⟩ hb2
      have hbb : Below w.heap.size w w2 := by
        refine Below.trans ?_ (hb2.mono (by simp))
        repeat' (first | exact Below.refl _ _ | assumption | refine Below.more ?_ ?_ _ | refine Below.alloc ?_ ?_ _ | refine Below.drew ?_ | refine below_drewN ?_ _ | refine Below.setCell ?_ ?_ _ | exact Below.size (by assumption) | (simp [go_sem, size_more]; done) | (simp [go_sem, size_more]; omega))
      have hz : w.heap.size < w2.heap.size := by have := hb2.size; simp at this; omega
      have c0 : w2.cell? ⟨w.heap.size, 0, none⟩ = some (.int .i64 0) := (hb2.cell (p := ⟨w.heap.size, 0, none⟩) (by simp)).trans (by simp [go_sem])
      have c1 : w2.cell? ⟨w.heap.size, 1, none⟩ = some (.int .i64 0) := (hb2.cell (p := ⟨w.heap.size, 1, none⟩) (by simp)).trans (by simp [go_sem])
      have c2 : w2.cell? ⟨w.heap.size, 2, none⟩ = some (.int .i64 0) := (hb2.cell (p := ⟨w.heap.size, 2, none⟩) (by simp)).trans (by simp [go_sem])
      have f0 : w2.frozen? ⟨w.heap.size, 0, none⟩ = false := (hb2.frozen (p := ⟨w.heap.size, 0, none⟩) (by simp)).trans (by simp [go_sem])
      have f1 : w2.frozen? ⟨w.heap.size, 1, none⟩ = false := (hb2.frozen (p := ⟨w.heap.size, 1, none⟩) (by simp)).trans (by simp [go_sem])
      have f2 : w2.frozen? ⟨w.heap.size, 2, none⟩ = false := (hb2.frozen (p := ⟨w.heap.size, 2, none⟩) (by simp)).trans (by simp [go_sem])
      clear hb2
      go_wp2_with fail
      refine bodyPost_ret (v := .tuple #[.agg #[.int .i64 y, .int .i64 m, .int .i64 d], .int .i64 (t - n * 86400), .int .i64 0]) (by simp (maxDischargeDepth := 9) [results, Try.results28, go_sem, c0, c1, c2]) rfl ⟨⟨m, d, t - n * 86400, ?_⟩, by repeat' (first | exact Below.refl _ _ | assumption | refine Below.more ?_ ?_ _ | refine Below.alloc ?_ ?_ _ | refine Below.drew ?_ | refine below_drewN ?_ _ | refine Below.setCell ?_ ?_ _ | exact Below.size (by assumption) | (simp [go_sem, size_more]; done) | (simp [go_sem, size_more]; omega))⟩
      rw [HM.out]

end Go.Proofs.Ytbkihndidbmhoaa
