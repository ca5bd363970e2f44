/- Plain facts on the calendar: the days before a year, the days of a month, the year of a day. No program is named. Conditions: none. -/
import Derived.Test.YtbkihndidbmhoaaBasf
namespace Go.Proofs.Ytbkihndidbmhoaa
open Go.RowKit
set_option linter.unusedVariables false
set_option linter.unusedSimpArgs false

def bef (y : Int) : Int := 365 * (y - 1) + (y - 1) / 4 - (y - 1) / 100 + (y - 1) / 400 - 730119
def leapB (y : Int) : Bool := (decide (y % 4 = 0) && !decide (y % 100 = 0)) || decide (y % 400 = 0)
def lp (y : Int) : Int := if leapB y = true then 1 else 0

theorem lp01 (y : Int) : 0 ≤ lp y ∧ lp y ≤ 1 := by unfold lp; split <;> omega

theorem bef_succ (y : Int) : bef (y + 1) = bef y + 365 + lp y := by
  unfold bef lp leapB
  by_cases h4 : y % 4 = 0 <;> by_cases h100 : y % 100 = 0 <;> by_cases h400 : y % 400 = 0 <;> simp [h4, h100, h400] <;> omega

theorem bef_mono_step (y : Int) : bef y < bef (y + 1) := by rw [bef_succ]; have := lp01 y; omega

theorem bef_lt_nat (y : Int) : ∀ n : Nat, bef y ≤ bef (y + n)
  | 0 => by simp
  | n + 1 => by
    have h1 := bef_lt_nat y n
    have h2 := bef_mono_step (y + n)
    have e : y + ((n + 1 : Nat) : Int) = y + n + 1 := by omega
    rw [e]; omega

theorem bef_mono {a b : Int} (h : a ≤ b) : bef a ≤ bef b := by
  obtain ⟨n, hn⟩ : ∃ n : Nat, b = a + n := ⟨(b - a).toNat, by omega⟩
  rw [hn]; exact bef_lt_nat a n

theorem bef_lt {a b : Int} (h : a < b) : bef a < bef b := by
  have h1 := bef_mono_step a
  have h2 := bef_mono (a := a + 1) (b := b) (by omega)
  omega

theorem bef_1 : bef 1 = -730119 := by decide
theorem bef_10000 : bef 10000 = 2921940 := by decide
theorem bef_bound (y : Int) (h1 : 1 ≤ y) (h2 : y ≤ 10000) : -730119 ≤ bef y ∧ bef y ≤ 2921940 := by
  have a := bef_mono h1
  have b := bef_mono h2
  rw [bef_1] at a; rw [bef_10000] at b
  exact ⟨a, b⟩

def IsYear (n y : Int) : Prop := 1 ≤ y ∧ y ≤ 9999 ∧ bef y ≤ n ∧ n < bef (y + 1)

theorem isYear_unique {n a b : Int} (ha : IsYear n a) (hb : IsYear n b) : a = b := by
  obtain ⟨_, _, a3, a4⟩ := ha
  obtain ⟨_, _, b3, b4⟩ := hb
  rcases Int.lt_trichotomy a b with h | h | h
  · have := bef_mono (a := a + 1) (b := b) (by omega); omega
  · exact h
  · have := bef_mono (a := b + 1) (b := a) (by omega); omega

open Classical in
noncomputable def yearOf (n : Int) : Int := if h : ∃ y, IsYear n y then h.choose else 0
theorem yearOf_eq {n y : Int} (h : IsYear n y) : yearOf n = y := by
  unfold yearOf
  have hex : ∃ y, IsYear n y := ⟨y, h⟩
  rw [dif_pos hex]
  exact isYear_unique hex.choose_spec h

theorem year_mono {a b y z : Int} (ha : IsYear a y) (hb : IsYear b z) (h : a ≤ b) : y ≤ z := by
  obtain ⟨_, _, a3, a4⟩ := ha
  obtain ⟨_, _, b3, b4⟩ := hb
  rcases Int.lt_or_le z y with h1 | h1
  · have := bef_mono (a := z + 1) (b := y) (by omega); omega
  · exact h1

theorem year_exists (n : Int) (h1 : bef 1 ≤ n) (h2 : n < bef 10000) : ∃ y, IsYear n y := by
  have key : ∀ k : Nat, k ≤ 9999 → n < bef (1 + k) → ∃ y, IsYear n y := by
    intro k
    induction k with
    | zero => intro _ h; exfalso; simp at h; omega
    | succ k ih =>
      intro hk h
      by_cases hc : n < bef (1 + k)
      · exact ih (by omega) hc
      · refine ⟨1 + k, by omega, by omega, by omega, ?_⟩
        have e : (1 : Int) + ((k + 1 : Nat) : Int) = 1 + k + 1 := by omega
        rw [e] at h; exact h
  exact key 9999 (Nat.le_refl _) (by simpa using h2)

/-- The days of a month, and those before it in its year. -/
def mlen (y m : Int) : Int :=
  if m = 2 then 28 + lp y else if m = 4 ∨ m = 6 ∨ m = 9 ∨ m = 11 then 30 else 31
def mc3 (m : Int) : Int := if m ≤ 3 then 59 else if m ≤ 4 then 90 else if m ≤ 5 then 120 else if m ≤ 6 then 151 else if m ≤ 7 then 181 else if m ≤ 8 then 212 else if m ≤ 9 then 243 else if m ≤ 10 then 273 else if m ≤ 11 then 304 else if m ≤ 12 then 334 else 365
def mcum (y m : Int) : Int := if m ≤ 1 then 0 else if m ≤ 2 then 31 else mc3 m + lp y
theorem mc3_bound (m : Int) : 59 ≤ mc3 m ∧ mc3 m ≤ 365 := by
  unfold mc3
  repeat (split; · omega)
  omega

theorem mcum_succ (y m : Int) (h1 : 1 ≤ m) (h2 : m ≤ 12) : mcum y (m + 1) = mcum y m + mlen y m := by
  obtain rfl | rfl | rfl | rfl | rfl | rfl | rfl | rfl | rfl | rfl | rfl | rfl : m = 1 ∨ m = 2 ∨ m = 3 ∨ m = 4 ∨ m = 5 ∨ m = 6 ∨ m = 7 ∨ m = 8 ∨ m = 9 ∨ m = 10 ∨ m = 11 ∨ m = 12 := by omega
  all_goals
    unfold mcum mlen mc3
    repeat (first | rw [if_pos (by omega)] | rw [if_neg (by omega)])
    omega

theorem mlen_bound (y m : Int) : 28 ≤ mlen y m ∧ mlen y m ≤ 31 := by
  have := lp01 y
  unfold mlen; split
  · omega
  · split <;> omega
theorem mcum_bound (y m : Int) : 0 ≤ mcum y m ∧ mcum y m ≤ 366 := by
  have := lp01 y
  have := mc3_bound m
  unfold mcum; split
  · omega
  · split <;> omega
theorem mcum_1 (y : Int) : mcum y 1 = 0 := by simp [mcum]
theorem mcum_13 (y : Int) : mcum y 13 = 365 + lp y := by simp [mcum, mc3]

/-- What Split hands back: the error's number, and the year. -/
noncomputable def splitM (t : Int) : Int × Int :=
  if t < -68719476736 ∨ 68719476736 < t then (2, 0)
  else if t / 86400 < bef 1 ∨ bef 10000 ≤ t / 86400 then (20, 0)
  else (0, yearOf (t / 86400))

theorem split_year {t : Int} (h : (splitM t).1 = 0) : IsYear (t / 86400) (splitM t).2 := by
  unfold splitM at *
  split at h
  · cases h
  · rename_i h1
    rw [if_neg h1]
    split at h
    · cases h
    · rename_i h2
      rw [if_neg h2]
      obtain ⟨y, hy⟩ := year_exists (t / 86400) (by omega) (by omega)
      show IsYear _ (yearOf _)
      rw [yearOf_eq hy]; exact hy

theorem split_ok (t : Int) (h1 : -60000000000 ≤ t) (h2 : t ≤ 60000000000) : (splitM t).1 = 0 := by
  unfold splitM
  rw [if_neg (by omega), if_neg (by rw [bef_1, bef_10000]; omega)]

theorem split_mono {a b : Int} (ha : (splitM a).1 = 0) (hb : (splitM b).1 = 0) (h : a ≤ b) : (splitM a).2 ≤ (splitM b).2 :=
  year_mono (split_year ha) (split_year hb) (Int.ediv_le_ediv (by omega) h)

end Go.Proofs.Ytbkihndidbmhoaa
