/- Plain facts on the way of a spill: how long it can be, one step of it. No function is named. Conditions: none. -/
import Derived.Test.YtlcfnbnpkcjjlaaGreatNz
namespace Go.Proofs.YtlcfnbnpkcjjlaaGreat
open Go.RowKit
set_option linter.unusedVariables false
set_option linter.unusedSimpArgs false

theorem nodup_len : ∀ (N : Nat) (ys : List Int), ys.Nodup → (∀ y ∈ ys, 0 ≤ y ∧ y < (N : Int)) → ys.length ≤ N
  | 0, ys, _, h => by
    cases ys with
    | nil => simp
    | cons y r => have := h y (by simp); omega
  | N + 1, ys, hn, h => by
    have h1 := nodup_len N (ys.erase (N : Int)) (hn.erase _) (by
      intro y hy
      have hm := List.mem_of_mem_erase hy
      have hb := h y hm
      have hne : y ≠ (N : Int) := by
        rintro rfl
        exact (List.Nodup.not_mem_erase hn) hy
      omega)
    have h2 := List.length_erase (a := (N : Int)) (l := ys)
    split at h2 <;> omega

theorem lastI_snoc (ys : List Int) (k : Int) : lastI (ys ++ [k]) = k := by
  simp [lastI, List.getD]

theorem causeM_stop1 {ns : List Nd} {ls : List Lk} {V : List Int} {f : Nat} {w : List Int} (h : nextM ns (nmAt ns (lastI w).toNat) ls < 0) : causeM ns ls V (f + 1) w = lastI w := by
  simp [causeM, h]
theorem causeM_stop2 {ns : List Nd} {ls : List Lk} {V : List Int} {f : Nat} {w : List Int} (h : w.contains (nextM ns (nmAt ns (lastI w).toNat) ls) = true) : causeM ns ls V (f + 1) w = lastI w := by
  simp only [causeM, h, if_true]
  split <;> rfl
theorem causeM_stop3 {ns : List Nd} {ls : List Lk} {V : List Int} {f : Nat} {w : List Int} (h : fullM ns V (nextM ns (nmAt ns (lastI w).toNat) ls).toNat = false) : causeM ns ls V (f + 1) w = lastI w := by
  simp only [causeM, h]
  split
  · rfl
  · split <;> rfl
theorem causeM_step {ns : List Nd} {ls : List Lk} {V : List Int} {f : Nat} {w : List Int} (h1 : ¬ nextM ns (nmAt ns (lastI w).toNat) ls < 0) (h2 : w.contains (nextM ns (nmAt ns (lastI w).toNat) ls) = false)
    (h3 : fullM ns V (nextM ns (nmAt ns (lastI w).toNat) ls).toNat = true) : causeM ns ls V (f + 1) w = causeM ns ls V f (w ++ [nextM ns (nmAt ns (lastI w).toNat) ls]) := by
  simp only [causeM, h1, h2, h3, if_false, if_true, Bool.false_eq_true]

end Go.Proofs.YtlcfnbnpkcjjlaaGreat
