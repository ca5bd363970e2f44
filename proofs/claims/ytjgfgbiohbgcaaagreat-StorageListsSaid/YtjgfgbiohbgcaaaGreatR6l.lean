/- The last knot at or ahead of a place, plainly. No function of the program is named. Conditions: the table is right. -/
import Derived.Test.YtjgfgbiohbgcaaaGreatTpl
namespace Go.Proofs.YtjgfgbiohbgcaaaGreat
open Go.RowKit
set_option linter.unusedVariables false
set_option linter.unusedSimpArgs false

def befGo (x : Int) : List Kn → Nat → Int → Int
  | [], _, k => k
  | a :: r, i, k => befGo x r (i + 1) (if a.X ≤ x then (i : Int) else k)
theorem cntX_take_step (xs : List Kn) (x : Int) (i : Nat) (hi : i < xs.length) : cntX (xs.take (i + 1)) x = cntX (xs.take i) x + (if xs[i].X < x then 1 else 0) := by
  unfold cntX
  rw [List.take_succ_eq_append_getElem hi, List.filter_append, List.length_append]
  congr 1
  by_cases h : xs[i].X < x
  · simp [h]
  · simp [h]
theorem cntX_take_full {xs : List Kn} (h : tabB xs = true) (x : Int) (i : Nat) (hi : i < xs.length) (hx : xs[i].X < x) : cntX (xs.take i) x = i := by
  unfold cntX
  rw [List.filter_eq_self.2]
  · simp; omega
  · intro a ha
    obtain ⟨j, hj, rfl⟩ := List.getElem_of_mem ha
    rw [List.getElem_take]
    simp at hj
    have := (tabB_lt h j i (by omega) hi).1
    simp; omega
theorem befGo_is {F : List Kn} (h : tabB F = true) (x : Int) : ∀ (xs : List Kn) (i : Nat) (k : Int), F.drop i = xs → i ≤ F.length → k = (cntX (F.take i) (x + 1) : Int) - 1 → befGo x xs i k = (cntX F (x + 1) : Int) - 1
  | [], i, k, hd, hi, hk => by
    rw [List.drop_eq_nil_iff] at hd
    rw [List.take_of_length_le hd] at hk
    exact hk
  | a :: r, i, k, hd, hi, hk => by
    have hlt : i < F.length := by
      rcases Nat.lt_or_ge i F.length with q | q
      · exact q
      · rw [List.drop_eq_nil_of_le q] at hd; cases hd
    rw [List.drop_eq_getElem_cons hlt] at hd
    simp only [List.cons.injEq] at hd
    obtain ⟨rfl, hd2⟩ := hd
    refine befGo_is h x r (i + 1) _ hd2 hlt ?_
    rw [cntX_take_step F (x + 1) i hlt]
    by_cases q : F[i].X ≤ x
    · rw [if_pos q, if_pos (by omega), cntX_take_full h (x + 1) i hlt (by omega)]; omega
    · rw [if_neg q, if_neg (by omega), hk]; simp

end Go.Proofs.YtjgfgbiohbgcaaaGreat
