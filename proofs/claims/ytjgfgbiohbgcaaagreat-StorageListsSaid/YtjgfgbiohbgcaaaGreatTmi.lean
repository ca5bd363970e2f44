/- The first knot above a value, and the last one at most at it, plainly. No function of the program is named. Conditions: the table is right. -/
import Derived.Test.YtjgfgbiohbgcaaaGreatTml
namespace Go.Proofs.YtjgfgbiohbgcaaaGreat
open Go.RowKit
set_option linter.unusedVariables false
set_option linter.unusedSimpArgs false

theorem idx_cntY : ∀ {xs : List Kn}, xs.Pairwise (fun a b => a.Y ≤ b.Y) → ∀ (y : Int) (i : Nat), idxFrom (fun k : Kn => decide (y < k.Y)) xs i = if cntY xs y = xs.length then -1 else ((i + cntY xs y : Nat) : Int)
  | [], _, y, i => by simp [idxFrom, cntY]
  | k :: r, hp, y, i => by
    rw [List.pairwise_cons] at hp
    have ih := idx_cntY hp.2 y (i + 1)
    have hle := cntY_le r y
    by_cases h : y < k.Y
    · have h0 : cntY (k :: r) y = 0 := by
        unfold cntY
        rw [List.length_eq_zero_iff, List.filter_eq_nil_iff]
        intro z hz
        rcases List.mem_cons.1 hz with rfl | q
        · simp; omega
        · have := hp.1 z q; simp; omega
      rw [h0]
      simp [idxFrom, h]
    · have h1 : cntY (k :: r) y = cntY r y + 1 := by
        unfold cntY
        rw [List.filter_cons, if_pos (by simp; omega)]; simp
      rw [h1]
      simp only [idxFrom, List.length_cons]
      rw [if_neg (by simpa using h), ih]
      by_cases q : cntY r y = r.length
      · rw [if_pos q, if_pos (by omega)]
      · rw [if_neg q, if_neg (by omega)]; omega
def befY (y : Int) : List Kn → Nat → Int → Int
  | [], _, k => k
  | a :: r, i, k => befY y r (i + 1) (if a.Y ≤ y then (i : Int) else k)
theorem cntY_take_step (xs : List Kn) (y : Int) (i : Nat) (hi : i < xs.length) : cntY (xs.take (i + 1)) y = cntY (xs.take i) y + (if xs[i].Y ≤ y then 1 else 0) := by
  unfold cntY
  rw [List.take_succ_eq_append_getElem hi, List.filter_append, List.length_append]
  congr 1
  by_cases h : xs[i].Y ≤ y
  · simp [h]
  · simp [h]
theorem cntY_take_full {xs : List Kn} (h : tabB xs = true) (y : Int) (i : Nat) (hi : i < xs.length) (hx : xs[i].Y ≤ y) : cntY (xs.take i) y = i := by
  unfold cntY
  rw [List.filter_eq_self.2]
  · simp; omega
  · intro a ha
    obtain ⟨j, hj, rfl⟩ := List.getElem_of_mem ha
    rw [List.getElem_take]
    simp at hj
    have := (tabB_lt h j i (by omega) hi).2
    simp; omega
theorem befY_is {F : List Kn} (h : tabB F = true) (y : Int) (h0 : (F[0]'(by have := tabB_len h; omega)).Y ≤ y) : ∀ (xs : List Kn) (i : Nat) (k : Int), F.drop i = xs → i ≤ F.length → (i = 0 ∧ k = 0 ∨ k = (cntY (F.take i) y : Int) - 1) → befY y xs i k = (cntY F y : Int) - 1
  | [], i, k, hd, hi, hk => by
    have hl := tabB_len h
    rw [List.drop_eq_nil_iff] at hd
    rcases hk with ⟨rfl, _⟩ | hk
    · omega
    · rw [List.take_of_length_le hd] at hk
      exact hk
  | a :: r, i, k, hd, hi, hk => by
    have hlt : i < F.length := by
      rcases Nat.lt_or_ge i F.length with q | q
      · exact q
      · rw [List.drop_eq_nil_of_le q] at hd; cases hd
    rw [List.drop_eq_getElem_cons hlt] at hd
    simp only [List.cons.injEq] at hd
    obtain ⟨rfl, hd2⟩ := hd
    refine befY_is h y h0 r (i + 1) _ hd2 hlt (.inr ?_)
    rw [cntY_take_step F y i hlt]
    by_cases q : F[i].Y ≤ y
    · rw [if_pos q, if_pos q, cntY_take_full h y i hlt q]; omega
    · rw [if_neg q, if_neg q]
      rcases hk with ⟨rfl, rfl⟩ | hk
      · exact absurd h0 q
      · rw [hk]; simp

end Go.Proofs.YtjgfgbiohbgcaaaGreat
