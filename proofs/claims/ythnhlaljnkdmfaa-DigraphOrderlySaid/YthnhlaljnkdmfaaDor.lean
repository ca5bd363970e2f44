/- Places in an order. Conditions: none. -/
import Derived.Test.YthnhlaljnkdmfaaDix
import Derived.Test.YthnhlaljnkdmfaaGqo
namespace Go.Proofs.Ythnhlaljnkdmfaa
open Go.RowKit
set_option linter.unusedVariables false
set_option linter.unusedSimpArgs false

theorem idxFrom_none {α : Type} (p : α → Bool) : ∀ (l : List α) (k : Nat), (∀ y ∈ l, p y = false) → idxFrom p l k = -1
  | [], _, _ => rfl
  | y :: r, k, h => by
    simp only [idxFrom, h y (List.mem_cons_self ..)]
    exact idxFrom_none p r (k + 1) (fun z hz => h z (List.mem_cons_of_mem _ hz))
theorem idxFrom_skip {α : Type} (p : α → Bool) (y : α) (hy : p y = false) : ∀ (l : List α) (k : Nat), idxFrom p (l ++ [y]) k = idxFrom p l k
  | [], k => by simp [idxFrom, hy]
  | z :: r, k => by
    simp only [List.cons_append, idxFrom]
    rw [idxFrom_skip p y hy r (k + 1)]
/-- The places of all nodes in the first i. -/
def atL (n : Nat) (L : List Nat) (i : Nat) : List Int := (List.range n).map fun x => idxFrom (fun y => x == y) (L.take i) 0
theorem atL_len (n : Nat) (L : List Nat) (i : Nat) : (atL n L i).length = n := by simp [atL]
theorem atL_zero (n : Nat) (L : List Nat) : atL n L 0 = List.replicate n (-1) := by
  apply List.ext_getElem
  · simp [atL]
  · intro i h1 h2; simp [atL, idxFrom]
theorem atL_new {n : Nat} {L : List Nat} (hd : L.Nodup) {i : Nat} (hi : i < L.length) (hx : L[i] < (atL n L i).length) : (atL n L i)[L[i]] = -1 := by
  simp only [atL, List.getElem_map, List.getElem_range]
  refine idxFrom_none _ _ _ (fun y hy => ?_)
  obtain ⟨j, hj, e⟩ := List.mem_take_iff_getElem.1 hy
  have : L[i] ≠ y := fun e2 => by
    have := Gp.nodup_inj hd hi (by omega) (e2.trans e.symm)
    omega
  simpa using this
theorem atL_at {n : Nat} {L : List Nat} (hd : L.Nodup) {i j : Nat} (hj : j < i) (hi : i ≤ L.length) (hx : L[j]'(by omega) < (atL n L i).length) : (atL n L i)[L[j]'(by omega)] = (j : Int) := by
  simp only [atL, List.getElem_map, List.getElem_range]
  have hlen : (L.take i).length = i := by simp; omega
  have := idxFrom_at (fun y => L[j]'(by omega) == y) (L.take i) 0 j (by omega) (by simp) (fun m hm hml => by
    have : L[j]'(by omega) ≠ (L.take i)[m] := fun e => by
      rw [List.getElem_take] at e
      have := Gp.nodup_inj hd (by omega) (by omega) e
      omega
    simpa using this)
  rw [this]; simp
theorem atL_set {n : Nat} {L : List Nat} (hd : L.Nodup) {i : Nat} (hi : i < L.length) (hx : L[i] < n) : (atL n L i).set L[i] (i : Int) = atL n L (i + 1) := by
  apply List.ext_getElem
  · simp [atL]
  · intro x h1 h2
    by_cases hxe : L[i] = x
    · subst hxe
      rw [List.getElem_set_self, atL_at hd (by omega) (by omega)]
    · rw [List.getElem_set_ne hxe]
      simp only [atL, List.getElem_map, List.getElem_range]
      rw [List.take_succ_eq_append_getElem hi, idxFrom_skip]
      have : ¬ x = L[i] := fun e => hxe e.symm
      simpa using this

end Go.Proofs.Ythnhlaljnkdmfaa
