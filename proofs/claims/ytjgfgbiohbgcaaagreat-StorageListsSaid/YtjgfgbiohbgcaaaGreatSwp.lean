/- A shape that is widened, plainly. No function of the program is named. Conditions: the table is a shape. -/
import Derived.Test.YtjgfgbiohbgcaaaGreatSws
namespace Go.Proofs.YtjgfgbiohbgcaaaGreat
open Go.RowKit
set_option linter.unusedVariables false
set_option linter.unusedSimpArgs false

def widK (area depth : Int) (k : Kn) : Kn := if depth < k.X then ⟨k.X, k.Y + area * (k.X - depth) / 1000⟩ else k
def insL (xs : List Kn) (depth : Int) : List Kn := if hitX xs depth = true then xs else xs.take (cntX xs depth) ++ ⟨depth, tabV xs depth⟩ :: xs.drop (cntX xs depth)
def widL (xs : List Kn) (depth area : Int) : List Kn := (insL xs depth).map (widK area depth)
def bigB (k : Kn) : Bool := decide (1125899906842624 < k.Y)
def widM (xs : List Kn) (depth area : Int) : List Kn × Int :=
  if shB xs = false then ([], 1) else if (btwB depth 0 (lastK xs).X && btwB area 0 1099511627776) = false then ([], 2)
  else if 100 < (insL xs depth).length then ([], 4) else if (widL xs depth area).any bigB = true then ([], 5) else (widL xs depth area, 0)

theorem shB_parts {xs : List Kn} (h : shB xs = true) : tabB xs = true ∧ ∃ hl : 0 < xs.length, (xs[0]'hl).X = 0 ∧ (xs[0]'hl).Y = 0 ∧ (xs[xs.length - 1]'(by omega)) = lastK xs ∧ 1 ≤ (lastK xs).X ∧ (lastK xs).X ≤ 4194304 ∧ (lastK xs).Y ≤ 1125899906842624 := by
  simp only [shB, Bool.and_eq_true, decide_eq_true_eq, btwB] at h
  obtain ⟨⟨⟨ht, h0⟩, h1⟩, h2⟩ := h
  have hl := tabB_len ht
  have hl0 : 0 < xs.length := by omega
  rw [kn_get0 hl0] at h0
  exact ⟨ht, hl0, h0.1, h0.2, (lastK_eq hl.1).symm, h1.1, h1.2, h2⟩
/-- All knots of a shape lie within its ends. -/
theorem shB_at {xs : List Kn} (h : shB xs = true) (j : Nat) (hj : j < xs.length) : 0 ≤ xs[j].X ∧ xs[j].X ≤ 4194304 ∧ 0 ≤ xs[j].Y ∧ xs[j].Y ≤ 1125899906842624 := by
  obtain ⟨ht, hl, e1, e2, e3, e4, e5, e6⟩ := shB_parts h
  have lo : 0 ≤ xs[j].X ∧ 0 ≤ xs[j].Y := by
    rcases Nat.eq_zero_or_pos j with rfl | q
    · omega
    · have := tabB_lt ht 0 j q hj; omega
  have hi : xs[j].X ≤ (lastK xs).X ∧ xs[j].Y ≤ (lastK xs).Y := by
    rcases Nat.lt_or_eq_of_le (show j ≤ xs.length - 1 by omega) with q | q
    · have := tabB_lt ht j (xs.length - 1) q (by omega); rw [e3] at this; omega
    · subst q; rw [e3]; omega
  omega
theorem shB_val {xs : List Kn} (h : shB xs = true) (x : Int) : 0 ≤ tabV xs x ∧ tabV xs x ≤ 1125899906842624 := by
  obtain ⟨ht, hl, e1, e2, e3, e4, e5, e6⟩ := shB_parts h
  obtain ⟨b1, b2⟩ := tabV_bd ht x
  rw [e3] at b2
  omega
/-- A place within the ends is ahead of the last knot, or at it. -/
theorem shB_cnt {xs : List Kn} (h : shB xs = true) {depth : Int} (hd : depth ≤ (lastK xs).X) : cntX xs depth < xs.length := by
  obtain ⟨ht, hl, e1, e2, e3, e4, e5, e6⟩ := shB_parts h
  have hc := cntX_le xs depth
  rcases Nat.lt_or_eq_of_le hc with q | q
  · exact q
  · have := (cntX_lt ht depth (xs.length - 1) (by omega)).1 (by omega)
    rw [e3] at this; omega
theorem insL_len (xs : List Kn) (depth : Int) : xs.length ≤ (insL xs depth).length ∧ (insL xs depth).length ≤ xs.length + 1 := by
  unfold insL
  have := cntX_le xs depth
  split <;> simp <;> omega
theorem insL_pre {xs : List Kn} (h : shB xs = true) (depth : Int) (j : Nat) (hj : j < (insL xs depth).length) (hji : j < cntX xs depth) : (insL xs depth)[j].X < depth ∧ (insL xs depth)[j].Y ≤ 1125899906842624 := by
  have ht := (shB_parts h).1
  have hc := cntX_le xs depth
  have hj2 : j < xs.length := by omega
  have e : (insL xs depth)[j] = xs[j] := by
    unfold insL
    split
    · rfl
    · rw [List.getElem_append_left (by simp; omega), List.getElem_take]
  rw [e]
  exact ⟨(cntX_lt ht depth j hj2).1 hji, (shB_at h j hj2).2.2.2⟩
theorem insL_post {xs : List Kn} (h : shB xs = true) {depth : Int} (hd : depth ≤ (lastK xs).X) (j : Nat) (hj : j < (insL xs depth).length) (hji : cntX xs depth ≤ j) : depth ≤ (insL xs depth)[j].X ∧ (insL xs depth)[j].X ≤ 4194304 ∧ 0 ≤ (insL xs depth)[j].Y ∧ (insL xs depth)[j].Y ≤ 1125899906842624 := by
  obtain ⟨ht, hl, e1, e2, e3, e4, e5, e6⟩ := shB_parts h
  have hc := cntX_le xs depth
  have hlen := insL_len xs depth
  have hp : ∀ q (hq : q < xs.length), cntX xs depth ≤ q → depth ≤ xs[q].X ∧ xs[q].X ≤ 4194304 ∧ 0 ≤ xs[q].Y ∧ xs[q].Y ≤ 1125899906842624 := by
    intro q hq hcq
    have h1 := cntX_lt ht depth q hq
    have h2 := shB_at h q hq
    have : ¬ xs[q].X < depth := fun g => by have := h1.2 g; omega
    omega
  by_cases hh : hitX xs depth = true
  · have e : insL xs depth = xs := by unfold insL; rw [if_pos hh]
    have hj2 : j < xs.length := by rw [e] at hj; exact hj
    have e' : (insL xs depth)[j] = xs[j] := by simp only [e]
    rw [e']; exact hp j hj2 hji
  · have e : insL xs depth = xs.take (cntX xs depth) ++ ⟨depth, tabV xs depth⟩ :: xs.drop (cntX xs depth) := by unfold insL; rw [if_neg hh]
    have hlt : (xs.take (cntX xs depth)).length = cntX xs depth := by simp; omega
    have e' : (insL xs depth)[j] = (xs.take (cntX xs depth) ++ ⟨depth, tabV xs depth⟩ :: xs.drop (cntX xs depth))[j]'(by rw [e] at hj; exact hj) := by simp only [e]
    rw [e', List.getElem_append_right (by omega)]
    rcases Nat.lt_or_eq_of_le hji with g | g
    · obtain ⟨q, hq⟩ : ∃ q, j = cntX xs depth + (q + 1) := ⟨j - cntX xs depth - 1, by omega⟩
      have hq2 : cntX xs depth + q < xs.length := by rw [e] at hj; simp at hj; omega
      have e2 : ((⟨depth, tabV xs depth⟩ : Kn) :: xs.drop (cntX xs depth))[j - (xs.take (cntX xs depth)).length]'(by simp; omega) = xs[cntX xs depth + q] := by
        simp only [hlt, hq, Nat.add_sub_cancel_left, List.getElem_cons_succ, List.getElem_drop]
      rw [e2]; exact hp _ hq2 (by omega)
    · have e2 : ((⟨depth, tabV xs depth⟩ : Kn) :: xs.drop (cntX xs depth))[j - (xs.take (cntX xs depth)).length]'(by simp; omega) = ⟨depth, tabV xs depth⟩ := by
        simp only [hlt, ← g, Nat.sub_self, List.getElem_cons_zero]
      rw [e2]
      have := shB_val h depth
      simp only; omega
/-- The row behind the knots ahead of k were turned. -/
def widR (L : List Kn) (area depth : Int) (k : Nat) : List Kn := (L.take k).map (widK area depth) ++ L.drop k
theorem widR_len (L : List Kn) (area depth : Int) (k : Nat) (hk : k ≤ L.length) : (widR L area depth k).length = L.length := by simp [widR]; omega
theorem widR_at (L : List Kn) (area depth : Int) (k : Nat) (hk : k < L.length) : (widR L area depth k)[k]'(by rw [widR_len _ _ _ _ (by omega)]; exact hk) = L[k] := by
  unfold widR
  rw [List.getElem_append_right (by simp; omega)]
  simp only [List.length_map, List.length_take, Nat.min_eq_left (Nat.le_of_lt hk), Nat.sub_self, List.getElem_drop, Nat.add_zero]
theorem widR_step (L : List Kn) (area depth : Int) (k : Nat) (hk : k < L.length) : (widR L area depth k).set k (widK area depth L[k]) = widR L area depth (k + 1) := by
  unfold widR
  rw [List.set_append_right _ _ (by simp; omega)]
  have e : k - (List.map (widK area depth) (L.take k)).length = 0 := by simp; omega
  rw [e, List.drop_eq_getElem_cons hk, List.set_cons_zero, List.take_succ_eq_append_getElem hk, List.map_append]
  simp
theorem widR_end (L : List Kn) (area depth : Int) : widR L area depth L.length = L.map (widK area depth) := by
  unfold widR; rw [List.take_of_length_le (Nat.le_refl _), List.drop_eq_nil_of_le (Nat.le_refl _), List.append_nil]
theorem widR_start {L : List Kn} {area depth : Int} {i : Nat} (h : ∀ j (hj : j < L.length), j < i → L[j].X < depth) : widR L area depth i = L := by
  unfold widR
  have e : (L.take i).map (widK area depth) = L.take i := by
    apply List.ext_getElem
    · simp
    · intro j h1 h2
      rw [List.getElem_map, List.getElem_take]
      have hj : j < L.length := by simp at h2; omega
      have hji : j < i := by simp at h2; omega
      have := h j hj hji
      unfold widK
      rw [if_neg (by omega)]
  rw [e, List.take_append_drop]

end Go.Proofs.YtjgfgbiohbgcaaaGreat
