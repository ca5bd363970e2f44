/- How the reference builds a widened shape, plainly: knot by knot. No function of the program is named. Conditions: the table is a shape, the depth lies within it. -/
import Derived.Test.YtjgfgbiohbgcaaaSwp
namespace Go.Proofs.Ytjgfgbiohbgcaaa
open Go.RowKit
set_option linter.unusedVariables false
set_option linter.unusedSimpArgs false

def insA (xs : List Kn) (depth : Int) (i : Nat) : Prop := hitX xs depth = false ∧ i = cntX xs depth
/-- What stands when i knots were taken. -/
def outW (xs : List Kn) (depth area : Int) (i : Nat) : List Kn := ((insL xs depth).take (if hitX xs depth = false ∧ cntX xs depth < i then i + 1 else i)).map (widK area depth)
theorem outW_zero (xs : List Kn) (depth area : Int) : outW xs depth area 0 = [] := by
  unfold outW; rw [if_neg (by omega)]; rfl
theorem outW_end {xs : List Kn} (h : shB xs = true) {depth : Int} (hd : depth ≤ (lastK xs).X) (area : Int) : outW xs depth area xs.length = widL xs depth area := by
  have hc := shB_cnt h hd
  unfold outW widL
  rw [List.take_of_length_le]
  by_cases hh : hitX xs depth = true
  · have e : insL xs depth = xs := by unfold insL; rw [if_pos hh]
    rw [if_neg (by rw [hh]; simp), e]; exact Nat.le_refl _
  · rw [if_pos ⟨by simpa using hh, hc⟩]; exact (insL_len xs depth).2
theorem ins_lo {xs : List Kn} {depth : Int} (j : Nat) (hj : j < xs.length) (hjc : hitX xs depth = true ∨ j < cntX xs depth) (h2 : j < (insL xs depth).length) : (insL xs depth)[j] = xs[j] := by
  by_cases hh : hitX xs depth = true
  · have e : insL xs depth = xs := by unfold insL; rw [if_pos hh]
    simp only [e]
  · have hc := cntX_le xs depth
    have hjc : j < cntX xs depth := hjc.resolve_left hh
    have e : insL xs depth = xs.take (cntX xs depth) ++ ⟨depth, tabV xs depth⟩ :: xs.drop (cntX xs depth) := by unfold insL; rw [if_neg hh]
    have e' : (insL xs depth)[j] = (xs.take (cntX xs depth) ++ ⟨depth, tabV xs depth⟩ :: xs.drop (cntX xs depth))[j]'(by rw [e] at h2; exact h2) := by simp only [e]
    rw [e', List.getElem_append_left (by simp; omega), List.getElem_take]
theorem ins_at {xs : List Kn} {depth : Int} (hh : hitX xs depth = false) (h2 : cntX xs depth < (insL xs depth).length) : (insL xs depth)[cntX xs depth] = ⟨depth, tabV xs depth⟩ := by
  have hc := cntX_le xs depth
  have e : insL xs depth = xs.take (cntX xs depth) ++ ⟨depth, tabV xs depth⟩ :: xs.drop (cntX xs depth) := by unfold insL; rw [if_neg (by rw [hh]; simp)]
  have e' : (insL xs depth)[cntX xs depth] = (xs.take (cntX xs depth) ++ ⟨depth, tabV xs depth⟩ :: xs.drop (cntX xs depth))[cntX xs depth]'(by rw [e] at h2; exact h2) := by simp only [e]
  have hl : (xs.take (cntX xs depth)).length = cntX xs depth := by simp; omega
  rw [e', List.getElem_append_right (by omega)]
  simp only [hl, Nat.sub_self, List.getElem_cons_zero]
theorem ins_hi {xs : List Kn} {depth : Int} (hh : hitX xs depth = false) (j : Nat) (hj : j < xs.length) (hjc : cntX xs depth ≤ j) (h2 : j + 1 < (insL xs depth).length) : (insL xs depth)[j + 1] = xs[j] := by
  have hc := cntX_le xs depth
  have e : insL xs depth = xs.take (cntX xs depth) ++ ⟨depth, tabV xs depth⟩ :: xs.drop (cntX xs depth) := by unfold insL; rw [if_neg (by rw [hh]; simp)]
  have e' : (insL xs depth)[j + 1] = (xs.take (cntX xs depth) ++ ⟨depth, tabV xs depth⟩ :: xs.drop (cntX xs depth))[j + 1]'(by rw [e] at h2; exact h2) := by simp only [e]
  have hl : (xs.take (cntX xs depth)).length = cntX xs depth := by simp; omega
  rw [e', List.getElem_append_right (by omega)]
  obtain ⟨q, rfl⟩ : ∃ q, j = cntX xs depth + q := ⟨j - cntX xs depth, by omega⟩
  have hs : cntX xs depth + q + 1 - (xs.take (cntX xs depth)).length = q + 1 := by omega
  simp only [hs, List.getElem_cons_succ, List.getElem_drop]
theorem outW_plain {xs : List Kn} {depth : Int} (area : Int) (i : Nat) (hi : i < xs.length) (hA : ¬ insA xs depth i) : outW xs depth area (i + 1) = outW xs depth area i ++ [widK area depth xs[i]] := by
  have hl := insL_len xs depth
  unfold outW
  by_cases hh : hitX xs depth = true
  · rw [if_neg (by rw [hh]; simp), if_neg (by rw [hh]; simp), List.take_succ_eq_append_getElem (by omega), List.map_append, ins_lo i hi (.inl hh)]; rfl
  · have hh : hitX xs depth = false := by simpa using hh
    have hne : i ≠ cntX xs depth := fun e => hA ⟨hh, e⟩
    have hll : (insL xs depth).length = xs.length + 1 := by
      unfold insL; rw [if_neg (by rw [hh]; simp)]; have := cntX_le xs depth; simp; omega
    by_cases hlt : i < cntX xs depth
    · rw [if_neg (by omega), if_neg (by omega), List.take_succ_eq_append_getElem (by omega), List.map_append, ins_lo i hi (.inr hlt)]; rfl
    · rw [if_pos ⟨hh, by omega⟩, if_pos ⟨hh, by omega⟩, List.take_succ_eq_append_getElem (by omega), List.map_append, ins_hi hh i hi (by omega)]; rfl
theorem outW_ins {xs : List Kn} {depth : Int} (area : Int) (i : Nat) (hi : i < xs.length) (hA : insA xs depth i) : outW xs depth area (i + 1) = outW xs depth area i ++ [⟨depth, tabV xs depth⟩] ++ [widK area depth xs[i]] := by
  obtain ⟨hh, rfl⟩ := hA
  have hll : (insL xs depth).length = xs.length + 1 := by
    unfold insL; rw [if_neg (by rw [hh]; simp)]; have := cntX_le xs depth; simp; omega
  unfold outW
  rw [if_pos ⟨hh, by omega⟩, if_neg (by omega), List.take_succ_eq_append_getElem (by omega), List.take_succ_eq_append_getElem (by omega), List.map_append, List.map_append, ins_at hh, ins_hi hh _ hi (Nat.le_refl _)]
  simp only [List.map_cons, List.map_nil]
  have : widK area depth ⟨depth, tabV xs depth⟩ = ⟨depth, tabV xs depth⟩ := by unfold widK; rw [if_neg (by simp)]
  rw [this]
theorem insA_iff {xs : List Kn} (h : shB xs = true) {depth : Int} (hd0 : 0 ≤ depth) (i : Nat) (hi : i < xs.length) : insA xs depth i ↔ ∃ hp : 0 < i, (xs[i - 1]'(by omega)).X < depth ∧ depth < xs[i].X := by
  obtain ⟨ht, hl, e1, e2, e3, e4, e5, e6⟩ := shB_parts h
  have hlt := fun j hj => cntX_lt ht depth j hj
  constructor
  · rintro ⟨hh, rfl⟩
    have h1 := hlt (cntX xs depth) hi
    have hne : xs[cntX xs depth].X ≠ depth := by
      intro e
      have : hitX xs depth = true := by
        simp only [hitX, Bool.and_eq_true, decide_eq_true_eq]
        exact ⟨hi, by rw [knAt_is hi]; exact e⟩
      rw [hh] at this; cases this
    have hp : 0 < cntX xs depth := by
      rcases Nat.eq_zero_or_pos (cntX xs depth) with q | q
      · exfalso
        simp only [q] at h1 hne
        have : ¬ (xs[0].X < depth) := fun g => by have := h1.2 g; omega
        omega
      · exact q
    exact ⟨hp, (hlt (cntX xs depth - 1) (by omega)).1 (by omega), by omega⟩
  · rintro ⟨hp, h1, h2⟩
    have c1 := (hlt (i - 1) (by omega)).2 h1
    have c2 : ¬ i < cntX xs depth := fun q => by have := (hlt i hi).1 q; omega
    have hc : i = cntX xs depth := by omega
    refine ⟨?_, hc⟩
    rw [← Bool.not_eq_true]
    intro q
    simp only [hitX, Bool.and_eq_true, decide_eq_true_eq] at q
    obtain ⟨q1, q2⟩ := q
    rw [knAt_is q1] at q2
    subst hc
    omega
/-- The inserted knot is not too great: the others decide. -/
theorem big_same {xs : List Kn} (h : shB xs = true) (depth area : Int) : (xs.map (widK area depth)).any bigB = (widL xs depth area).any bigB := by
  unfold widL insL
  by_cases hh : hitX xs depth = true
  · rw [if_pos hh]
  · rw [if_neg hh]
    have hv := shB_val h depth
    have hb : bigB (widK area depth ⟨depth, tabV xs depth⟩) = false := by
      unfold widK bigB; rw [if_neg (by simp)]; exact decide_eq_false (by simp only; omega)
    conv => lhs; rw [← List.take_append_drop (cntX xs depth) xs]
    simp only [List.map_append, List.map_cons, List.any_append, List.any_cons, hb, Bool.false_or]
end Go.Proofs.Ytjgfgbiohbgcaaa
