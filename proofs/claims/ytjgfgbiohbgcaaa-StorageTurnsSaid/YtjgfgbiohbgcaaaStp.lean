/- Levels and volumes of a right node, plainly. No function of the program is named. Conditions: the node is right. -/
import Derived.Test.YtjgfgbiohbgcaaaStl
namespace Go.Proofs.Ytjgfgbiohbgcaaa
open Go.RowKit
set_option linter.unusedVariables false
set_option linter.unusedSimpArgs false

theorem volV_bd {x : Nd} (h : ndB x = true) (n : Int) : 0 ≤ volV x n ∧ volV x n ≤ 1125899906842624 := by
  unfold volV
  by_cases hk : x.Kind = 3
  · rw [if_pos hk]; decide
  · rw [if_neg hk]
    have := shapeB_bd (ndB_shape h hk).2 (n - x.Inv)
    omega
structure Turned (x : Nd) (a b : Int) : Prop where
  t1 : levV x a ≤ levV x b
  t2 : x.Inv ≤ levV x a
  t3 : levV x b ≤ x.Gr
  v1 : volV x (levV x a) ≤ volV x (levV x b)
  v2 : volV x (levV x a) ≤ a
  v3 : volV x (levV x b) ≤ capB x
  k3 : x.Kind = 3 → levV x a = x.Inv ∧ volV x (levV x a) = 0 ∧ capB x = 0
  gr : x.Kind ≠ 3 → levV x a = x.Gr → volV x (levV x a) = capB x ∧ capB x ≤ a
  nx : x.Kind ≠ 3 → levV x a ≠ x.Gr → a < tabC x.Sh.xs (levV x a + 1 - x.Inv) ∧ tabB x.Sh.xs = true
theorem turned {x : Nd} (h : ndB x = true) {a b : Int} (ha : 0 ≤ a) (hab : a ≤ b) : Turned x a b := by
  by_cases hk : x.Kind = 3
  · have e1 : ∀ v, levV x v = x.Inv := fun v => by unfold levV; rw [if_pos hk]
    have e2 : ∀ v, volV x v = 0 := fun v => by unfold volV; rw [if_pos hk]
    have e3 : capB x = 0 := by unfold capB; rw [if_pos hk]
    have hb := levV_bd h ha
    rw [e1] at hb
    refine ⟨?_, ?_, ?_, ?_, ?_, ?_, ?_, ?_, ?_⟩ <;> simp only [e1, e2, e3]
    · omega
    · omega
    · omega
    · omega
    · omega
    · omega
    · simp
    · intro q; exact absurd hk q
    · intro q; exact absurd hk q
  · obtain ⟨hlt, hs⟩ := ndB_shape h hk
    obtain ⟨hl, e1, e2, e3, e4⟩ := shapeB_ends hs
    have ht := (shapeB_bd hs 0).1
    have eL : ∀ v, levV x v = x.Inv + mostV x.Sh.xs v := fun v => by unfold levV; rw [if_neg hk]
    have eV : ∀ v, volV x v = tabV x.Sh.xs (v - x.Inv) := fun v => by unfold volV; rw [if_neg hk]
    have eC : capB x = (lastK x.Sh.xs).Y := by unfold capB; rw [if_neg hk]
    have hm := mostV_mono ht hab (by omega)
    have ba := mostV_bd ht a (by omega)
    have bb := mostV_bd ht b (by omega)
    have va := tabV_most ht a (by omega)
    have vm := tabV_mono ht hm
    have vc := (tabV_bd ht (mostV x.Sh.xs b)).2
    have s1 : ∀ v, x.Inv + v - x.Inv = v := fun v => by omega
    have s2 : ∀ v, x.Inv + v + 1 - x.Inv = v + 1 := fun v => by omega
    refine ⟨?_, ?_, ?_, ?_, ?_, ?_, ?_, ?_, ?_⟩ <;> simp only [eL, eV, eC, s1, s2]
    · omega
    · omega
    · omega
    · exact vm
    · exact va
    · omega
    · intro q; exact absurd q hk
    · intro _ hg
      have hmx : mostV x.Sh.xs a = (x.Sh.xs[x.Sh.xs.length - 1]'(by omega)).X := by omega
      obtain ⟨bt1, bt2⟩ := tabV_between ht (mostV x.Sh.xs a)
      have q1 := bt1 (x.Sh.xs.length - 1) (by omega) (by omega)
      have q2 := bt2 (x.Sh.xs.length - 1) (by omega) (by omega)
      rcases ba.2.2 with q | q <;> omega
    · intro _ hg
      exact ⟨tabC_next ht a (by omega) (by omega), ht⟩

end Go.Proofs.Ytjgfgbiohbgcaaa
