/- More inflow fills a sump faster, and lets it drain slower: plainly. No function of the program is named. Conditions: both times exist. -/
import Derived.Test.YtmpegbebjefkaaaPdr
namespace Go.Proofs.Ytmpegbebjefkaaa
open Go.RowKit
set_option linter.unusedVariables false
set_option linter.unusedSimpArgs false

theorem fillM_err {x : Nd} {l : Lk} {q : Int} (h : (fillM x l q).2.2 ≠ 0) : (fillM x l q).1 = 0 ∧ (fillM x l q).2.1 = 0 := by
  unfold fillM at h ⊢
  split
  · exact ⟨rfl, rfl⟩
  · split
    · exact ⟨rfl, rfl⟩
    · rename_i h1 h2
      rw [if_neg h1, if_neg h2] at h
      exact absurd rfl h
theorem fillM_ok {x : Nd} {l : Lk} {q : Int} (h : (fillM x l q).2.2 = 0) : (givM x l q).2 = 0 ∧ q ≠ 0 ∧ fillM x l q = (((quoN (sumpV x l).1.toNat q.toNat false : Nat) : Int), ((quoN (sumpV x l).1.toNat q.toNat true : Nat) : Int), 0) := by
  unfold fillM at h ⊢
  split at h
  · rename_i h1; exact absurd h h1
  · rename_i h1
    split at h
    · exact absurd h (by decide)
    · rename_i h2
      rw [if_neg h1, if_neg h2]
      exact ⟨by omega, h2, rfl⟩

structure Faster (x y u v : Int × Int × Int) (ea eb : Bool × Int) : Prop where
  f1 : y.1 ≤ x.1
  f2 : y.2.1 ≤ x.2.1
  f3 : x.1 ≤ x.2.1
  f4 : x.2.1 ≤ x.1 + 1
  f5 : 0 ≤ x.1
  f6 : x.2.1 ≤ 1125899906842625
  g1 : ea.2 = 0
  g2 : eb.2 = 0
  g3 : eb.1 = true → ea.1 = true
  h1 : (u.2.2 == 0) = ea.1
  h2 : (v.2.2 == 0) = eb.1
  h3 : eb.1 = true → u.1 ≤ v.1 ∧ u.2.1 ≤ v.2.1 ∧ u.1 ≤ u.2.1 ∧ v.1 ≤ v.2.1
theorem faster {x : Nd} {l : Lk} {a b : Int} (ha : 1 ≤ a) (hab : a ≤ b) (h1 : (fillM x l a).2.2 = 0) (h2 : (fillM x l b).2.2 = 0) :
    Faster (fillM x l a) (fillM x l b) (drainM x l a) (drainM x l b) (enoughM x l a) (enoughM x l b) := by
  obtain ⟨ga, _, ea⟩ := fillM_ok h1
  obtain ⟨gb, _, eb⟩ := fillM_ok h2
  obtain ⟨_, b1, b2, b3, b4, b5, b6, b7⟩ := givM_ok ga
  obtain ⟨_, _, _, _, _, _, _, b8⟩ := givM_ok gb
  have hd : ∀ q, (givM x l q).2 = 0 → drainM x l q = if (sumpV x l).2.1 ≤ q then (0, 0, 28) else (((quoN (sumpV x l).1.toNat ((sumpV x l).2.2 - q).toNat false : Nat) : Int), ((quoN (sumpV x l).1.toNat ((sumpV x l).2.1 - q).toNat true : Nat) : Int), 0) := by
    intro q hq; unfold drainM; rw [if_neg (by omega)]
  have he : ∀ q, (givM x l q).2 = 0 → enoughM x l q = (decide (q < (sumpV x l).2.1), 0) := by
    intro q hq; unfold enoughM; rw [hq]; simp
  have qa : 0 < a.toNat := by omega
  have qb : 0 < b.toNat := by omega
  have qab : a.toNat ≤ b.toNat := by omega
  rw [ea, eb, hd a ga, hd b gb, he a ga, he b gb]
  generalize sumpV x l = sv at *
  obtain ⟨r1, r2, r3⟩ := sv
  simp only at *
  refine ⟨?_, ?_, ?_, ?_, ?_, ?_, rfl, rfl, ?_, ?_, ?_, ?_⟩
  · exact Int.ofNat_le.2 (quoN_anti qa qab false)
  · exact Int.ofNat_le.2 (quoN_anti qa qab true)
  · exact Int.ofNat_le.2 (quoN_le _ _ qa)
  · have := quoN_one (V := r1.toNat) qa; simp only; omega
  · simp only; omega
  · have := quoN_sm (V := r1.toNat) qa (by omega) true; simp only; omega
  · simp only [decide_eq_true_eq]; omega
  · by_cases q : r2 ≤ a
    · rw [if_pos q, decide_eq_false (by omega)]; rfl
    · rw [if_neg q, decide_eq_true (by omega)]; rfl
  · by_cases q : r2 ≤ b
    · rw [if_pos q, decide_eq_false (by omega)]; rfl
    · rw [if_neg q, decide_eq_true (by omega)]; rfl
  · intro hb
    simp only [decide_eq_true_eq] at hb
    rw [if_neg (by omega), if_neg (by omega)]
    simp only
    refine ⟨Int.ofNat_le.2 (quoN_anti (by omega) (by omega) false), Int.ofNat_le.2 (quoN_anti (by omega) (by omega) true), Int.ofNat_le.2 (quoN_wide (by omega) (by omega)), Int.ofNat_le.2 (quoN_wide (by omega) (by omega))⟩

set_option maxRecDepth 100000 in
theorem openNd {H : Type} {en : TypeId × Value → H} {W : World} {v : Value} {d : DataW H} {ps : List MemPlace} {r : Reach} {b0 : Nat} (hv : Value.okWide Try.prog W r b0 56 v) (h : DataW.Trod en Try.prog W 0 (fun _ => true) true 56 v d ps) :
    ∃ n : Nd, v = vNd n ∧ gNd W n := arg_struct (fs := flds Try.prog 56) rdNd (by kernel_rfl) hv h

end Go.Proofs.Ytmpegbebjefkaaa
