/- Pumps, plainly: flows grow with the setting and the depth; energies add up. No function of the program is named. Conditions: the curve is right. -/
import Derived.Test.YtmpegbebjefkaaaGreatTfl
import Derived.Test.YtmpegbebjefkaaaGreatPen
namespace Go.Proofs.YtmpegbebjefkaaaGreat
open Go.RowKit
set_option linter.unusedVariables false
set_option linter.unusedSimpArgs false

theorem flV_mono {xs : List Kn} (h : curveB xs = true) {s t a b : Int} (hs : 0 ≤ s) (hst : s ≤ t) (hab : a ≤ b) : flV xs s a ≤ flV xs t a ∧ flV xs s a ≤ flV xs s b := by
  have c0 := (curveB_bd h a).1
  have c1 := tabV_mono (curveB_tab h) hab
  have m1 : tabV xs a * s ≤ tabV xs a * t := Int.mul_le_mul_of_nonneg_left hst c0
  have m2 : tabV xs a * s ≤ tabV xs b * s := Int.mul_le_mul_of_nonneg_right c1 hs
  unfold flV
  exact ⟨Int.ediv_le_ediv (by decide) m1, Int.ediv_le_ediv (by decide) m2⟩
theorem flV_zero (xs : List Kn) (b : Int) : flV xs 0 b = 0 := by simp [flV]
theorem flV_half {xs : List Kn} (h : curveB xs = true) {s a : Int} (hs : 0 ≤ s) : 2 * flV xs (s / 2) a ≤ flV xs s a := by
  have c0 := (curveB_bd h a).1
  have m1 : tabV xs a * (2 * (s / 2)) ≤ tabV xs a * s := Int.mul_le_mul_of_nonneg_left (by omega) c0
  have m2 : tabV xs a * (2 * (s / 2)) = 2 * (tabV xs a * (s / 2)) := by rw [Int.mul_left_comm]
  unfold flV
  generalize tabV xs a * (s / 2) = p at *
  generalize tabV xs a * s = q at *
  omega

/-- Energy, as the program computes it: the span and the error. -/
def enM (f l s : Int) : Int × Int × Int :=
  if enB f l s = false then (0, 0, 2)
  else if 72057594037927936 < quoN (981 * f.toNat * (l.toNat * s.toNat)) 100000 true then (0, 0, 5)
  else (((quoN (981 * f.toNat * (l.toNat * s.toNat)) 100000 false : Nat) : Int), ((quoN (981 * f.toNat * (l.toNat * s.toNat)) 100000 true : Nat) : Int), 0)
def vEn (p : Int × Int × Int) : Value := .tuple #[.agg #[.int .i64 p.1, .int .i64 p.2.1], .int .i64 p.2.2]
theorem enM_bad {f l s : Int} (h : enB f l s = false) : enM f l s = (0, 0, 2) := by simp only [enM, h, if_true]
theorem enM_ok {f l s : Int} (h : (enM f l s).2.2 = 0) : enB f l s = true ∧ enM f l s = (((quoN (981 * f.toNat * (l.toNat * s.toNat)) 100000 false : Nat) : Int), ((quoN (981 * f.toNat * (l.toNat * s.toNat)) 100000 true : Nat) : Int), 0) := by
  unfold enM at h ⊢
  split at h
  · simp at h
  · rename_i h1
    split at h
    · simp at h
    · rename_i h2
      rw [if_neg h1, if_neg h2]
      refine ⟨?_, rfl⟩
      cases hq : enB f l s
      · exact absurd hq h1
      · rfl
theorem enM_err {f l s : Int} (h : (enM f l s).2.2 ≠ 0) : (enM f l s).1 = 0 ∧ (enM f l s).2.1 = 0 := by
  unfold enM at h ⊢
  split at h
  · rename_i h1; rw [if_pos h1]; exact ⟨rfl, rfl⟩
  · rename_i h1
    split at h
    · rename_i h2; rw [if_neg h1, if_pos h2]; exact ⟨rfl, rfl⟩
    · exact absurd rfl h
theorem enB_bd {f l s : Int} (h : enB f l s = true) : 0 ≤ f ∧ f ≤ 1073741824 ∧ 0 ≤ l ∧ l ≤ 4194304 ∧ 0 ≤ s ∧ s ≤ 86400 := by
  simp only [enB, btwB, Bool.and_eq_true, decide_eq_true_eq] at h; omega
theorem enM_bd (f l s : Int) : 0 ≤ (enM f l s).1 ∧ (enM f l s).1 ≤ (enM f l s).2.1 ∧ (enM f l s).2.1 ≤ (enM f l s).1 + 1 ∧ (enM f l s).2.1 ≤ 72057594037927936 := by
  by_cases h : (enM f l s).2.2 = 0
  · obtain ⟨_, e⟩ := enM_ok h
    have hs : ¬ 72057594037927936 < quoN (981 * f.toNat * (l.toNat * s.toNat)) 100000 true := by
      intro q
      unfold enM at h
      split at h
      · simp at h
      · simp [q] at h
    rw [e]
    simp only [quoN, if_true, Bool.false_eq_true, if_false] at *
    generalize 981 * f.toNat * (l.toNat * s.toNat) = V at *
    omega
  · obtain ⟨e1, e2⟩ := enM_err h
    rw [e1, e2]; decide
theorem enM_zero {f s : Int} (h1 : 0 ≤ f) (h2 : f ≤ 1073741824) (h3 : 0 ≤ s) (h4 : s ≤ 86400) : enM f 0 s = (0, 0, 0) := by
  have hb : enB f 0 s = true := by simp [enB, btwB]; omega
  unfold enM
  rw [hb]
  simp [quoN]
theorem quoN_add (x y : Nat) : quoN x 100000 false + quoN y 100000 false ≤ quoN (x + y) 100000 false ∧ quoN (x + y) 100000 true ≤ quoN x 100000 true + quoN y 100000 true := by
  simp only [quoN, if_true, Bool.false_eq_true, if_false]; omega
/-- The energies of two flows add up, as spans. -/
theorem enM_add {p q l s : Int} (hx : (enM p l s).2.2 = 0) (hy : (enM q l s).2.2 = 0) (hz : (enM (p + q) l s).2.2 = 0) :
    (enM p l s).1 + (enM q l s).1 ≤ (enM (p + q) l s).1 ∧ (enM (p + q) l s).2.1 ≤ (enM p l s).2.1 + (enM q l s).2.1 := by
  obtain ⟨b1, e1⟩ := enM_ok hx
  obtain ⟨b2, e2⟩ := enM_ok hy
  obtain ⟨b3, e3⟩ := enM_ok hz
  have c1 := enB_bd b1
  have c2 := enB_bd b2
  rw [e1, e2, e3]
  have hv : 981 * (p + q).toNat * (l.toNat * s.toNat) = 981 * p.toNat * (l.toNat * s.toNat) + 981 * q.toNat * (l.toNat * s.toNat) := by
    rw [← Nat.add_mul, ← Nat.mul_add, show (p + q).toNat = p.toNat + q.toNat by omega]
  rw [hv]
  generalize 981 * p.toNat * (l.toNat * s.toNat) = X
  generalize 981 * q.toNat * (l.toNat * s.toNat) = Y
  have := quoN_add X Y
  simp only
  omega
/-- So do those of two times. -/
theorem enM_add2 {p l s t : Int} (hx : (enM p l s).2.2 = 0) (hy : (enM p l t).2.2 = 0) (hz : (enM p l (s + t)).2.2 = 0) :
    (enM p l s).1 + (enM p l t).1 ≤ (enM p l (s + t)).1 ∧ (enM p l (s + t)).2.1 ≤ (enM p l s).2.1 + (enM p l t).2.1 := by
  obtain ⟨b1, e1⟩ := enM_ok hx
  obtain ⟨b2, e2⟩ := enM_ok hy
  obtain ⟨b3, e3⟩ := enM_ok hz
  have c1 := enB_bd b1
  have c2 := enB_bd b2
  rw [e1, e2, e3]
  have hv : 981 * p.toNat * (l.toNat * (s + t).toNat) = 981 * p.toNat * (l.toNat * s.toNat) + 981 * p.toNat * (l.toNat * t.toNat) := by
    rw [← Nat.mul_add, ← Nat.mul_add, show (s + t).toNat = s.toNat + t.toNat by omega]
  rw [hv]
  generalize 981 * p.toNat * (l.toNat * s.toNat) = X
  generalize 981 * p.toNat * (l.toNat * t.toNat) = Y
  have := quoN_add X Y
  simp only
  omega

theorem enV_enM {f l s : Int} (h : enB f l s = true) : enV (981 * f.toNat * (l.toNat * s.toNat)) = vEn (enM f l s) := by
  unfold enV enM
  rw [h]
  by_cases q : 72057594037927936 < quoN (981 * f.toNat * (l.toNat * s.toNat)) 100000 true
  · rw [if_pos q, if_neg (by simp), if_pos q]; rfl
  · rw [if_neg q, if_neg (by simp), if_neg q]; rfl

theorem penM_any (f l s : Int) (w : World) : Calls Tryz.prog 17 #[.int .i64 f, .int .i64 l, .int .i64 s] w fun e w' => e = .returned (vEn (enM f l s)) ∧ Below w.heap.size w w' := by
  cases h : enB f l s
  · rw [enM_bad h]; exact penergy_out f l s w h
  · have b := enB_bd h
    have he := penergy_any f.toNat l.toNat s.toNat w (by omega) (by omega) (by omega)
    rw [Int.toNat_of_nonneg b.1, Int.toNat_of_nonneg b.2.2.1, Int.toNat_of_nonneg b.2.2.2.2.1] at he
    rw [enV_enM h] at he
    exact he

end Go.Proofs.YtmpegbebjefkaaaGreat
