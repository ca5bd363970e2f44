/- The reference's energy; the example of the chapter; whether the chapter's examples hold. Conditions: none. -/
import Derived.Test.YtmpegbebjefkaaaPpl
import Derived.Test.YtmpegbebjefkaaaWrf
namespace Go.Proofs.Ytmpegbebjefkaaa
open Go.RowKit
set_option linter.unusedVariables false
set_option linter.unusedSimpArgs false

theorem r33depth_any (n : Int) (w : World) : Calls Try.prog 37 #[.int .i64 n] w fun e w' => e = .returned (.bool (btwB n 0 4194304)) ∧ w' = w := by
  by_cases h1 : 0 ≤ n <;> by_cases h2 : n ≤ 4194304
  all_goals
    go_enter Try.func37, Try.ntmps37
    go_wp2_with fail
    go_ret
    exact ⟨ret_bool (by simp [btwB, h1, h2]), rfl⟩

set_option maxRecDepth 100000 in
set_option maxHeartbeats 4000000 in
theorem r33energy_out (f l s : Int) (w : World) (h : enB f l s = false) :
    Calls Try.prog 19 #[.int .i64 f, .int .i64 l, .int .i64 s] w fun e w' => e = .returned (.tuple #[.agg #[.int .i64 0, .int .i64 0], .int .i64 2]) ∧ Below w.heap.size w w' := by
  have hw2 := fun W => r33depth_any l W
  have hX := Bi2.new w 0 0 38
  have hb0 : Below w.heap.size w (w.alloc (.cells #[.int .i64 0, .int .i64 0] 38)) := (Below.refl _ _).alloc (Nat.le_refl _) _
  have hlt := hX.lt
  obtain ⟨x0, x1, fx0, fx1⟩ := hX
  cases h1 : decide (f < 0)
  rotate_left
  · clear hw2
    go_enter Try.func19, Try.ntmps19
    go_wp2_with fail
    exact bodyPost_ret (v := .tuple #[.agg #[.int .i64 0, .int .i64 0], .int .i64 2]) (by simp (maxDischargeDepth := 9) [results, Try.results19, go_sem]) rfl ⟨rfl, by repeat' (first | exact Below.refl _ _ | assumption | refine Below.more ?_ ?_ _ | refine Below.alloc ?_ ?_ _ | refine Below.drew ?_ | refine below_drewN ?_ _ | refine Below.setCell ?_ ?_ _ | exact Below.size (by assumption) | (simp [go_sem, size_more]; done) | (simp [go_sem, size_more]; omega))⟩
  cases h2 : decide (1073741824 < f)
  rotate_left
  · clear hw2
    go_enter Try.func19, Try.ntmps19
    go_wp2_with fail
    exact bodyPost_ret (v := .tuple #[.agg #[.int .i64 0, .int .i64 0], .int .i64 2]) (by simp (maxDischargeDepth := 9) [results, Try.results19, go_sem]) rfl ⟨rfl, by repeat' (first | exact Below.refl _ _ | assumption | refine Below.more ?_ ?_ _ | refine Below.alloc ?_ ?_ _ | refine Below.drew ?_ | refine below_drewN ?_ _ | refine Below.setCell ?_ ?_ _ | exact Below.size (by assumption) | (simp [go_sem, size_more]; done) | (simp [go_sem, size_more]; omega))⟩
  cases h3 : btwB l 0 4194304
  · rw [h3] at hw2
    go_enter Try.func19, Try.ntmps19
    go_wp2_with fail
    refine (hw2 _).mono ?_
    rintro _ _ ⟨rfl, rfl⟩
    go_wp2_with fail
    exact bodyPost_ret (v := .tuple #[.agg #[.int .i64 0, .int .i64 0], .int .i64 2]) (by simp (maxDischargeDepth := 9) [results, Try.results19, go_sem]) rfl ⟨rfl, by repeat' (first | exact Below.refl _ _ | assumption | refine Below.more ?_ ?_ _ | refine Below.alloc ?_ ?_ _ | refine Below.drew ?_ | refine below_drewN ?_ _ | refine Below.setCell ?_ ?_ _ | exact Below.size (by assumption) | (simp [go_sem, size_more]; done) | (simp [go_sem, size_more]; omega))⟩
  rw [h3] at hw2
  cases h4 : decide (s < 0)
  rotate_left
  · go_enter Try.func19, Try.ntmps19
    go_wp2_with fail
    refine (hw2 _).mono ?_
    rintro _ _ ⟨rfl, rfl⟩
    go_wp2_with fail
    exact bodyPost_ret (v := .tuple #[.agg #[.int .i64 0, .int .i64 0], .int .i64 2]) (by simp (maxDischargeDepth := 9) [results, Try.results19, go_sem]) rfl ⟨rfl, by repeat' (first | exact Below.refl _ _ | assumption | refine Below.more ?_ ?_ _ | refine Below.alloc ?_ ?_ _ | refine Below.drew ?_ | refine below_drewN ?_ _ | refine Below.setCell ?_ ?_ _ | exact Below.size (by assumption) | (simp [go_sem, size_more]; done) | (simp [go_sem, size_more]; omega))⟩
  cases h5 : decide (86400 < s)
  rotate_left
  · go_enter Try.func19, Try.ntmps19
    go_wp2_with fail
    refine (hw2 _).mono ?_
    rintro _ _ ⟨rfl, rfl⟩
    go_wp2_with fail
    exact bodyPost_ret (v := .tuple #[.agg #[.int .i64 0, .int .i64 0], .int .i64 2]) (by simp (maxDischargeDepth := 9) [results, Try.results19, go_sem]) rfl ⟨rfl, by repeat' (first | exact Below.refl _ _ | assumption | refine Below.more ?_ ?_ _ | refine Below.alloc ?_ ?_ _ | refine Below.drew ?_ | refine below_drewN ?_ _ | refine Below.setCell ?_ ?_ _ | exact Below.size (by assumption) | (simp [go_sem, size_more]; done) | (simp [go_sem, size_more]; omega))⟩
  exfalso
  simp only [decide_eq_false_iff_not] at h1 h2 h4 h5
  rw [enB, h3] at h
  simp [btwB] at h
  omega

set_option maxRecDepth 100000 in
set_option maxHeartbeats 4000000 in
theorem r33energy_in (f l s : Nat) (w : World) (hf : f ≤ 1073741824) (hl : l ≤ 4194304) (hs : s ≤ 86400) :
    Calls Try.prog 19 #[.int .i64 (f : Int), .int .i64 (l : Int), .int .i64 (s : Int)] w fun e w' => e = .returned (enV (981 * f * (l * s))) ∧ Below w.heap.size w w' := by
  have hAB0 : f * s * (981 * l) = 981 * f * (l * s) := by
    rw [Nat.mul_comm f s, Nat.mul_assoc, Nat.mul_left_comm f 981 l, ← Nat.mul_assoc 981 f l, Nat.mul_comm s, Nat.mul_assoc]
  obtain ⟨A, hA⟩ : ∃ A, f * s = A := ⟨_, rfl⟩
  have hA2 : A ≤ 92771293593600 := by rw [← hA]; exact Nat.le_trans (Nat.mul_le_mul hf hs) (by decide)
  obtain ⟨B, hB⟩ : ∃ B, 981 * l = B := ⟨_, rfl⟩
  have hB2 : B ≤ 4114612224 := by omega
  have hAB : A * B ≤ 400000000000000000000000 := Nat.le_trans (Nat.mul_le_mul hA2 hB2) (by decide)
  rw [hA, hB] at hAB0
  have hq : (A * B + 100000 - 1) / 100000 < 9223372036854775808 := by
    generalize A * B = V at *
    omega
  have hq0 : A * B / 100000 < 9223372036854775808 := by
    generalize A * B = V at *
    omega
  have hfl := fun W => r3floor_any A B 100000 W (by omega) (by omega) (by decide) (by decide) hq0
  have hce := fun W => r3ceil_any A B 100000 W (by omega) (by omega) (by decide) (by decide) hq
  have hw2 := fun W => r33depth_any (l : Int) W
  have e2 : btwB (l : Int) 0 4194304 = true := by simp [btwB]; omega
  rw [e2] at hw2
  have u1 : decide ((f : Int) < 0) = false := decide_eq_false (by omega)
  have u2 : decide ((1073741824 : Int) < (f : Int)) = false := decide_eq_false (by omega)
  have u2' : decide (1073741824 < f) = false := decide_eq_false (by omega)
  have u4 : decide ((s : Int) < 0) = false := decide_eq_false (by omega)
  have u5 : decide ((86400 : Int) < (s : Int)) = false := decide_eq_false (by omega)
  have u5' : decide (86400 < s) = false := decide_eq_false (by omega)
  have m1 : IntKind.i64.wrap ((f : Int) * (s : Int)) = (A : Int) := by rw [← Int.natCast_mul, hA, IntKind.wrap_i64]; omega
  have m2 : IntKind.i64.wrap (981 * (l : Int)) = (B : Int) := by rw [IntKind.wrap_i64]; omega
  rw [← hAB0, enV]
  rw [show A * B / 100000 = quoN (A * B) 100000 false from by simp [quoN]] at hfl
  rw [show (A * B + 100000 - 1) / 100000 = quoN (A * B) 100000 true from by simp [quoN]] at hce
  generalize quoN (A * B) 100000 false = q0 at *
  generalize quoN (A * B) 100000 true = q1 at *
  obtain ⟨res, hres⟩ : ∃ r, r = (if 72057594037927936 < q1 then Value.tuple #[.agg #[.int .i64 0, .int .i64 0], .int .i64 5] else Value.tuple #[.agg #[.int .i64 (q0 : Int), .int .i64 (q1 : Int)], .int .i64 0]) := ⟨_, rfl⟩
  rw [← hres]
  have hres := Lib.hid hres
  clear e2 hAB hA2 hB2 hf hl hs hAB0 hq hq0
  have hX := Bi2.new w 0 0 38
  have hb0 : Below w.heap.size w (w.alloc (.cells #[.int .i64 0, .int .i64 0] 38)) := (Below.refl _ _).alloc (Nat.le_refl _) _
  go_enter Try.func19, Try.ntmps19
  go_wp2_with fail
  refine (hw2 _).mono ?_
  rintro _ _ ⟨rfl, rfl⟩
  clear hw2
  go_wp2_with fail
  refine Calls.go hb0 (hfl _) ?_
  rintro e w1 rfl hb1' hb1
  have hX := hX.mono hb1'
  go_wp2_with fail
  refine Calls.go hb1 (hce _) ?_
  rintro e w2 rfl hb2' hb2
  have hX := hX.mono hb2'
  have hlt := hX.lt
  obtain ⟨x0, x1, fx0, fx1⟩ := hX
  clear hb1' hb2' hb0 hfl hce m1 m2 hb1
  by_cases hx : 72057594037927936 < q1
  · have u := decide_eq_true hx
    have u' := decide_eq_true (show (72057594037927936 : Int) < (q1 : Int) by omega)
    go_wp2_with fail
    exact bodyPost_ret (v := .tuple #[.agg #[.int .i64 0, .int .i64 0], .int .i64 5]) (by simp (maxDischargeDepth := 9) [results, Try.results19, go_sem, x0, x1]) rfl ⟨by rw [show res = _ from hres, if_pos hx], by repeat' (first | exact Below.refl _ _ | assumption | refine Below.more ?_ ?_ _ | refine Below.alloc ?_ ?_ _ | refine Below.drew ?_ | refine below_drewN ?_ _ | refine Below.setCell ?_ ?_ _ | exact Below.size (by assumption) | (simp [go_sem, size_more]; done) | (simp [go_sem, size_more]; omega))⟩
  · have u := decide_eq_false hx
    have u' := decide_eq_false (show ¬ (72057594037927936 : Int) < (q1 : Int) by omega)
    go_wp2_with fail
    exact bodyPost_ret (v := .tuple #[.agg #[.int .i64 (q0 : Int), .int .i64 (q1 : Int)], .int .i64 0]) (by simp (maxDischargeDepth := 9) [results, Try.results19, go_sem, x0, x1]) rfl ⟨by rw [show res = _ from hres, if_neg hx], by repeat' (first | exact Below.refl _ _ | assumption | refine Below.more ?_ ?_ _ | refine Below.alloc ?_ ?_ _ | refine Below.drew ?_ | refine below_drewN ?_ _ | refine Below.setCell ?_ ?_ _ | exact Below.size (by assumption) | (simp [go_sem, size_more]; done) | (simp [go_sem, size_more]; omega))⟩

theorem r33energy_any (f l s : Int) (w : World) : Calls Try.prog 19 #[.int .i64 f, .int .i64 l, .int .i64 s] w fun e w' => e = .returned (vEn (enM f l s)) ∧ Below w.heap.size w w' := by
  cases h : enB f l s
  · rw [enM_bad h]; exact r33energy_out f l s w h
  · have b := enB_bd h
    have he := r33energy_in f.toNat l.toNat s.toNat w (by omega) (by omega) (by omega)
    rw [Int.toNat_of_nonneg b.1, Int.toNat_of_nonneg b.2.2.1, Int.toNat_of_nonneg b.2.2.2.2.1] at he
    rw [enV_enM h] at he
    exact he

end Go.Proofs.Ytmpegbebjefkaaa
