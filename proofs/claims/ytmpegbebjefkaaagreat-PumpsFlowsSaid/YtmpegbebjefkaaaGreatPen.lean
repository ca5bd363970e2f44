/- pumps.Energy. Conditions: none (within its ranges, and outside of them). -/
import Derived.Test.YtmpegbebjefkaaaGreatPsp
import Derived.Test.YtmpegbebjefkaaaGreatPva
namespace Go.Proofs.YtmpegbebjefkaaaGreat
open Go.RowKit
set_option linter.unusedVariables false
set_option linter.unusedSimpArgs false

/-- What Energy answers within its ranges. -/
def enV (V : Nat) : Value := if 72057594037927936 < quoN V 100000 true then .tuple #[.agg #[.int .i64 0, .int .i64 0], .int .i64 5] else .tuple #[.agg #[.int .i64 ((quoN V 100000 false : Nat) : Int), .int .i64 ((quoN V 100000 true : Nat) : Int)], .int .i64 0]

set_option maxRecDepth 100000 in
set_option maxHeartbeats 4000000 in
theorem penergy_any (f l s : Nat) (w : World) (hf : f ≤ 1073741824) (hl : l ≤ 4194304) (hs : s ≤ 86400) :
    Calls Tryz.prog 17 #[.int .i64 (f : Int), .int .i64 (l : Int), .int .i64 (s : Int)] w fun e w' => e = .returned (enV (981 * f * (l * s))) ∧ Below w.heap.size w w' := by
  obtain ⟨B, hB⟩ : ∃ B, l * s = B := ⟨_, rfl⟩
  have hB2 : B ≤ 362387865600 := by rw [← hB]; exact Nat.le_trans (Nat.mul_le_mul hl hs) (by decide)
  obtain ⟨A, hA⟩ : ∃ A, 981 * f = A := ⟨_, rfl⟩
  have hA2 : A ≤ 1053340729344 := by omega
  have hAB : A * B ≤ 400000000000000000000000 := Nat.le_trans (Nat.mul_le_mul hA2 hB2) (by decide)
  have hq : quoN (A * B) 100000 true < 9223372036854775808 := by
    simp only [quoN, if_true]
    generalize A * B = V at *
    omega
  have hsp := fun W => span_any A B 100000 W (by omega) (by omega) (by omega) (by decide) (by decide) hq
  have hw1 := fun W => pwithin_any (f : Int) 0 1073741824 W
  have hw2 := fun W => pwithin_any (l : Int) 0 4194304 W
  have hw3 := fun W => pwithin_any (s : Int) 0 86400 W
  have e1 : btwB (f : Int) 0 1073741824 = true := by simp [btwB]; omega
  have e2 : btwB (l : Int) 0 4194304 = true := by simp [btwB]; omega
  have e3 : btwB (s : Int) 0 86400 = true := by simp [btwB]; omega
  rw [e1] at hw1; rw [e2] at hw2; rw [e3] at hw3
  have m1 : IntKind.i64.wrap (981 * (f : Int)) = (A : Int) := by rw [IntKind.wrap_i64]; omega
  have m2 : IntKind.i64.wrap ((l : Int) * (s : Int)) = (B : Int) := by rw [← Int.natCast_mul, hB, IntKind.wrap_i64]; omega
  rw [hB, hA, enV]
  generalize quoN (A * B) 100000 false = q0 at *
  generalize quoN (A * B) 100000 true = q1 at *
  obtain ⟨res, hres⟩ : ∃ r, r = (if 72057594037927936 < q1 then Value.tuple #[.agg #[.int .i64 0, .int .i64 0], .int .i64 5] else Value.tuple #[.agg #[.int .i64 (q0 : Int), .int .i64 (q1 : Int)], .int .i64 0]) := ⟨_, rfl⟩
  rw [← hres]
  have hres := Lib.hid hres
  clear e1 e2 e3 hAB hA2 hB2 hf hl hs
  have hX := Bi2.new w 0 0 42
  have hb0 : Below w.heap.size w (w.alloc (.cells #[.int .i64 0, .int .i64 0] 42)) := (Below.refl _ _).alloc (Nat.le_refl _) _
  go_enter Tryz.func17, Tryz.ntmps17
  go_wp2_with fail
  refine (hw1 _).mono ?_
  rintro _ _ ⟨rfl, rfl⟩
  go_wp2_with fail
  refine (hw2 _).mono ?_
  rintro _ _ ⟨rfl, rfl⟩
  go_wp2_with fail
  refine (hw3 _).mono ?_
  rintro _ _ ⟨rfl, rfl⟩
  clear hw1 hw2 hw3
  go_wp2_with fail
  refine Calls.go hb0 (hsp _) ?_
  rintro e w1 rfl hb1' hb1
  have hX := hX.mono hb1'
  have hlt := hX.lt
  obtain ⟨x0, x1, fx0, fx1⟩ := hX
  clear hb1' hb0 hsp m1 m2
  by_cases hx : 72057594037927936 < q1
  · have u := decide_eq_true hx
    have u' := decide_eq_true (show (72057594037927936 : Int) < (q1 : Int) by omega)
    go_wp2_with fail
    exact bodyPost_ret (v := .tuple #[.agg #[.int .i64 0, .int .i64 0], .int .i64 5]) (by simp (maxDischargeDepth := 9) [results, Tryz.results17, go_sem, x0, x1]) rfl ⟨by rw [show res = _ from hres, if_pos hx], by repeat' (first | exact Below.refl _ _ | assumption | refine Below.more ?_ ?_ _ | refine Below.alloc ?_ ?_ _ | refine Below.drew ?_ | refine below_drewN ?_ _ | refine Below.setCell ?_ ?_ _ | exact Below.size (by assumption) | (simp [go_sem, size_more]; done) | (simp [go_sem, size_more]; omega))⟩
  · have u := decide_eq_false hx
    have u' := decide_eq_false (show ¬ (72057594037927936 : Int) < (q1 : Int) by omega)
    go_wp2_with fail
    exact bodyPost_ret (v := .tuple #[.agg #[.int .i64 (q0 : Int), .int .i64 (q1 : Int)], .int .i64 0]) (by simp (maxDischargeDepth := 9) [results, Tryz.results17, go_sem, x0, x1]) rfl ⟨by rw [show res = _ from hres, if_neg hx], by repeat' (first | exact Below.refl _ _ | assumption | refine Below.more ?_ ?_ _ | refine Below.alloc ?_ ?_ _ | refine Below.drew ?_ | refine below_drewN ?_ _ | refine Below.setCell ?_ ?_ _ | exact Below.size (by assumption) | (simp [go_sem, size_more]; done) | (simp [go_sem, size_more]; omega))⟩

/-- Whether Energy's numbers lie in its ranges. -/
def enB (f l s : Int) : Bool := btwB f 0 1073741824 && btwB l 0 4194304 && btwB s 0 86400

set_option maxRecDepth 100000 in
set_option maxHeartbeats 4000000 in
theorem penergy_out (f l s : Int) (w : World) (h : enB f l s = false) :
    Calls Tryz.prog 17 #[.int .i64 f, .int .i64 l, .int .i64 s] w fun e w' => e = .returned (.tuple #[.agg #[.int .i64 0, .int .i64 0], .int .i64 2]) ∧ Below w.heap.size w w' := by
  have hw1 := fun W => pwithin_any f 0 1073741824 W
  have hw2 := fun W => pwithin_any l 0 4194304 W
  have hw3 := fun W => pwithin_any s 0 86400 W
  unfold enB at h
  generalize btwB f 0 1073741824 = c1 at *
  generalize btwB l 0 4194304 = c2 at *
  generalize btwB s 0 86400 = c3 at *
  have hX := Bi2.new w 0 0 42
  have hb0 : Below w.heap.size w (w.alloc (.cells #[.int .i64 0, .int .i64 0] 42)) := (Below.refl _ _).alloc (Nat.le_refl _) _
  have hlt := hX.lt
  obtain ⟨x0, x1, fx0, fx1⟩ := hX
  go_enter Tryz.func17, Tryz.ntmps17
  go_wp2_with fail
  refine (hw1 _).mono ?_
  rintro _ _ ⟨rfl, rfl⟩
  cases c1
  · go_wp2_with fail
    exact bodyPost_ret (v := .tuple #[.agg #[.int .i64 0, .int .i64 0], .int .i64 2]) (by simp (maxDischargeDepth := 9) [results, Tryz.results17, go_sem]) rfl ⟨rfl, by repeat' (first | exact Below.refl _ _ | assumption | refine Below.more ?_ ?_ _ | refine Below.alloc ?_ ?_ _ | refine Below.drew ?_ | refine below_drewN ?_ _ | refine Below.setCell ?_ ?_ _ | exact Below.size (by assumption) | (simp [go_sem, size_more]; done) | (simp [go_sem, size_more]; omega))⟩
  · go_wp2_with fail
    refine (hw2 _).mono ?_
    rintro _ _ ⟨rfl, rfl⟩
    cases c2
    · go_wp2_with fail
      exact bodyPost_ret (v := .tuple #[.agg #[.int .i64 0, .int .i64 0], .int .i64 2]) (by simp (maxDischargeDepth := 9) [results, Tryz.results17, go_sem]) rfl ⟨rfl, by repeat' (first | exact Below.refl _ _ | assumption | refine Below.more ?_ ?_ _ | refine Below.alloc ?_ ?_ _ | refine Below.drew ?_ | refine below_drewN ?_ _ | refine Below.setCell ?_ ?_ _ | exact Below.size (by assumption) | (simp [go_sem, size_more]; done) | (simp [go_sem, size_more]; omega))⟩
    · go_wp2_with fail
      refine (hw3 _).mono ?_
      rintro _ _ ⟨rfl, rfl⟩
      cases c3
      · go_wp2_with fail
        exact bodyPost_ret (v := .tuple #[.agg #[.int .i64 0, .int .i64 0], .int .i64 2]) (by simp (maxDischargeDepth := 9) [results, Tryz.results17, go_sem]) rfl ⟨rfl, by repeat' (first | exact Below.refl _ _ | assumption | refine Below.more ?_ ?_ _ | refine Below.alloc ?_ ?_ _ | refine Below.drew ?_ | refine below_drewN ?_ _ | refine Below.setCell ?_ ?_ _ | exact Below.size (by assumption) | (simp [go_sem, size_more]; done) | (simp [go_sem, size_more]; omega))⟩
      · cases h

end Go.Proofs.YtmpegbebjefkaaaGreat
