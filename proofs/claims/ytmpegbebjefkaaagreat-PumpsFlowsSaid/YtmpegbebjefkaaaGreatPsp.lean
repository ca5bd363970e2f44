/- pumps.span and Energy: a product over a number, rounded down and up. -/
import Derived.Test.YtmpegbebjefkaaaGreatWwe
namespace Go.Proofs.YtmpegbebjefkaaaGreat
open Go.RowKit
set_option linter.unusedVariables false
set_option linter.unusedSimpArgs false

theorem quoN_le (V b : Nat) (hb : 0 < b) : quoN V b false ≤ quoN V b true := by
  rw [quoN_up hb]; simp only [quoN, Bool.false_eq_true, if_false]; exact Nat.le_add_right _ _

theorem split60 (V : Nat) : ∃ h l, h * 1152921504606846976 + l = V ∧ l < 1152921504606846976 :=
  ⟨V / 1152921504606846976, V % 1152921504606846976, by rw [Nat.mul_comm]; exact Nat.div_add_mod V _, Nat.mod_lt _ (by decide)⟩

set_option maxRecDepth 100000 in
set_option maxHeartbeats 4000000 in
theorem span_any (a b c : Nat) (w : World) (ha : a < 9223372036854775808) (hb : b < 9223372036854775808) (hab : a * b < 664613997892457936451903530140172288) (hc : 0 < c) (hc2 : c < 9223372036854775808) (hq : quoN (a * b) c true < 9223372036854775808) :
    Calls Tryz.prog 26 #[.int .i64 (a : Int), .int .i64 (b : Int), .int .i64 (c : Int)] w fun e w' => e = .returned (.tuple #[.agg #[.int .i64 ((quoN (a * b) c false : Nat) : Int), .int .i64 ((quoN (a * b) c true : Nat) : Int)], .int .i64 0]) ∧ Below w.heap.size w w' := by
  have hq1 := Nat.lt_of_le_of_lt (quoN_le (a * b) c hc) hq
  obtain ⟨h, l, hv, hl⟩ := split60 (a * b)
  have hh : h < 576460752303423488 := by
    rcases Nat.lt_or_ge h 576460752303423488 with g | g
    · exact g
    · exfalso
      have := Nat.mul_le_mul_right 1152921504606846976 g
      generalize a * b = V at *
      omega
  have hp := fun W => wprod_any a b h l W ha hb hab hv hl
  have hf := fun W => wfloor_any h l c W hh hl hc hc2 (by rw [hv]; exact hq1)
  have hg := fun W => wceil_any h l c W hh hl hc hc2 (by rw [hv]; exact hq)
  rw [hv] at hf hg
  generalize quoN (a * b) c false = q0 at *
  generalize quoN (a * b) c true = q1 at *
  clear hv hab hh hl ha hb
  have hX := Bi2.new w 0 0 42
  have hb0 : Below w.heap.size w (w.alloc (.cells #[.int .i64 0, .int .i64 0] 42)) := (Below.refl _ _).alloc (Nat.le_refl _) _
  go_enter Tryz.func26, Tryz.ntmps26
  go_wp2_with fail
  refine Calls.go hb0 (hp _) ?_
  rintro e w1 rfl hb1' hb1
  have hX := hX.mono hb1'
  go_wp2_with fail
  refine Calls.go (w0 := w) ?_ (hf _) ?_
  · have := hb1.size
    repeat' (first | exact Below.refl _ _ | assumption | refine Below.more ?_ ?_ _ | refine Below.alloc ?_ ?_ _ | refine Below.drew ?_ | refine below_drewN ?_ _ | refine Below.setCell ?_ ?_ _ | exact Below.size (by assumption) | (simp [go_sem, size_more]; done) | (simp [go_sem, size_more]; omega))
  have hY := Bi2.new w1 h l 67
  have hX := hX.mono (w' := w1.alloc (.cells #[.int .i64 (h : Int), .int .i64 (l : Int)] 67)) ((Below.refl _ _).alloc (Nat.le_refl _) _)
  rintro e w2 rfl hb2' hb2
  have hX := hX.mono hb2'
  have hY := hY.mono hb2'
  clear hb2'
  obtain ⟨y0, y1, fy0, fy1⟩ := hY
  have hY : Bi2 w2 w1.heap.size h l := ⟨y0, y1, fy0, fy1⟩
  clear hb1'
  go_wp2_with fail
  refine Calls.go hb2 (hg _) ?_
  rintro e w3 rfl hb3' hb3
  have hX := hX.mono hb3'
  have hlt := hX.lt
  obtain ⟨x0, x1, fx0, fx1⟩ := hX
  have hbz : Below w.heap.size w ((w3.setCell ⟨w.heap.size, 0, none⟩ (.int .i64 (q0 : Int))).setCell ⟨w.heap.size, 1, none⟩ (.int .i64 (q1 : Int))) := below_set2 hb3 (Nat.le_refl _) _ _
  clear hp hf hg hq hq1
  go_wp2_with fail
  exact bodyPost_ret (v := .tuple #[.agg #[.int .i64 (q0 : Int), .int .i64 (q1 : Int)], .int .i64 0]) (by simp (maxDischargeDepth := 9) [results, Tryz.results26, go_sem, x0, x1]) rfl ⟨rfl, hbz⟩

end Go.Proofs.YtmpegbebjefkaaaGreat
