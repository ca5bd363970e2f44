/- The reference's flow of a pump, and its ranges. Conditions: the link's curve is right. -/
import Derived.Test.YtmpegbebjefkaaaGreatR6v
import Derived.Test.YtmpegbebjefkaaaGreatPtw
namespace Go.Proofs.YtmpegbebjefkaaaGreat
open Go.RowKit
set_option linter.unusedVariables false
set_option linter.unusedSimpArgs false

theorem r33setting_any (n : Int) (w : World) : Calls Tryz.prog 10 #[.int .i64 n] w fun e w' => e = .returned (.bool (btwB n 0 1000)) ∧ w' = w := by
  by_cases h1 : 0 ≤ n <;> by_cases h2 : n ≤ 1000
  all_goals
    go_enter Tryz.func10, Tryz.ntmps10
    go_wp2_with fail
    go_ret
    exact ⟨ret_bool (by simp [btwB, h1, h2]), rfl⟩

set_option maxRecDepth 100000 in
set_option maxHeartbeats 1000000 in
theorem r33flow_any (l : Lk) (s d : Int) (w : World) (hg : gLk w l) (hc : curveB l.Cu.xs = true) (hs : 0 ≤ s) (hs2 : s ≤ 1000) :
    Calls Tryz.prog 12 #[vLk l, .int .i64 s, .int .i64 d] w fun e w' => e = .returned (.int .i64 (flV l.Cu.xs s d)) ∧ Below w.heap.size w w' := by
  have hb0 := alloc_below w (.cells (eLk l).toArray 25)
  have hf := r6floor_any l.Cu.xs d (vSl l.Cu) _ ((rdLk.mono hg hb0).cu.isL) (curveB_tab hc)
  obtain ⟨m1, m2, m3, m4⟩ := flV_bd hc (d := d) hs hs2
  have x1 : IntKind.i64.wrap (tabV l.Cu.xs d * s) = tabV l.Cu.xs d * s := IntWalk.i64_in _ (by omega)
  have x2 : IntKind.i64.wrap ((tabV l.Cu.xs d * s).tdiv 1000) = flV l.Cu.xs s d := by
    rw [Int.tdiv_eq_ediv_of_nonneg m1]; exact IntWalk.i64_in _ (by unfold flV at m3 m4; omega)
  generalize flV l.Cu.xs s d = R at *
  obtain ⟨nm, fr, tt, kd, ln, up, dn, sc, wi, he, ⟨ca, cc, cxs⟩⟩ := l
  simp only at *
  generalize tabV cxs d = c at *
  clear m1 m2 m3 m4 hg hc hs hs2
  go_enter Tryz.func12, Tryz.ntmps12
  go_wp2_with fail
  refine Calls.go hb0 hf ?_
  rintro e w1 rfl _ hb1
  go_wp2_with fail
  go_ret
  exact ⟨rfl, hb1⟩

end Go.Proofs.YtmpegbebjefkaaaGreat
