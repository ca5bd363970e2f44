/- The reference's Level, Volume and IsLevel of a node. Conditions: the node is right. -/
import Derived.Test.YtjgfgbiohbgcaaaGreatStl
import Derived.Test.YtjgfgbiohbgcaaaGreatR6m
namespace Go.Proofs.YtjgfgbiohbgcaaaGreat
open Go.RowKit
set_option linter.unusedVariables false
set_option linter.unusedSimpArgs false

set_option maxRecDepth 100000 in
set_option maxHeartbeats 1000000 in
theorem r29islev_any (x : Nd) (n : Int) (w : World) : Calls Tryz.prog 14 #[vNd x, .int .i64 n] w fun e w' => e = .returned (.bool (btwB n x.Inv x.Gr)) ∧ Below w.heap.size w w' := by
  have hb0 := alloc_below w (.cells (eNd x).toArray 27)
  have HB : Hid (btwB n x.Inv x.Gr = (decide (x.Inv ≤ n) && decide (n ≤ x.Gr))) := by show _ = _; simp [btwB]
  rw [HB.out]
  clear HB
  obtain ⟨nm, kd, ax, ay, iv, gr, sh, pr, rs⟩ := x
  cases u1 : decide (iv ≤ n)
  · have u1' : decide (n ≥ iv) = false := u1
    go_enter Tryz.func14, Tryz.ntmps14
    go_wp2_with fail
    go_ret
    exact ⟨rfl, hb0⟩
  · have u1' : decide (n ≥ iv) = true := u1
    cases u2 : decide (n ≤ gr)
    all_goals
      go_enter Tryz.func14, Tryz.ntmps14
      go_wp2_with fail
      go_ret
      exact ⟨rfl, hb0⟩

set_option maxRecDepth 100000 in
set_option maxHeartbeats 1000000 in
theorem r29vol_any (x : Nd) (n : Int) (w : World) (hg : gNd w x) (h : ndB x = true) (hn : btwB n x.Inv x.Gr = true) : Calls Tryz.prog 15 #[vNd x, .int .i64 n] w fun e w' => e = .returned (.int .i64 (volV x n)) ∧ Below w.heap.size w w' := by
  have hb0 := alloc_below w (.cells (eNd x).toArray 27)
  by_cases hk : x.Kind = 3
  · have HV : Hid (volV x n = 0) := by show _ = _; simp [volV, hk]
    rw [HV.out]
    have u : (x.Kind == 3) = true := beqT hk
    clear hg h hn
    obtain ⟨nm, kd, ax, ay, iv, gr, sh, pr, rs⟩ := x
    simp only at hk
    subst hk
    go_enter Tryz.func15, Tryz.ntmps15
    go_wp2_with fail
    go_ret
    exact ⟨rfl, hb0⟩
  · have HV : Hid (volV x n = tabV x.Sh.xs (n - x.Inv)) := by show _ = _; simp [volV, hk]
    rw [HV.out]
    have u : (x.Kind == 3) = false := beqF hk
    obtain ⟨hlt, hs⟩ := ndB_shape h hk
    have hb := ndB_lv h
    simp only [btwB, Bool.and_eq_true, decide_eq_true_eq] at hn
    have x1 : IntKind.i64.wrap (n - x.Inv) = n - x.Inv := IntWalk.i64_in _ (by omega)
    have hf := r6floor_any x.Sh.xs (n - x.Inv) (vSl x.Sh) _ ((rdNd.mono hg hb0).sh.isL) (shapeB_bd hs 0).1
    clear hg h hn hlt hs hb hk
    obtain ⟨nm, kd, ax, ay, iv, gr, ⟨ca, cc, cxs⟩, pr, rs⟩ := x
    simp only at hf x1 u ⊢
    generalize tabV cxs (n - iv) = R at *
    go_enter Tryz.func15, Tryz.ntmps15
    go_wp2_with fail
    refine Calls.go hb0 hf ?_
    rintro e w1 rfl _ hb1
    go_wp2_with fail
    go_ret
    exact ⟨rfl, hb1⟩

set_option maxRecDepth 100000 in
set_option maxHeartbeats 1000000 in
theorem r29lev_any (x : Nd) (n : Int) (w : World) (hg : gNd w x) (h : ndB x = true) (hn : volB n = true) : Calls Tryz.prog 13 #[vNd x, .int .i64 n] w fun e w' => e = .returned (.int .i64 (levV x n)) ∧ Below w.heap.size w w' := by
  have hb0 := alloc_below w (.cells (eNd x).toArray 27)
  by_cases hk : x.Kind = 3
  · have HV : Hid (levV x n = x.Inv) := by show _ = _; simp [levV, hk]
    rw [HV.out]
    have u : (x.Kind == 3) = true := beqT hk
    clear hg h hn
    obtain ⟨nm, kd, ax, ay, iv, gr, sh, pr, rs⟩ := x
    simp only at hk
    subst hk
    go_enter Tryz.func13, Tryz.ntmps13
    go_wp2_with fail
    go_ret
    exact ⟨rfl, hb0⟩
  · have HV : Hid (levV x n = x.Inv + mostV x.Sh.xs n) := by show _ = _; simp [levV, hk]
    have u : (x.Kind == 3) = false := beqF hk
    obtain ⟨hlt, hs⟩ := ndB_shape h hk
    have hb := ndB_lv h
    simp only [volB, btwB, Bool.and_eq_true, decide_eq_true_eq] at hn
    have hlb := levV_bd h hn.1
    rw [HV.out] at hlb ⊢
    obtain ⟨hl, e1, e2, e3, e4⟩ := shapeB_ends hs
    have x1 : IntKind.i64.wrap (x.Inv + mostV x.Sh.xs n) = x.Inv + mostV x.Sh.xs n := IntWalk.i64_in _ (by omega)
    have hf := r6most_any x.Sh.xs n (vSl x.Sh) _ ((rdNd.mono hg hb0).sh.isL) (shapeB_bd hs 0).1 (by omega)
    have hbx := NdBx.new w x 27
    clear hg h hn hlt hs hb hk hlb e1 e2 e3 e4
    obtain ⟨nm, kd, ax, ay, iv, gr, ⟨ca, cc, cxs⟩, pr, rs⟩ := x
    simp only at hf x1 u ⊢
    generalize mostV cxs n = R at *
    go_enter Tryz.func13, Tryz.ntmps13
    go_wp2_with fail
    refine Calls.go hb0 hf ?_
    rintro e w1 rfl hb1' hb1
    have c4 := (hbx.mono hb1').c4
    simp only at c4
    clear hb1' hbx
    go_wp2_with fail
    go_ret
    exact ⟨rfl, hb1⟩

end Go.Proofs.YtjgfgbiohbgcaaaGreat
