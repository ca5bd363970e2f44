/- The law PumpsGrow returns true for every link and all numbers, and leaves its arguments as they were. Conditions: none beyond the row's own. -/
import Derived.Test.YtmpegbebjefkaaaRows
import Derived.WalkKit
import Derived.ProofKit
import Derived.OpenShut
import Derived.ShutString
import Derived.ChangeOld
import Derived.Below
import Derived.Test.YtmpegbebjefkaaaPaw
import Derived.Test.YtmpegbebjefkaaaRowk
namespace Go.Proofs.Ytmpegbebjefkaaa.pumpsGrow
open Go.ChangeShapes Go.WideShapes Go.ChangeAt Go.RowKit
set_option linter.unusedVariables false
set_option linter.unusedSimpArgs false
open Go.ChangeMaps (open_string shut_string)
set_option linter.unusedVariables false

theorem own : ownKnob Try.prog.godebug = none := by kernel_rfl
theorem laidOut : laidOutB Try.prog = true := by kernel_rfl

set_option maxRecDepth 100000 in
set_option maxHeartbeats 8000000 in
theorem walk (v0 : Value) (x0 : Lk) (s t a b : Int) (w : World) (w0 : v0 = vLk x0 ∧ gLk w x0) (w1 : (Lit.int .i64 s).wf = true) (w2 : (Lit.int .i64 t).wf = true) (w3 : (Lit.int .i64 a).wf = true) (w4 : (Lit.int .i64 b).wf = true) :
    Calls Try.prog 5 #[v0, .int .i64 s, .int .i64 t, .int .i64 a, .int .i64 b] w fun e w' => e = .returned (.bool true) ∧ Below w.heap.size w w' := by
  obtain ⟨rfl, hg⟩ := w0
  clear w1 w2 w3 w4
  have hb0 : Below w.heap.size w (w.alloc (.cells (eLk x0).toArray 25)) := (Below.refl _ _).alloc (Nat.le_refl _) _
  have HG := Lib.hid (rdLk.mono hg hb0)
  have HBX := Lib.hid (LkBx.new w x0 25)
  obtain ⟨pb, hpb⟩ : ∃ pb, pumpB x0 = pb := ⟨_, rfl⟩
  have HPB := Lib.hid hpb
  have hpv : ∀ W, gLk W x0 → Calls Try.prog 20 #[vLk x0] W fun e w' => e = .returned (.bool pb) ∧ Below W.heap.size W w' := fun W hW => by rw [← hpb]; exact pvalid_any x0 W hW
  have hfl := fun (s d : Int) (W : World) (hW : gLk W x0) => pflow_any x0 s d W hW
  clear hpb hg
  obtain ⟨nm, fr, tt, kd, ln, up, dn, sc, wi, he, cu⟩ := x0
  go_enter Try.func5, Try.ntmps5
  go_wp2_with fail
  refine Calls.go hb0 (pawake_any _) ?_
  rintro e w1 rfl hb1' hb1
  have HBX := Lib.hid (HBX.out.mono hb1')
  have HG := Lib.hid (rdLk.mono HG.out hb1')
  obtain ⟨c0, c1, c2, c3, c4, c5, c6, c7, c8, c9, c10⟩ := HBX.out
  simp only at c0 c1 c2 c3 c4 c5 c6 c7 c8 c9 c10
  clear hb1' hb0
  go_wp2_with fail
  refine Calls.go hb1 (psmall_any ⟨nm, fr, tt, kd, ln, up, dn, sc, wi, he, cu⟩ _) ?_
  rintro e w2 ⟨sm, rfl⟩ hb2' hb2
  clear c0 c1 c2 c3 c4 c5 c6 c7 c8 c9 c10
  have HBX := Lib.hid (HBX.out.mono hb2')
  have HG := Lib.hid (rdLk.mono HG.out hb2')
  obtain ⟨c0, c1, c2, c3, c4, c5, c6, c7, c8, c9, c10⟩ := HBX.out
  simp only at c0 c1 c2 c3 c4 c5 c6 c7 c8 c9 c10
  clear hb2' hb1
  cases sm
  · go_wp2_with fail
    go_ret
    exact ⟨rfl, hb2⟩
  cases t1 : decide (s < 0)
  rotate_left
  · go_wp2_with fail
    go_ret
    exact ⟨rfl, hb2⟩
  cases t2 : decide (t < s)
  rotate_left
  · go_wp2_with fail
    go_ret
    exact ⟨rfl, hb2⟩
  cases t3 : decide ((1000 : Int) < t)
  rotate_left
  · go_wp2_with fail
    go_ret
    exact ⟨rfl, hb2⟩
  cases t4 : decide (a < 0)
  rotate_left
  · go_wp2_with fail
    go_ret
    exact ⟨rfl, hb2⟩
  cases t5 : decide (b < a)
  rotate_left
  · go_wp2_with fail
    go_ret
    exact ⟨rfl, hb2⟩
  cases t6 : decide ((4194304 : Int) < b)
  rotate_left
  · go_wp2_with fail
    go_ret
    exact ⟨rfl, hb2⟩
  go_wp2_with fail
  refine Calls.go hb2 (hpv _ HG.out) ?_
  rintro e w3 rfl hb3' hb3
  clear c0 c1 c2 c3 c4 c5 c6 c7 c8 c9 c10
  have HBX := Lib.hid (HBX.out.mono hb3')
  have HG := Lib.hid (rdLk.mono HG.out hb3')
  obtain ⟨c0, c1, c2, c3, c4, c5, c6, c7, c8, c9, c10⟩ := HBX.out
  simp only at c0 c1 c2 c3 c4 c5 c6 c7 c8 c9 c10
  clear hb3' hb2 hpv
  cases pb
  · go_wp2_with fail
    go_ret
    exact ⟨rfl, hb3⟩
  have hb4' := hb3
  have T : 0 ≤ s ∧ s ≤ t ∧ t ≤ 1000 ∧ 0 ≤ a ∧ a ≤ b ∧ b ≤ 4194304 := by
    simp only [decide_eq_false_iff_not] at t1 t2 t3 t4 t5 t6; omega
  clear t1 t2 t3 t4 t5 t6
  have hc := pumpB_curve HPB.out
  have hfm : ∀ s d : Int, 0 ≤ s → s ≤ 1000 → 0 ≤ d → d ≤ 4194304 → flM ⟨nm, fr, tt, kd, ln, up, dn, sc, wi, he, cu⟩ s d = (flV cu.xs s d, 0) := by
    intro s d q1 q2 q3 q4
    simp [flM, HPB.out, btwB, q1, q2, q3, q4]
  have f1 := hfm s a (by omega) (by omega) (by omega) (by omega)
  have f2 := hfm t a (by omega) (by omega) (by omega) (by omega)
  have f3 := hfm s b (by omega) (by omega) (by omega) (by omega)
  have f4 := hfm 0 b (by omega) (by omega) (by omega) (by omega)
  have f5 := hfm (s / 2) a (by omega) (by omega) (by omega) (by omega)
  have g1 := hfl s a
  have g2 := hfl t a
  have g3 := hfl s b
  have g4 := hfl 0 b
  have g5 := hfl (s / 2) a
  rw [f1] at g1; rw [f2] at g2; rw [f3] at g3; rw [f4, flV_zero] at g4; rw [f5] at g5
  have m1 := flV_mono hc (s := s) (t := t) (a := a) (b := b) (by omega) (by omega) (by omega)
  have m2 := flV_half hc (s := s) (a := a) (by omega)
  have m3 := flV_bd hc (s := s) (d := a) (by omega) (by omega)
  have m4 := flV_bd hc (s := s / 2) (d := a) (by omega) (by omega)
  have x1 : IntKind.i64.wrap (s.tdiv 2) = s / 2 := by rw [Int.tdiv_eq_ediv_of_nonneg (by omega)]; exact IntWalk.i64_in _ (by omega)
  clear f1 f2 f3 f4 f5 hfm hfl hc HPB
  obtain ⟨m31, m32, m33, m34⟩ := m3
  obtain ⟨m41, m42, m43, m44⟩ := m4
  clear m31 m32 m41 m42
  generalize flV cu.xs s a = X at *
  generalize flV cu.xs t a = Y at *
  generalize flV cu.xs s b = Z at *
  generalize flV cu.xs (s / 2) a = V at *
  have u1 : decide ((0 : Int) ≤ X) = true := decide_eq_true (by omega)
  have u2 : decide (X ≤ Y) = true := decide_eq_true (by omega)
  have u3 : decide (X ≤ Z) = true := decide_eq_true (by omega)
  have x2 : IntKind.i64.wrap (2 * V) = 2 * V := IntWalk.i64_in _ (by omega)
  have x3 : IntKind.i64.wrap (X + 1) = X + 1 := IntWalk.i64_in _ (by omega)
  have u4 : decide (2 * V ≤ X + 1) = true := decide_eq_true (by omega)
  clear T m1 m2 m33 m34 m43 m44
  go_wp2_with fail
  refine Calls.go hb3 (g1 _ HG.out) ?_
  rintro e w4 rfl hb4' hb4
  clear c0 c1 c2 c3 c4 c5 c6 c7 c8 c9 c10
  have HBX := Lib.hid (HBX.out.mono hb4')
  have HG := Lib.hid (rdLk.mono HG.out hb4')
  obtain ⟨c0, c1, c2, c3, c4, c5, c6, c7, c8, c9, c10⟩ := HBX.out
  simp only at c0 c1 c2 c3 c4 c5 c6 c7 c8 c9 c10
  clear hb4' hb3 g1
  go_wp2_with fail
  refine Calls.go hb4 (g2 _ HG.out) ?_
  rintro e w5 rfl hb5' hb5
  clear c0 c1 c2 c3 c4 c5 c6 c7 c8 c9 c10
  have HBX := Lib.hid (HBX.out.mono hb5')
  have HG := Lib.hid (rdLk.mono HG.out hb5')
  obtain ⟨c0, c1, c2, c3, c4, c5, c6, c7, c8, c9, c10⟩ := HBX.out
  simp only at c0 c1 c2 c3 c4 c5 c6 c7 c8 c9 c10
  clear hb5' hb4 g2
  go_wp2_with fail
  refine Calls.go hb5 (g3 _ HG.out) ?_
  rintro e w6 rfl hb6' hb6
  clear c0 c1 c2 c3 c4 c5 c6 c7 c8 c9 c10
  have HBX := Lib.hid (HBX.out.mono hb6')
  have HG := Lib.hid (rdLk.mono HG.out hb6')
  obtain ⟨c0, c1, c2, c3, c4, c5, c6, c7, c8, c9, c10⟩ := HBX.out
  simp only at c0 c1 c2 c3 c4 c5 c6 c7 c8 c9 c10
  clear hb6' hb5 g3
  go_wp2_with fail
  refine Calls.go hb6 (g4 _ HG.out) ?_
  rintro e w7 rfl hb7' hb7
  clear c0 c1 c2 c3 c4 c5 c6 c7 c8 c9 c10
  have HBX := Lib.hid (HBX.out.mono hb7')
  have HG := Lib.hid (rdLk.mono HG.out hb7')
  obtain ⟨c0, c1, c2, c3, c4, c5, c6, c7, c8, c9, c10⟩ := HBX.out
  simp only at c0 c1 c2 c3 c4 c5 c6 c7 c8 c9 c10
  clear hb7' hb6 g4
  go_wp2_with fail
  refine Calls.go hb7 (g5 _ HG.out) ?_
  rintro e w8 rfl hb8' hb8
  clear c0 c1 c2 c3 c4 c5 c6 c7 c8 c9 c10
  clear hb8' hb7 g5
  go_wp2_with fail
  go_ret
  exact ⟨rfl, hb8⟩

/-! ### The row -/
set_option maxRecDepth 100000 in
theorem lifted (os : Os) (started : os.Started) (H : Type) (enc : TypeId × Value → H) :
    ReturnsInHanded {} Try.checked os 5 .any (Rows.pumpsGrowSpec.pre6 enc Try.prog Try.f5 Rows.pumpsGrowRow.domain false) (Rows.pumpsGrowSpec.post enc Try.prog Try.f5 false true false false) := by
  refine returnsInHanded_of_change (C := Try.checked) own started (by kernel_rfl) Try.func5
    (ChangeSpec.witness6 (enc := enc) (C := Try.checked) false ⟨#[], #[.agg #[.string ⟨#[]⟩, .string ⟨#[]⟩, .string ⟨#[]⟩, .int .i64 0, .int .i64 0, .int .i64 0, .int .i64 0, .string ⟨#[]⟩, .int .i64 0, .int .i64 0, .slice none 0 0], .int .i64 0, .int .i64 0, .int .i64 0, .int .i64 0], []⟩ 8 (by kernel_rfl) (by kernel_rfl) (by kernel_rfl) (by kernel_rfl)) ?_
  intro W base args ds gs before hval0 hW hcnd _
  have hval : ∀ (j : Nat) t v, Try.f5.params[j]? = some t → args[j]? = some v → Value.okWide Try.prog W .any base t v := hval0
  have hW' := hW
  obtain ⟨p, q, hA0, hV, rfl, hfz, hnd⟩ := hW
  have hA : DataW.TrodAll enc Try.prog W 0 (fun _ => true) true Try.f5.params.toList args.toList ds p := hA0
  rw [Try.params5] at hA hval
  obtain ⟨v0, vs0, d0, ds0, p0, q0, hargs, rfl, rfl, h0, r0⟩ := trodAll_cons hA
  obtain ⟨v1, vs1, d1, ds1, p1, q1, rfl, rfl, rfl, h1, r1⟩ := trodAll_cons r0
  obtain ⟨v2, vs2, d2, ds2, p2, q2, rfl, rfl, rfl, h2, r2⟩ := trodAll_cons r1
  obtain ⟨v3, vs3, d3, ds3, p3, q3, rfl, rfl, rfl, h3, r3⟩ := trodAll_cons r2
  obtain ⟨v4, vs4, d4, ds4, p4, q4, rfl, rfl, rfl, h4, r4⟩ := trodAll_cons r3
  obtain ⟨rfl, rfl, rfl⟩ := trodAll_nil r4
  obtain rfl : args = #[v0, v1, v2, v3, v4] := by cases args; simp_all
  obtain ⟨rfl, rfl⟩ := trodVars_none hV
  have k0 := h0
  have lt0 : ∀ x ∈ p0, x.block < W.heap.size := by obtain ⟨m, hm⟩ := k0; exact DataW.trod_lt m _ _ _ hm
  obtain ⟨x0, w0⟩ := openLk (hval 0 25 v0 rfl rfl) h0
  obtain ⟨a1, rfl, rfl, rfl, w1⟩ := open_int Try.underlying3 (hval 1 3 v1 rfl rfl) h1
  obtain ⟨a2, rfl, rfl, rfl, w2⟩ := open_int Try.underlying3 (hval 2 3 v2 rfl rfl) h2
  obtain ⟨a3, rfl, rfl, rfl, w3⟩ := open_int Try.underlying3 (hval 3 3 v3 rfl rfl) h3
  obtain ⟨a4, rfl, rfl, rfl, w4⟩ := open_int Try.underlying3 (hval 4 3 v4 rfl rfl) h4
  clear hA0 hval0
  refine (walk v0 x0 a1 a2 a3 a4 W w0 w1 w2 w3 w4).mono fun e W' ⟨he, bel⟩ => ?_
  subst he
  exact ⟨_, rfl, _, _, _, [], _, [], hW', trodAll_mk1 (shut_bool Try.underlying4 _), (trodAll_cons_mk (Below.trod laidOut (by kernel_rfl) (of_decide_eq_true (by kernel_rfl)) k0 bel lt0) (trodAll_cons_mk (shut_int Try.underlying3 w1) (trodAll_cons_mk (shut_int Try.underlying3 w2) (trodAll_cons_mk (shut_int Try.underlying3 w3) (trodAll_cons_mk (shut_int Try.underlying3 w4) trodAll_mk0))))), rfl, bel.frame _, fun h => by cases h⟩

theorem over : Rows.pumpsGrowRow.holds Try.pinned (OpenSpec.ofChange Rows.pumpsGrowSpec) :=
  OpenClaim.holds_of_wide 5 Try.f5 rfl rfl rfl rfl rfl rfl rfl ⟨rfl, rfl, rfl, rfl, rfl⟩ rfl rfl rfl rfl rfl (by kernel_rfl) Try.func5 (by kernel_rfl)
    (of_decide_eq_true (by kernel_rfl)) (by unfold Func.isWrapper; first | (rw [if_pos (by decide +kernel)]; kernel_rfl) | (rw [if_neg (by decide +kernel)]; exact ⟨rfl, rfl⟩))
    (fun os started H enc _ => lifted os started H enc)

end Go.Proofs.Ytmpegbebjefkaaa.pumpsGrow
namespace Go.Proofs.Ytmpegbebjefkaaa
/-- The statement. -/
theorem pumpsGrow_holds : Rows.PumpsGrowSaid := pumpsGrow.over
#print axioms pumpsGrow_holds
end Go.Proofs.Ytmpegbebjefkaaa
