/- The law PumpsAdd returns true for all numbers. Conditions: none beyond the row's own. -/
import Derived.Test.YtmpegbebjefkaaaRows
import Derived.WalkKit
import Derived.ProofKit
import Derived.OpenShut
import Derived.ShutString
import Derived.ChangeOld
import Derived.Below
import Derived.Test.YtmpegbebjefkaaaPaw
import Derived.Test.YtmpegbebjefkaaaRowk
namespace Go.Proofs.Ytmpegbebjefkaaa.pumpsAdd
open Go.ChangeShapes Go.WideShapes Go.ChangeAt Go.RowKit
set_option linter.unusedVariables false
set_option linter.unusedSimpArgs false
open Go.ChangeMaps (open_string shut_string)
set_option linter.unusedVariables false

theorem own : ownKnob Try.prog.godebug = none := by kernel_rfl
theorem laidOut : laidOutB Try.prog = true := by kernel_rfl

set_option maxRecDepth 100000 in
set_option maxHeartbeats 16000000 in
theorem walk (a b l s t : Int) (w : World) (w0 : (Lit.int .u32 a).wf = true) (w1 : (Lit.int .u32 b).wf = true) (w2 : (Lit.int .i64 l).wf = true) (w3 : (Lit.int .i64 s).wf = true) (w4 : (Lit.int .i64 t).wf = true) :
    Calls Try.prog 6 #[.int .u32 a, .int .u32 b, .int .i64 l, .int .i64 s, .int .i64 t] w fun e w' => e = .returned (.bool true) ∧ Below w.heap.size w w' := by
  have ba := fits_u32 w0
  have bb := fits_u32 w1
  clear w0 w1 w2 w3 w4
  obtain ⟨p, hp⟩ : ∃ p, a / 8 = p := ⟨_, rfl⟩
  obtain ⟨q, hq⟩ : ∃ q, b / 8 = q := ⟨_, rfl⟩
  have bp : 0 ≤ p ∧ p ≤ 536870911 := by omega
  have bq : 0 ≤ q ∧ q ≤ 536870911 := by omega
  have cv1 : IntKind.i64.wrap a = a := IntWalk.i64_in _ (by omega)
  have cv2 : IntKind.i64.wrap b = b := IntWalk.i64_in _ (by omega)
  have cq1 : IntKind.i64.wrap (a.tdiv 8) = p := by rw [Int.tdiv_eq_ediv_of_nonneg (by omega), hp]; exact IntWalk.i64_in _ (by omega)
  have cq2 : IntKind.i64.wrap (b.tdiv 8) = q := by rw [Int.tdiv_eq_ediv_of_nonneg (by omega), hq]; exact IntWalk.i64_in _ (by omega)
  have cs : IntKind.i64.wrap (p + q) = p + q := IntWalk.i64_in _ (by omega)
  have hx := fun W => penM_any p l s W
  have hy := fun W => penM_any q l s W
  have hz := fun W => penM_any (p + q) l s W
  have hu := fun W => penM_any p l t W
  have hv := fun W => penM_any p l (s + t) W
  have hz0 := fun W => penM_any p 0 s W
  have HR := Lib.hid (enM_bd p l s)
  have HY := Lib.hid (enM_bd q l s)
  have HU := Lib.hid (enM_bd p l t)
  have HER := Lib.hid (enM_err (f := p) (l := l) (s := s))
  have HAD := Lib.hid (enM_add (p := p) (q := q) (l := l) (s := s))
  have HAD2 := Lib.hid (enM_add2 (p := p) (l := l) (s := s) (t := t))
  have HSB := Lib.hid (fun h => enB_bd (enM_ok (f := p) (l := l) (s := s) h).1)
  have HZ0 := Lib.hid (fun (h : 0 ≤ s ∧ s ≤ 86400) => enM_zero (f := p) (s := s) bp.1 (by omega) h.1 h.2)
  generalize enM p l s = x at *
  generalize enM q l s = y at *
  generalize enM (p + q) l s = z at *
  generalize enM p l t = u at *
  generalize enM p l (s + t) = v at *
  obtain ⟨r1, r2, r3⟩ := x
  obtain ⟨j1, j2, j3⟩ := y
  obtain ⟨z1, z2, z3⟩ := z
  obtain ⟨u1, u2, u3⟩ := u
  obtain ⟨v1, v2, v3⟩ := v
  simp only [vEn] at hx hy hz hu hv HR HY HU HER HAD HAD2 HSB
  clear ba bb hp hq bp bq
  go_enter Try.func6, Try.ntmps6
  go_wp2_with fail
  refine Calls.to (pawake_any _) ?_
  rintro e w1 rfl hb1
  go_wp2_with fail
  refine Calls.go hb1 (hx _) ?_
  rintro e w2 rfl _ hb2
  go_wp2_with fail
  have hX := Sp2.new w2 r1 r2 38
  have hb2 := hb2.alloc hb2.size (.cells #[.int .i64 r1, .int .i64 r2] 38)
  refine Calls.go hb2 (hy _) ?_
  rintro e w3 rfl hb3' hb3
  have hX := hX.mono hb3'
  clear hb3' hb2 hb1
  go_wp2_with fail
  have hY := Sp2.new w3 j1 j2 38
  have hA : Below w3.heap.size w3 (w3.alloc (.cells #[.int .i64 j1, .int .i64 j2] 38)) := (Below.refl _ _).alloc (Nat.le_refl _) _
  have hX := hX.mono hA
  have hb3 := hb3.alloc hb3.size (.cells #[.int .i64 j1, .int .i64 j2] 38)
  refine Calls.go hb3 (hz _) ?_
  rintro e w4 rfl hb4' hb4
  have hX := hX.mono hb4'
  have hY := hY.mono hb4'
  have hXN := hX.mono (w' := w4.alloc (.cells #[.int .i64 z1, .int .i64 z2] 38)) ((Below.refl _ _).alloc (Nat.le_refl _) _)
  have hXl := hX.lt
  have hYl := hY.lt
  obtain ⟨x0, x1⟩ := hX
  obtain ⟨y0, y1⟩ := hY
  have hbN := hb4.alloc hb4.size (.cells #[.int .i64 z1, .int .i64 z2] 38)
  clear hb4' hb3 hA hx hy hz
  generalize w2.heap.size = B1 at *
  generalize w3.heap.size = B2 at *
  cases hr3 : (r3 == 0)
  · obtain ⟨rfl, rfl⟩ := HER.out (beq_eq_false_iff_ne.1 hr3)
    have hn : (r3 != 0) = true := by rw [bne, hr3]; rfl
    go_wp2_with fail
    go_ret
    exact ⟨rfl, hbN⟩
  obtain rfl : r3 = 0 := beq_iff_eq.1 hr3
  have hS := HSB.out rfl
  have HS := Lib.hid (show 0 ≤ s ∧ s ≤ 86400 by omega)
  rw [HZ0.out HS.out] at hz0
  simp only [vEn] at hz0
  have hR := HR.out
  have q1 : decide (r2 < r1) = false := decide_eq_false (by omega)
  have q2 : IntKind.i64.wrap (r2 - r1) = r2 - r1 := IntWalk.i64_in _ (by omega)
  have q3 : decide (1 < r2 - r1) = false := decide_eq_false (by omega)
  have q4 : decide (r1 < 0) = false := decide_eq_false (by omega)
  have q5 : IntKind.i64.wrap (86400 - s) = 86400 - s := IntWalk.i64_in _ (by omega)
  replace HAD2 := Lib.hid (HAD2.out rfl)
  clear hR hS HER HSB HZ0 hr3
  cases hy3 : (j3 == 0)
  · cases t1 : decide ((0 : Int) ≤ t)
    · have hbL := hbN
      go_wp2_with fail
      refine Calls.go hbL (hz0 _) ?_
      rintro e wZ rfl hbZ' hbZ
      clear hbZ'
      go_wp2_with fail
      go_ret
      exact ⟨rfl, hbZ.alloc hbZ.size _⟩
    cases t2 : decide (t ≤ 86400 - s)
    · have hbL := hbN
      go_wp2_with fail
      refine Calls.go hbL (hz0 _) ?_
      rintro e wZ rfl hbZ' hbZ
      clear hbZ'
      go_wp2_with fail
      go_ret
      exact ⟨rfl, hbZ.alloc hbZ.size _⟩
    have sm : IntKind.i64.wrap (s + t) = s + t := IntWalk.i64_in _ (by simp only [decide_eq_true_eq] at t1 t2; have := HS.out; omega)
    go_wp2_with fail
    refine Calls.go hbN (hu _) ?_
    rintro e wU rfl hbU' hbU
    have hXU := hXN.mono hbU'
    clear hbU' x0 x1 y0 y1 hXl hYl
    go_wp2_with fail
    have hU := Sp2.new wU u1 u2 38
    have hXV := hXU.mono (w' := wU.alloc (.cells #[.int .i64 u1, .int .i64 u2] 38)) ((Below.refl _ _).alloc (Nat.le_refl _) _)
    have hbU := hbU.alloc hbU.size (.cells #[.int .i64 u1, .int .i64 u2] 38)
    refine Calls.go hbU (hv _) ?_
    rintro e wV rfl hbV' hbV
    have hXV := hXV.mono hbV'
    have hU := hU.mono hbV'
    have hXl := hXV.lt
    have hUl := hU.lt
    obtain ⟨x0, x1⟩ := hXV
    obtain ⟨U0, U1⟩ := hU
    clear hbV' hbU
    have hbL := hbV.alloc hbV.size (.cells #[.int .i64 v1, .int .i64 v2] 38)
    cases hu3 : (u3 == 0)
    · go_wp2_with fail
      refine Calls.go hbL (hz0 _) ?_
      rintro e wZ rfl hbZ' hbZ
      clear hbZ'
      go_wp2_with fail
      go_ret
      exact ⟨rfl, hbZ.alloc hbZ.size _⟩
    cases hv3 : (v3 == 0)
    · go_wp2_with fail
      refine Calls.go hbL (hz0 _) ?_
      rintro e wZ rfl hbZ' hbZ
      clear hbZ'
      go_wp2_with fail
      go_ret
      exact ⟨rfl, hbZ.alloc hbZ.size _⟩
    have hh := HAD2.out (beq_iff_eq.1 hu3) (beq_iff_eq.1 hv3)
    have hR := HR.out
    have hU := HU.out
    have d1 : decide (v1 < r1 + u1) = false := decide_eq_false (by omega)
    have d2 : decide (r2 + u2 < v2) = false := decide_eq_false (by omega)
    have g1 : IntKind.i64.wrap (r1 + u1) = r1 + u1 := IntWalk.i64_in _ (by omega)
    have g2 : IntKind.i64.wrap (r2 + u2) = r2 + u2 := IntWalk.i64_in _ (by omega)
    clear hh hR hU
    go_wp2_with fail
    refine Calls.go hbL (hz0 _) ?_
    rintro e wZ rfl hbZ' hbZ
    clear hbZ'
    go_wp2_with fail
    go_ret
    exact ⟨rfl, hbZ.alloc hbZ.size _⟩
  cases hz3 : (z3 == 0)
  · cases t1 : decide ((0 : Int) ≤ t)
    · have hbL := hbN
      go_wp2_with fail
      refine Calls.go hbL (hz0 _) ?_
      rintro e wZ rfl hbZ' hbZ
      clear hbZ'
      go_wp2_with fail
      go_ret
      exact ⟨rfl, hbZ.alloc hbZ.size _⟩
    cases t2 : decide (t ≤ 86400 - s)
    · have hbL := hbN
      go_wp2_with fail
      refine Calls.go hbL (hz0 _) ?_
      rintro e wZ rfl hbZ' hbZ
      clear hbZ'
      go_wp2_with fail
      go_ret
      exact ⟨rfl, hbZ.alloc hbZ.size _⟩
    have sm : IntKind.i64.wrap (s + t) = s + t := IntWalk.i64_in _ (by simp only [decide_eq_true_eq] at t1 t2; have := HS.out; omega)
    go_wp2_with fail
    refine Calls.go hbN (hu _) ?_
    rintro e wU rfl hbU' hbU
    have hXU := hXN.mono hbU'
    clear hbU' x0 x1 y0 y1 hXl hYl
    go_wp2_with fail
    have hU := Sp2.new wU u1 u2 38
    have hXV := hXU.mono (w' := wU.alloc (.cells #[.int .i64 u1, .int .i64 u2] 38)) ((Below.refl _ _).alloc (Nat.le_refl _) _)
    have hbU := hbU.alloc hbU.size (.cells #[.int .i64 u1, .int .i64 u2] 38)
    refine Calls.go hbU (hv _) ?_
    rintro e wV rfl hbV' hbV
    have hXV := hXV.mono hbV'
    have hU := hU.mono hbV'
    have hXl := hXV.lt
    have hUl := hU.lt
    obtain ⟨x0, x1⟩ := hXV
    obtain ⟨U0, U1⟩ := hU
    clear hbV' hbU
    have hbL := hbV.alloc hbV.size (.cells #[.int .i64 v1, .int .i64 v2] 38)
    cases hu3 : (u3 == 0)
    · go_wp2_with fail
      refine Calls.go hbL (hz0 _) ?_
      rintro e wZ rfl hbZ' hbZ
      clear hbZ'
      go_wp2_with fail
      go_ret
      exact ⟨rfl, hbZ.alloc hbZ.size _⟩
    cases hv3 : (v3 == 0)
    · go_wp2_with fail
      refine Calls.go hbL (hz0 _) ?_
      rintro e wZ rfl hbZ' hbZ
      clear hbZ'
      go_wp2_with fail
      go_ret
      exact ⟨rfl, hbZ.alloc hbZ.size _⟩
    have hh := HAD2.out (beq_iff_eq.1 hu3) (beq_iff_eq.1 hv3)
    have hR := HR.out
    have hU := HU.out
    have d1 : decide (v1 < r1 + u1) = false := decide_eq_false (by omega)
    have d2 : decide (r2 + u2 < v2) = false := decide_eq_false (by omega)
    have g1 : IntKind.i64.wrap (r1 + u1) = r1 + u1 := IntWalk.i64_in _ (by omega)
    have g2 : IntKind.i64.wrap (r2 + u2) = r2 + u2 := IntWalk.i64_in _ (by omega)
    clear hh hR hU
    go_wp2_with fail
    refine Calls.go hbL (hz0 _) ?_
    rintro e wZ rfl hbZ' hbZ
    clear hbZ'
    go_wp2_with fail
    go_ret
    exact ⟨rfl, hbZ.alloc hbZ.size _⟩
  have hh := HAD.out rfl (beq_iff_eq.1 hy3) (beq_iff_eq.1 hz3)
  have hR := HR.out
  have hY := HY.out
  have e1 : decide (z1 < r1 + j1) = false := decide_eq_false (by omega)
  have e2 : decide (r2 + j2 < z2) = false := decide_eq_false (by omega)
  have e3 : IntKind.i64.wrap (r1 + j1) = r1 + j1 := IntWalk.i64_in _ (by omega)
  have e4 : IntKind.i64.wrap (r2 + j2) = r2 + j2 := IntWalk.i64_in _ (by omega)
  clear hh hR hY
  cases t1 : decide ((0 : Int) ≤ t)
  · have hbL := hbN
    go_wp2_with fail
    refine Calls.go hbL (hz0 _) ?_
    rintro e wZ rfl hbZ' hbZ
    clear hbZ'
    go_wp2_with fail
    go_ret
    exact ⟨rfl, hbZ.alloc hbZ.size _⟩
  cases t2 : decide (t ≤ 86400 - s)
  · have hbL := hbN
    go_wp2_with fail
    refine Calls.go hbL (hz0 _) ?_
    rintro e wZ rfl hbZ' hbZ
    clear hbZ'
    go_wp2_with fail
    go_ret
    exact ⟨rfl, hbZ.alloc hbZ.size _⟩
  have sm : IntKind.i64.wrap (s + t) = s + t := IntWalk.i64_in _ (by simp only [decide_eq_true_eq] at t1 t2; have := HS.out; omega)
  go_wp2_with fail
  refine Calls.go hbN (hu _) ?_
  rintro e wU rfl hbU' hbU
  have hXU := hXN.mono hbU'
  clear hbU' x0 x1 y0 y1 hXl hYl
  go_wp2_with fail
  have hU := Sp2.new wU u1 u2 38
  have hXV := hXU.mono (w' := wU.alloc (.cells #[.int .i64 u1, .int .i64 u2] 38)) ((Below.refl _ _).alloc (Nat.le_refl _) _)
  have hbU := hbU.alloc hbU.size (.cells #[.int .i64 u1, .int .i64 u2] 38)
  refine Calls.go hbU (hv _) ?_
  rintro e wV rfl hbV' hbV
  have hXV := hXV.mono hbV'
  have hU := hU.mono hbV'
  have hXl := hXV.lt
  have hUl := hU.lt
  obtain ⟨x0, x1⟩ := hXV
  obtain ⟨U0, U1⟩ := hU
  clear hbV' hbU
  have hbL := hbV.alloc hbV.size (.cells #[.int .i64 v1, .int .i64 v2] 38)
  cases hu3 : (u3 == 0)
  · go_wp2_with fail
    refine Calls.go hbL (hz0 _) ?_
    rintro e wZ rfl hbZ' hbZ
    clear hbZ'
    go_wp2_with fail
    go_ret
    exact ⟨rfl, hbZ.alloc hbZ.size _⟩
  cases hv3 : (v3 == 0)
  · go_wp2_with fail
    refine Calls.go hbL (hz0 _) ?_
    rintro e wZ rfl hbZ' hbZ
    clear hbZ'
    go_wp2_with fail
    go_ret
    exact ⟨rfl, hbZ.alloc hbZ.size _⟩
  have hh := HAD2.out (beq_iff_eq.1 hu3) (beq_iff_eq.1 hv3)
  have hR := HR.out
  have hU := HU.out
  have d1 : decide (v1 < r1 + u1) = false := decide_eq_false (by omega)
  have d2 : decide (r2 + u2 < v2) = false := decide_eq_false (by omega)
  have g1 : IntKind.i64.wrap (r1 + u1) = r1 + u1 := IntWalk.i64_in _ (by omega)
  have g2 : IntKind.i64.wrap (r2 + u2) = r2 + u2 := IntWalk.i64_in _ (by omega)
  clear hh hR hU
  go_wp2_with fail
  refine Calls.go hbL (hz0 _) ?_
  rintro e wZ rfl hbZ' hbZ
  clear hbZ'
  go_wp2_with fail
  go_ret
  exact ⟨rfl, hbZ.alloc hbZ.size _⟩

/-! ### The row -/
set_option maxRecDepth 100000 in
theorem lifted (os : Os) (started : os.Started) (H : Type) (enc : TypeId × Value → H) :
    ReturnsInHanded {} Try.checked os 6 .any (Rows.pumpsAddSpec.pre6 enc Try.prog Try.f6 Rows.pumpsAddRow.domain false) (Rows.pumpsAddSpec.post enc Try.prog Try.f6 false true false false) := by
  refine returnsInHanded_of_change (C := Try.checked) own started (by kernel_rfl) Try.func6
    (ChangeSpec.witness6 (enc := enc) (C := Try.checked) false ⟨#[], #[.int .u32 0, .int .u32 0, .int .i64 0, .int .i64 0, .int .i64 0], []⟩ 8 (by kernel_rfl) (by kernel_rfl) (by kernel_rfl) (by kernel_rfl)) ?_
  intro W base args ds gs before hval0 hW hcnd _
  have hval : ∀ (j : Nat) t v, Try.f6.params[j]? = some t → args[j]? = some v → Value.okWide Try.prog W .any base t v := hval0
  have hW' := hW
  obtain ⟨p, q, hA0, hV, rfl, hfz, hnd⟩ := hW
  have hA : DataW.TrodAll enc Try.prog W 0 (fun _ => true) true Try.f6.params.toList args.toList ds p := hA0
  rw [Try.params6] at hA hval
  obtain ⟨v0, vs0, d0, ds0, p0, q0, hargs, rfl, rfl, h0, r0⟩ := trodAll_cons hA
  obtain ⟨v1, vs1, d1, ds1, p1, q1, rfl, rfl, rfl, h1, r1⟩ := trodAll_cons r0
  obtain ⟨v2, vs2, d2, ds2, p2, q2, rfl, rfl, rfl, h2, r2⟩ := trodAll_cons r1
  obtain ⟨v3, vs3, d3, ds3, p3, q3, rfl, rfl, rfl, h3, r3⟩ := trodAll_cons r2
  obtain ⟨v4, vs4, d4, ds4, p4, q4, rfl, rfl, rfl, h4, r4⟩ := trodAll_cons r3
  obtain ⟨rfl, rfl, rfl⟩ := trodAll_nil r4
  obtain rfl : args = #[v0, v1, v2, v3, v4] := by cases args; simp_all
  obtain ⟨rfl, rfl⟩ := trodVars_none hV
  obtain ⟨a0, rfl, rfl, rfl, w0⟩ := open_int Try.underlying47 (hval 0 47 v0 rfl rfl) h0
  obtain ⟨a1, rfl, rfl, rfl, w1⟩ := open_int Try.underlying47 (hval 1 47 v1 rfl rfl) h1
  obtain ⟨a2, rfl, rfl, rfl, w2⟩ := open_int Try.underlying3 (hval 2 3 v2 rfl rfl) h2
  obtain ⟨a3, rfl, rfl, rfl, w3⟩ := open_int Try.underlying3 (hval 3 3 v3 rfl rfl) h3
  obtain ⟨a4, rfl, rfl, rfl, w4⟩ := open_int Try.underlying3 (hval 4 3 v4 rfl rfl) h4
  clear hA0 hval0
  refine (walk a0 a1 a2 a3 a4 W w0 w1 w2 w3 w4).mono fun e W' ⟨he, bel⟩ => ?_
  subst he
  exact ⟨_, rfl, _, _, _, [], _, [], hW', trodAll_mk1 (shut_bool Try.underlying4 _), (trodAll_cons_mk (shut_int Try.underlying47 w0) (trodAll_cons_mk (shut_int Try.underlying47 w1) (trodAll_cons_mk (shut_int Try.underlying3 w2) (trodAll_cons_mk (shut_int Try.underlying3 w3) (trodAll_cons_mk (shut_int Try.underlying3 w4) trodAll_mk0))))), rfl, bel.frame _, fun h => by cases h⟩

theorem over : Rows.pumpsAddRow.holds Try.pinned (OpenSpec.ofChange Rows.pumpsAddSpec) :=
  OpenClaim.holds_of_wide 6 Try.f6 rfl rfl rfl rfl rfl rfl rfl ⟨rfl, rfl, rfl, rfl, rfl⟩ rfl rfl rfl rfl rfl (by kernel_rfl) Try.func6 (by kernel_rfl)
    (of_decide_eq_true (by kernel_rfl)) (by unfold Func.isWrapper; first | (rw [if_pos (by decide +kernel)]; kernel_rfl) | (rw [if_neg (by decide +kernel)]; exact ⟨rfl, rfl⟩))
    (fun os started H enc _ => lifted os started H enc)

end Go.Proofs.Ytmpegbebjefkaaa.pumpsAdd
namespace Go.Proofs.Ytmpegbebjefkaaa
/-- The statement. -/
theorem pumpsAdd_holds : Rows.PumpsAddSaid := pumpsAdd.over
#print axioms pumpsAdd_holds
end Go.Proofs.Ytmpegbebjefkaaa
