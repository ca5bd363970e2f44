/- The law PumpsFlows returns true for every link, all numbers and both states, and leaves its arguments as they were. Conditions: none beyond the row's own. -/
import Derived.Test.YtmpegbebjefkaaaGreatRows
import Derived.WalkKit
import Derived.ProofKit
import Derived.OpenShut
import Derived.ShutString
import Derived.ChangeOld
import Derived.Below
import Derived.Test.YtmpegbebjefkaaaGreatPfx
import Derived.Test.YtmpegbebjefkaaaGreatRowk
namespace Go.Proofs.YtmpegbebjefkaaaGreat.pumpsFlows
open Go.ChangeShapes Go.WideShapes Go.ChangeAt Go.RowKit
set_option linter.unusedVariables false
set_option linter.unusedSimpArgs false
open Go.ChangeMaps (open_string shut_string)
set_option linter.unusedVariables false

theorem own : ownKnob Tryz.prog.godebug = none := by kernel_rfl
theorem laidOut : laidOutB Tryz.prog = true := by kernel_rfl

set_option maxRecDepth 100000 in
set_option maxHeartbeats 8000000 in
theorem walk (v0 : Value) (x0 : Lk) (s d : Int) (was : Bool) (n : Int) (w : World) (w0 : v0 = vLk x0 ∧ gLk w x0) (w1 : (Lit.int .i64 s).wf = true) (w2 : (Lit.int .i64 d).wf = true) (w4 : (Lit.int .i64 n).wf = true) :
    Calls Tryz.prog 3 #[v0, .int .i64 s, .int .i64 d, .bool was, .int .i64 n] w fun e w' => e = .returned (.bool true) ∧ Below w.heap.size w w' := by
  obtain ⟨rfl, hg⟩ := w0
  clear w1 w2 w4
  have hb0 := alloc_below w (.cells (eLk x0).toArray 25)
  have HG := Lib.hid (rdLk.mono hg hb0)
  have HBX := Lib.hid (LkBx.new w x0 25)
  obtain ⟨pb, hpb⟩ : ∃ pb, pumpB x0 = pb := ⟨_, rfl⟩
  have HPB := Lib.hid hpb
  have hpv : ∀ W, gLk W x0 → Calls Tryz.prog 9 #[vLk x0] W fun e w' => e = .returned (.bool pb) ∧ Below W.heap.size W w' := fun W hW => by rw [← hpb]; exact pvalid_any x0 W hW
  have hrv : ∀ W, gLk W x0 → Calls Tryz.prog 8 #[vLk x0] W fun e w' => e = .returned (.bool pb) ∧ Below W.heap.size W w' := fun W hW => by rw [← hpb]; exact r33valid_any x0 W hW
  have hfl := fun (W : World) (hW : gLk W x0) => pflow_any x0 s d W hW
  have hon := fun (W : World) (hW : gLk W x0) => ponx_any x0 was n W hW
  have hrf := fun (W : World) (hW : gLk W x0) h1 h2 h3 => r33flow_any x0 s d W hW h1 h2 h3
  have hron := fun (W : World) => r33on_any x0 was n W
  have hset := fun W => r33setting_any s W
  have hdep := fun W => r33depth_any d W
  have hlev := fun W => r33level_any n W
  obtain ⟨⟨FL, FE⟩, hF⟩ : ∃ r, flM x0 s d = r := ⟨_, rfl⟩
  obtain ⟨⟨NOW, OE⟩, hO⟩ : ∃ r, onM x0 was n = r := ⟨_, rfl⟩
  rw [hF] at hfl
  rw [hO] at hon
  have HFL := Lib.hid hF
  have HON := Lib.hid hO
  simp only at hfl hon
  clear hpb hg hF hO
  obtain ⟨nm, fr, tt, kd, ln, up, dn, sc, wi, he, cu⟩ := x0
  simp only at hron
  go_enter Tryz.func3, Tryz.ntmps3
  go_wp2_with fail
  refine Calls.go hb0 (pawake_any _) ?_
  rintro e w1 rfl hb1' hb1
  have HBX := Lib.hid (HBX.out.mono hb1')
  have HG := Lib.hid (rdLk.mono HG.out hb1')
  obtain ⟨c0, c1, c2, c3, c4, c5, c6, c7, c8, c9, c10⟩ := HBX.out
  simp only at c0 c1 c2 c3 c4 c5 c6 c7 c8 c9 c10
  clear hb1' hb0
  go_wp2_with fail
  refine Calls.go hb1 (psmall_any ⟨nm, fr, tt, kd, ln, up, dn, sc, wi, he, cu⟩ _) ?_
  rintro e w2 ⟨sm, rfl⟩ hb2' hb2
  clear c0 c1 c2 c3 c4 c5 c6 c7 c8 c9 c10
  have HBX := Lib.hid (HBX.out.mono hb2')
  have HG := Lib.hid (rdLk.mono HG.out hb2')
  obtain ⟨c0, c1, c2, c3, c4, c5, c6, c7, c8, c9, c10⟩ := HBX.out
  simp only at c0 c1 c2 c3 c4 c5 c6 c7 c8 c9 c10
  clear hb2' hb1
  cases sm
  · go_wp2_with fail
    go_ret
    exact ⟨rfl, hb2⟩
  cases pb
  · have h2 := HFL.out.symm.trans (show flM _ s d = (0, 1) from by simp only [flM, HPB.out, if_true])
    have h3 := HON.out.symm.trans (show onM _ was n = (false, 1) from by simp only [onM, HPB.out, if_true])
    simp only [Prod.mk.injEq] at h2 h3
    obtain ⟨rfl, rfl⟩ := h2
    obtain ⟨rfl, rfl⟩ := h3
    go_wp2_with fail
    refine Calls.go hb2 (hfl _ HG.out) ?_
    rintro e w3 rfl hb3' hb3
    clear c0 c1 c2 c3 c4 c5 c6 c7 c8 c9 c10
    have HBX := Lib.hid (HBX.out.mono hb3')
    have HG := Lib.hid (rdLk.mono HG.out hb3')
    obtain ⟨c0, c1, c2, c3, c4, c5, c6, c7, c8, c9, c10⟩ := HBX.out
    simp only at c0 c1 c2 c3 c4 c5 c6 c7 c8 c9 c10
    clear hb3' hb2 hfl
    go_wp2_with fail
    refine Calls.go hb3 (hon _ HG.out) ?_
    rintro e w4 rfl hb4' hb4
    clear c0 c1 c2 c3 c4 c5 c6 c7 c8 c9 c10
    have HBX := Lib.hid (HBX.out.mono hb4')
    have HG := Lib.hid (rdLk.mono HG.out hb4')
    obtain ⟨c0, c1, c2, c3, c4, c5, c6, c7, c8, c9, c10⟩ := HBX.out
    simp only at c0 c1 c2 c3 c4 c5 c6 c7 c8 c9 c10
    clear hb4' hb3 hon
    go_wp2_with fail
    refine Calls.go hb4 (hrv _ HG.out) ?_
    rintro e w5 rfl hb5' hb5
    clear c0 c1 c2 c3 c4 c5 c6 c7 c8 c9 c10
    have HBX := Lib.hid (HBX.out.mono hb5')
    have HG := Lib.hid (rdLk.mono HG.out hb5')
    obtain ⟨c0, c1, c2, c3, c4, c5, c6, c7, c8, c9, c10⟩ := HBX.out
    simp only at c0 c1 c2 c3 c4 c5 c6 c7 c8 c9 c10
    clear hb5' hb4 hrv
    go_wp2_with fail
    refine Calls.go hb5 (hpv _ HG.out) ?_
    rintro e w6 rfl hb6' hb6
    clear c0 c1 c2 c3 c4 c5 c6 c7 c8 c9 c10
    have HBX := Lib.hid (HBX.out.mono hb6')
    have HG := Lib.hid (rdLk.mono HG.out hb6')
    obtain ⟨c0, c1, c2, c3, c4, c5, c6, c7, c8, c9, c10⟩ := HBX.out
    simp only at c0 c1 c2 c3 c4 c5 c6 c7 c8 c9 c10
    clear hb6' hb5 hpv
    go_wp2_with fail
    go_ret
    exact ⟨rfl, hb6⟩
  cases h1 : btwB s 0 1000
  · have h2 := HFL.out.symm.trans (show flM _ s d = (0, 2) from by simp [flM, HPB.out, h1])
    simp only [Prod.mk.injEq] at h2
    obtain ⟨rfl, rfl⟩ := h2
    rw [h1] at hset
    go_wp2_with fail
    refine Calls.go hb2 (hfl _ HG.out) ?_
    rintro e w3 rfl hb3' hb3
    clear c0 c1 c2 c3 c4 c5 c6 c7 c8 c9 c10
    have HBX := Lib.hid (HBX.out.mono hb3')
    have HG := Lib.hid (rdLk.mono HG.out hb3')
    obtain ⟨c0, c1, c2, c3, c4, c5, c6, c7, c8, c9, c10⟩ := HBX.out
    simp only at c0 c1 c2 c3 c4 c5 c6 c7 c8 c9 c10
    clear hb3' hb2 hfl
    go_wp2_with fail
    refine Calls.go hb3 (hon _ HG.out) ?_
    rintro e w4 rfl hb4' hb4
    clear c0 c1 c2 c3 c4 c5 c6 c7 c8 c9 c10
    have HBX := Lib.hid (HBX.out.mono hb4')
    have HG := Lib.hid (rdLk.mono HG.out hb4')
    obtain ⟨c0, c1, c2, c3, c4, c5, c6, c7, c8, c9, c10⟩ := HBX.out
    simp only at c0 c1 c2 c3 c4 c5 c6 c7 c8 c9 c10
    clear hb4' hb3 hon
    go_wp2_with fail
    refine Calls.go hb4 (hrv _ HG.out) ?_
    rintro e w5 rfl hb5' hb5
    clear c0 c1 c2 c3 c4 c5 c6 c7 c8 c9 c10
    have HBX := Lib.hid (HBX.out.mono hb5')
    have HG := Lib.hid (rdLk.mono HG.out hb5')
    obtain ⟨c0, c1, c2, c3, c4, c5, c6, c7, c8, c9, c10⟩ := HBX.out
    simp only at c0 c1 c2 c3 c4 c5 c6 c7 c8 c9 c10
    clear hb5' hb4 hrv
    go_wp2_with fail
    refine Calls.go hb5 (hpv _ HG.out) ?_
    rintro e w6 rfl hb6' hb6
    clear c0 c1 c2 c3 c4 c5 c6 c7 c8 c9 c10
    have HBX := Lib.hid (HBX.out.mono hb6')
    have HG := Lib.hid (rdLk.mono HG.out hb6')
    obtain ⟨c0, c1, c2, c3, c4, c5, c6, c7, c8, c9, c10⟩ := HBX.out
    simp only at c0 c1 c2 c3 c4 c5 c6 c7 c8 c9 c10
    clear hb6' hb5 hpv
    go_wp2_with fail
    refine (hset _).mono ?_
    rintro _ _ ⟨rfl, rfl⟩
    clear hset hdep hrf
    cases hl : levB n
    · have h3 := HON.out.symm.trans (show onM _ was n = (false, 2) from by simp only [onM, HPB.out, hl]; rfl)
      simp only [Prod.mk.injEq] at h3
      obtain ⟨rfl, rfl⟩ := h3
      rw [hl] at hlev
      go_wp2_with fail
      refine (hlev _).mono ?_
      rintro _ _ ⟨rfl, rfl⟩
      go_wp2_with fail
      go_ret
      exact ⟨rfl, hb6⟩
    · have h3 := HON.out.symm.trans (show onM _ was n = (onB up dn was n, 0) from by simp only [onM, HPB.out, hl]; rfl)
      simp only [Prod.mk.injEq] at h3
      obtain ⟨h3, rfl⟩ := h3
      rw [← h3] at hron
      rw [hl] at hlev
      clear h3
      cases NOW
      all_goals
        go_wp2_with fail
        refine (hlev _).mono ?_
        rintro _ _ ⟨rfl, rfl⟩
        go_wp2_with fail
        refine Calls.go hb6 (hron _) ?_
        rintro e w9 rfl _ hb9
        go_wp2_with fail
        go_ret
        exact ⟨rfl, hb9⟩
  cases hdd : btwB d 0 4194304
  · have h2 := HFL.out.symm.trans (show flM _ s d = (0, 2) from by simp [flM, HPB.out, h1, hdd])
    simp only [Prod.mk.injEq] at h2
    obtain ⟨rfl, rfl⟩ := h2
    rw [h1] at hset
    rw [hdd] at hdep
    go_wp2_with fail
    refine Calls.go hb2 (hfl _ HG.out) ?_
    rintro e w3 rfl hb3' hb3
    clear c0 c1 c2 c3 c4 c5 c6 c7 c8 c9 c10
    have HBX := Lib.hid (HBX.out.mono hb3')
    have HG := Lib.hid (rdLk.mono HG.out hb3')
    obtain ⟨c0, c1, c2, c3, c4, c5, c6, c7, c8, c9, c10⟩ := HBX.out
    simp only at c0 c1 c2 c3 c4 c5 c6 c7 c8 c9 c10
    clear hb3' hb2 hfl
    go_wp2_with fail
    refine Calls.go hb3 (hon _ HG.out) ?_
    rintro e w4 rfl hb4' hb4
    clear c0 c1 c2 c3 c4 c5 c6 c7 c8 c9 c10
    have HBX := Lib.hid (HBX.out.mono hb4')
    have HG := Lib.hid (rdLk.mono HG.out hb4')
    obtain ⟨c0, c1, c2, c3, c4, c5, c6, c7, c8, c9, c10⟩ := HBX.out
    simp only at c0 c1 c2 c3 c4 c5 c6 c7 c8 c9 c10
    clear hb4' hb3 hon
    go_wp2_with fail
    refine Calls.go hb4 (hrv _ HG.out) ?_
    rintro e w5 rfl hb5' hb5
    clear c0 c1 c2 c3 c4 c5 c6 c7 c8 c9 c10
    have HBX := Lib.hid (HBX.out.mono hb5')
    have HG := Lib.hid (rdLk.mono HG.out hb5')
    obtain ⟨c0, c1, c2, c3, c4, c5, c6, c7, c8, c9, c10⟩ := HBX.out
    simp only at c0 c1 c2 c3 c4 c5 c6 c7 c8 c9 c10
    clear hb5' hb4 hrv
    go_wp2_with fail
    refine Calls.go hb5 (hpv _ HG.out) ?_
    rintro e w6 rfl hb6' hb6
    clear c0 c1 c2 c3 c4 c5 c6 c7 c8 c9 c10
    have HBX := Lib.hid (HBX.out.mono hb6')
    have HG := Lib.hid (rdLk.mono HG.out hb6')
    obtain ⟨c0, c1, c2, c3, c4, c5, c6, c7, c8, c9, c10⟩ := HBX.out
    simp only at c0 c1 c2 c3 c4 c5 c6 c7 c8 c9 c10
    clear hb6' hb5 hpv
    go_wp2_with fail
    refine (hset _).mono ?_
    rintro _ _ ⟨rfl, rfl⟩
    go_wp2_with fail
    refine (hdep _).mono ?_
    rintro _ _ ⟨rfl, rfl⟩
    clear hset hdep hrf
    cases hl : levB n
    · have h3 := HON.out.symm.trans (show onM _ was n = (false, 2) from by simp only [onM, HPB.out, hl]; rfl)
      simp only [Prod.mk.injEq] at h3
      obtain ⟨rfl, rfl⟩ := h3
      rw [hl] at hlev
      go_wp2_with fail
      refine (hlev _).mono ?_
      rintro _ _ ⟨rfl, rfl⟩
      go_wp2_with fail
      go_ret
      exact ⟨rfl, hb6⟩
    · have h3 := HON.out.symm.trans (show onM _ was n = (onB up dn was n, 0) from by simp only [onM, HPB.out, hl]; rfl)
      simp only [Prod.mk.injEq] at h3
      obtain ⟨h3, rfl⟩ := h3
      rw [← h3] at hron
      rw [hl] at hlev
      clear h3
      cases NOW
      all_goals
        go_wp2_with fail
        refine (hlev _).mono ?_
        rintro _ _ ⟨rfl, rfl⟩
        go_wp2_with fail
        refine Calls.go hb6 (hron _) ?_
        rintro e w9 rfl _ hb9
        go_wp2_with fail
        go_ret
        exact ⟨rfl, hb9⟩
  have h3 := HFL.out.symm.trans (show flM _ s d = (flV cu.xs s d, 0) from by simp [flM, HPB.out, h1, hdd])
  simp only [Prod.mk.injEq] at h3
  obtain ⟨h3, rfl⟩ := h3
  rw [h1] at hset
  rw [hdd] at hdep
  simp only [btwB, Bool.and_eq_true, decide_eq_true_eq] at h1
  have hrf := fun W hW => hrf W hW (pumpB_curve HPB.out) h1.1 h1.2
  rw [← h3] at hrf
  have hse : (FL != FL) = false := by simp
  clear h3 h1 hdd
  go_wp2_with fail
  refine Calls.go hb2 (hfl _ HG.out) ?_
  rintro e w3 rfl hb3' hb3
  clear c0 c1 c2 c3 c4 c5 c6 c7 c8 c9 c10
  have HBX := Lib.hid (HBX.out.mono hb3')
  have HG := Lib.hid (rdLk.mono HG.out hb3')
  obtain ⟨c0, c1, c2, c3, c4, c5, c6, c7, c8, c9, c10⟩ := HBX.out
  simp only at c0 c1 c2 c3 c4 c5 c6 c7 c8 c9 c10
  clear hb3' hb2 hfl
  go_wp2_with fail
  refine Calls.go hb3 (hon _ HG.out) ?_
  rintro e w4 rfl hb4' hb4
  clear c0 c1 c2 c3 c4 c5 c6 c7 c8 c9 c10
  have HBX := Lib.hid (HBX.out.mono hb4')
  have HG := Lib.hid (rdLk.mono HG.out hb4')
  obtain ⟨c0, c1, c2, c3, c4, c5, c6, c7, c8, c9, c10⟩ := HBX.out
  simp only at c0 c1 c2 c3 c4 c5 c6 c7 c8 c9 c10
  clear hb4' hb3 hon
  go_wp2_with fail
  refine Calls.go hb4 (hrv _ HG.out) ?_
  rintro e w5 rfl hb5' hb5
  clear c0 c1 c2 c3 c4 c5 c6 c7 c8 c9 c10
  have HBX := Lib.hid (HBX.out.mono hb5')
  have HG := Lib.hid (rdLk.mono HG.out hb5')
  obtain ⟨c0, c1, c2, c3, c4, c5, c6, c7, c8, c9, c10⟩ := HBX.out
  simp only at c0 c1 c2 c3 c4 c5 c6 c7 c8 c9 c10
  clear hb5' hb4 hrv
  go_wp2_with fail
  refine Calls.go hb5 (hpv _ HG.out) ?_
  rintro e w6 rfl hb6' hb6
  clear c0 c1 c2 c3 c4 c5 c6 c7 c8 c9 c10
  have HBX := Lib.hid (HBX.out.mono hb6')
  have HG := Lib.hid (rdLk.mono HG.out hb6')
  obtain ⟨c0, c1, c2, c3, c4, c5, c6, c7, c8, c9, c10⟩ := HBX.out
  simp only at c0 c1 c2 c3 c4 c5 c6 c7 c8 c9 c10
  clear hb6' hb5 hpv
  go_wp2_with fail
  refine (hset _).mono ?_
  rintro _ _ ⟨rfl, rfl⟩
  go_wp2_with fail
  refine (hdep _).mono ?_
  rintro _ _ ⟨rfl, rfl⟩
  go_wp2_with fail
  refine Calls.go hb6 (hrf _ HG.out) ?_
  rintro e w7 rfl hb7' hb7
  clear c0 c1 c2 c3 c4 c5 c6 c7 c8 c9 c10
  have HBX := Lib.hid (HBX.out.mono hb7')
  have HG := Lib.hid (rdLk.mono HG.out hb7')
  obtain ⟨c0, c1, c2, c3, c4, c5, c6, c7, c8, c9, c10⟩ := HBX.out
  simp only at c0 c1 c2 c3 c4 c5 c6 c7 c8 c9 c10
  clear hb7' hb6 hrf hset hdep
  cases hl : levB n
  · have h3 := HON.out.symm.trans (show onM _ was n = (false, 2) from by simp only [onM, HPB.out, hl]; rfl)
    simp only [Prod.mk.injEq] at h3
    obtain ⟨rfl, rfl⟩ := h3
    rw [hl] at hlev
    go_wp2_with fail
    refine (hlev _).mono ?_
    rintro _ _ ⟨rfl, rfl⟩
    go_wp2_with fail
    go_ret
    exact ⟨rfl, hb7⟩
  · have h3 := HON.out.symm.trans (show onM _ was n = (onB up dn was n, 0) from by simp only [onM, HPB.out, hl]; rfl)
    simp only [Prod.mk.injEq] at h3
    obtain ⟨h3, rfl⟩ := h3
    rw [← h3] at hron
    rw [hl] at hlev
    clear h3
    cases NOW
    all_goals
      go_wp2_with fail
      refine (hlev _).mono ?_
      rintro _ _ ⟨rfl, rfl⟩
      go_wp2_with fail
      refine Calls.go hb7 (hron _) ?_
      rintro e w9 rfl _ hb9
      go_wp2_with fail
      go_ret
      exact ⟨rfl, hb9⟩

/-! ### The row -/
set_option maxRecDepth 100000 in
theorem lifted (os : Os) (started : os.Started) (H : Type) (enc : TypeId × Value → H) :
    ReturnsInHanded {} Tryz.checked os 3 .any (Rows.pumpsFlowsSpec.pre6 enc Tryz.prog Tryz.f3 Rows.pumpsFlowsRow.domain false) (Rows.pumpsFlowsSpec.post enc Tryz.prog Tryz.f3 false true false false) := by
  refine returnsInHanded_of_change (C := Tryz.checked) own started (by kernel_rfl) Tryz.func3
    (ChangeSpec.witness6 (enc := enc) (C := Tryz.checked) false ⟨#[], #[.agg #[.string ⟨#[]⟩, .string ⟨#[]⟩, .string ⟨#[]⟩, .int .i64 0, .int .i64 0, .int .i64 0, .int .i64 0, .string ⟨#[]⟩, .int .i64 0, .int .i64 0, .slice none 0 0], .int .i64 0, .int .i64 0, .bool false, .int .i64 0], []⟩ 8 (by kernel_rfl) (by kernel_rfl) (by kernel_rfl) (by kernel_rfl)) ?_
  intro W base args ds gs before hval0 hW hcnd _
  have hval : ∀ (j : Nat) t v, Tryz.f3.params[j]? = some t → args[j]? = some v → Value.okWide Tryz.prog W .any base t v := hval0
  have hW' := hW
  obtain ⟨p, q, hA0, hV, rfl, hfz, hnd⟩ := hW
  have hA : DataW.TrodAll enc Tryz.prog W 0 (fun _ => true) true Tryz.f3.params.toList args.toList ds p := hA0
  rw [Tryz.params3] at hA hval
  obtain ⟨v0, vs0, d0, ds0, p0, q0, hargs, rfl, rfl, h0, r0⟩ := trodAll_cons hA
  obtain ⟨v1, vs1, d1, ds1, p1, q1, rfl, rfl, rfl, h1, r1⟩ := trodAll_cons r0
  obtain ⟨v2, vs2, d2, ds2, p2, q2, rfl, rfl, rfl, h2, r2⟩ := trodAll_cons r1
  obtain ⟨v3, vs3, d3, ds3, p3, q3, rfl, rfl, rfl, h3, r3⟩ := trodAll_cons r2
  obtain ⟨v4, vs4, d4, ds4, p4, q4, rfl, rfl, rfl, h4, r4⟩ := trodAll_cons r3
  obtain ⟨rfl, rfl, rfl⟩ := trodAll_nil r4
  obtain rfl : args = #[v0, v1, v2, v3, v4] := by cases args; simp_all
  obtain ⟨rfl, rfl⟩ := trodVars_none hV
  have k0 := h0
  have lt0 : ∀ x ∈ p0, x.block < W.heap.size := by obtain ⟨m, hm⟩ := k0; exact DataW.trod_lt m _ _ _ hm
  obtain ⟨x0, w0⟩ := openLk (hval 0 25 v0 rfl rfl) h0
  obtain ⟨a1, rfl, rfl, rfl, w1⟩ := open_int Tryz.underlying3 (hval 1 3 v1 rfl rfl) h1
  obtain ⟨a2, rfl, rfl, rfl, w2⟩ := open_int Tryz.underlying3 (hval 2 3 v2 rfl rfl) h2
  obtain ⟨a3, rfl, rfl, rfl⟩ := open_bool Tryz.underlying4 (hval 3 4 v3 rfl rfl) h3
  obtain ⟨a4, rfl, rfl, rfl, w4⟩ := open_int Tryz.underlying3 (hval 4 3 v4 rfl rfl) h4
  clear hA0 hval0
  refine (walk v0 x0 a1 a2 a3 a4 W w0 w1 w2 w4).mono fun e W' ⟨he, bel⟩ => ?_
  subst he
  exact ⟨_, rfl, _, _, _, [], _, [], hW', trodAll_mk1 (shut_bool Tryz.underlying4 _), (trodAll_cons_mk (Below.trod laidOut (by kernel_rfl) (of_decide_eq_true (by kernel_rfl)) k0 bel lt0) (trodAll_cons_mk (shut_int Tryz.underlying3 w1) (trodAll_cons_mk (shut_int Tryz.underlying3 w2) (trodAll_cons_mk (shut_bool Tryz.underlying4 _) (trodAll_cons_mk (shut_int Tryz.underlying3 w4) trodAll_mk0))))), rfl, bel.frame _, fun h => by cases h⟩

theorem over : Rows.pumpsFlowsRow.holds Tryz.pinned (OpenSpec.ofChange Rows.pumpsFlowsSpec) :=
  OpenClaim.holds_of_wide 3 Tryz.f3 rfl rfl rfl rfl rfl rfl rfl ⟨rfl, rfl, rfl, rfl, rfl⟩ rfl rfl rfl rfl rfl (by kernel_rfl) Tryz.func3 (by kernel_rfl)
    (of_decide_eq_true (by kernel_rfl)) (by unfold Func.isWrapper; first | (rw [if_pos (by decide +kernel)]; kernel_rfl) | (rw [if_neg (by decide +kernel)]; exact ⟨rfl, rfl⟩))
    (fun os started H enc _ => lifted os started H enc)

end Go.Proofs.YtmpegbebjefkaaaGreat.pumpsFlows
namespace Go.Proofs.YtmpegbebjefkaaaGreat
/-- The statement. -/
theorem pumpsFlows_holds : Rows.PumpsFlowsSaid := pumpsFlows.over
#print axioms pumpsFlows_holds
end Go.Proofs.YtmpegbebjefkaaaGreat
