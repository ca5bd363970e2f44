/- The law DigraphLoops returns true for every number and every list of edges, and leaves its arguments as they were. Conditions: none beyond the row's own. -/
import Derived.Test.YthnhlaljnkdmfaaRows
import Derived.WalkKit
import Derived.ProofKit
import Derived.OpenShut
import Derived.ShutString
import Derived.ChangeOld
import Derived.Below
import Derived.Test.YthnhlaljnkdmfaaDrl
import Derived.Test.YthnhlaljnkdmfaaDtr
import Derived.Test.YthnhlaljnkdmfaaDge
import Derived.Test.YthnhlaljnkdmfaaRowk
namespace Go.Proofs.Ythnhlaljnkdmfaa.digraphLoops
open Go.ChangeShapes Go.WideShapes Go.ChangeAt Go.RowKit
set_option linter.unusedVariables false
set_option linter.unusedSimpArgs false
open Go.ChangeMaps (open_string shut_string)
set_option linter.unusedVariables false

theorem own : ownKnob Try.prog.godebug = none := by kernel_rfl
theorem laidOut : laidOutB Try.prog = true := by kernel_rfl

set_option maxRecDepth 100000 in
set_option maxHeartbeats 16000000 in
theorem walk (n : Int) (v1 : Value) (x1 : Sl (Int × Int)) (w : World) (w0 : (Lit.int .i64 n).wf = true) (w1 : v1 = vSl x1 ∧ gSl eEi 2 gEd w x1) :
    Calls Try.prog 5 #[.int .i64 n, v1] w fun e w' => e = .returned (.bool true) ∧ Below w.heap.size w w' := by
  obtain ⟨rfl, hx⟩ := w1
  have hE : IsEis w (vSl x1) x1.xs := hx.isL
  clear hx w0
  obtain ⟨xa, xc, E⟩ := x1
  simp only at hE
  have hlg := fun W => large_any n xa E.length xc W
  have hvr := fun W (hW : IsEis W (vSl ⟨xa, xc, E⟩) E) => r8valid_any n E _ W hW
  go_enter Try.func5, Try.ntmps5
  go_wp2_with fail
  refine Calls.to (d8awake_any _) ?_
  rintro e w1 rfl hb1
  have hE1 := hE.mono hb1
  go_wp2_with fail
  refine (hlg _).mono ?_
  rintro e w1' ⟨rfl, rfl⟩
  clear hlg
  generalize largeB n E.length = lg
  cases lg
  rotate_left
  · go_wp2_with fail
    go_ret
    exact ⟨rfl, hb1⟩
  cases hvb : validB n E
  · rw [hvb] at hvr
    go_wp2_with fail
    refine Calls.go hb1 (loop_bad n E _ _ hE1 hvb) ?_
    rintro e w2 rfl hb2 hbb2
    go_wp2_with fail
    refine Calls.go hbb2 (tree_bad n E _ _ (hE.mono hbb2) hvb) ?_
    rintro e w3 rfl hb3 hbb3
    go_wp2_with fail
    refine Calls.go hbb3 (r8tree_bad n E _ _ (hE.mono hbb3) hvb) ?_
    rintro e w4 rfl hb4 hbb4
    go_wp2_with fail
    refine Calls.go hbb4 (hvr _ (hE.mono hbb4)) ?_
    rintro e w5 rfl hb5 hbb5
    go_wp2_with fail
    go_ret
    exact ⟨rfl, hbb5⟩
  · rw [hvb] at hvr
    obtain ⟨N, G, rfl, rfl, hv, hN, hG⟩ := validB_nat hvb
    have hEG := isL_edI.1 hE
    have ht1 := fun W (hW : IsEds W (vSl ⟨xa, xc, edI G⟩) G) => tree_ok N G _ W hW hv hN hG
    have ht2 := fun W (hW : IsEds W (vSl ⟨xa, xc, edI G⟩) G) => r8tree_ok N G _ W hW hv hN hG
    generalize treeB N G = tb at *
    go_wp2_with fail
    refine Calls.go hb1 (loop_ok N G _ _ (hEG.mono hb1) hv hN hG) ?_
    rintro e w2 ⟨u, c, rfl, hor⟩ hb2 hbb2
    go_wp2_with fail
    refine Calls.go hbb2 (ht1 _ (hEG.mono hbb2)) ?_
    rintro e w3 rfl hb3 hbb3
    go_wp2_with fail
    refine Calls.go hbb3 (ht2 _ (hEG.mono hbb3)) ?_
    rintro e w4 rfl hb4 hbb4
    cases tb
    all_goals
      go_wp2_with fail
      refine Calls.go hbb4 (hvr _ (isL_edI.2 (hEG.mono hbb4))) ?_
      rintro e w5 rfl hb5 hbb5
      go_wp2_with fail
      refine Calls.go hbb5 (r8loop_any N G _ _ (hEG.mono hbb5) hv hN hG) ?_
      rintro e w6 ⟨ru, rfl, hRB⟩ hb6 hbb6
      rcases hor with ⟨h0, rfl, rfl⟩ | ⟨h0, rfl, hO⟩
      · rcases hRB with ⟨h1, rfl⟩ | ⟨h1, _⟩
        · go_wp2_with fail
          go_ret
          exact ⟨rfl, hbb6⟩
        · rw [h0] at h1; simp at h1
      · rcases hRB with ⟨h1, rfl⟩ | ⟨h1, hR⟩
        · rw [h1] at h0; simp at h0
        · have iO := ((((hO.below hb3).below hb4).below hb5).below hb6).isL (fun _ => rfl)
          have iR := hR.isL (fun _ => rfl)
          obtain ⟨ra, rc, rfl⟩ := hR.isSlice
          have HL : Hid (0 < (Gp.lopL N G).length) := Lib.hid h0
          clear hO hR h1 h0
          obtain ⟨L, hL⟩ : ∃ L, L = Gp.lopL N G := ⟨_, rfl⟩
          rw [← hL] at iO iR HL ⊢
          clear hL
          have hL0 : ((L.length : Int) == 0) = false := by rw [beq_eq_false_iff_ne]; have := HL.out; omega
          have hL1 : (L.length == 0) = false := by rw [beq_eq_false_iff_ne]; have := HL.out; omega
          go_wp2_with fail
          refine Calls.go hbb6 (eqN_same _ _ _ _ iO iR) ?_
          rintro e w7 rfl hb7 hbb7
          go_wp2_with fail
          go_ret
          exact ⟨rfl, hbb7⟩

/-! ### The row -/
set_option maxRecDepth 100000 in
theorem lifted (os : Os) (started : os.Started) (H : Type) (enc : TypeId × Value → H) :
    ReturnsInHanded {} Try.checked os 5 .any (Rows.digraphLoopsSpec.pre6 enc Try.prog Try.f5 Rows.digraphLoopsRow.domain false) (Rows.digraphLoopsSpec.post enc Try.prog Try.f5 false true false false) := by
  refine returnsInHanded_of_change (C := Try.checked) own started (by kernel_rfl) Try.func5
    (ChangeSpec.witness6 (enc := enc) (C := Try.checked) false ⟨#[], #[.int .i64 0, .slice none 0 0], []⟩ 8 (by kernel_rfl) (by kernel_rfl) (by kernel_rfl) (by kernel_rfl)) ?_
  intro W base args ds gs before hval0 hW hcnd _
  have hval : ∀ (j : Nat) t v, Try.f5.params[j]? = some t → args[j]? = some v → Value.okWide Try.prog W .any base t v := hval0
  have hW' := hW
  obtain ⟨p, q, hA0, hV, rfl, hfz, hnd⟩ := hW
  have hA : DataW.TrodAll enc Try.prog W 0 (fun _ => true) true Try.f5.params.toList args.toList ds p := hA0
  rw [Try.params5] at hA hval
  obtain ⟨v0, vs0, d0, ds0, p0, q0, hargs, rfl, rfl, h0, r0⟩ := trodAll_cons hA
  obtain ⟨v1, vs1, d1, ds1, p1, q1, rfl, rfl, rfl, h1, r1⟩ := trodAll_cons r0
  obtain ⟨rfl, rfl, rfl⟩ := trodAll_nil r1
  obtain rfl : args = #[v0, v1] := by cases args; simp_all
  obtain ⟨rfl, rfl⟩ := trodVars_none hV
  obtain ⟨a0, rfl, rfl, rfl, w0⟩ := open_int Try.underlying3 (hval 0 3 v0 rfl rfl) h0
  have k1 := h1
  have lt1 : ∀ x ∈ p1, x.block < W.heap.size := by obtain ⟨m, hm⟩ := k1; exact DataW.trod_lt m _ _ _ hm
  obtain ⟨x1, w1⟩ := openEds (hval 1 22 v1 rfl rfl) h1
  clear hA0 hval0
  refine (walk a0 v1 x1 W w0 w1).mono fun e W' ⟨he, bel⟩ => ?_
  subst he
  exact ⟨_, rfl, _, _, _, [], _, [], hW', trodAll_mk1 (shut_bool Try.underlying4 _), (trodAll_cons_mk (shut_int Try.underlying3 w0) (trodAll_cons_mk (Below.trod laidOut (by kernel_rfl) (of_decide_eq_true (by kernel_rfl)) k1 bel lt1) trodAll_mk0)), rfl, bel.frame _, fun h => by cases h⟩

theorem over : Rows.digraphLoopsRow.holds Try.pinned (OpenSpec.ofChange Rows.digraphLoopsSpec) :=
  OpenClaim.holds_of_wide 5 Try.f5 rfl rfl rfl rfl rfl rfl rfl ⟨rfl, rfl, rfl, rfl, rfl⟩ rfl rfl rfl rfl rfl (by kernel_rfl) Try.func5 (by kernel_rfl)
    (of_decide_eq_true (by kernel_rfl)) (by unfold Func.isWrapper; first | (rw [if_pos (by decide +kernel)]; kernel_rfl) | (rw [if_neg (by decide +kernel)]; exact ⟨rfl, rfl⟩))
    (fun os started H enc _ => lifted os started H enc)

end Go.Proofs.Ythnhlaljnkdmfaa.digraphLoops
namespace Go.Proofs.Ythnhlaljnkdmfaa
/-- The statement. -/
theorem digraphLoops_holds : Rows.DigraphLoopsSaid := digraphLoops.over
#print axioms digraphLoops_holds
end Go.Proofs.Ythnhlaljnkdmfaa
