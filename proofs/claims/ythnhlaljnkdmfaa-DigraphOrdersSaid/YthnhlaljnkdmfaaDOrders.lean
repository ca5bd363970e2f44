/- The law DigraphOrders returns true for every number and every list of edges, and leaves its arguments as they were. Conditions: none beyond the row's own. -/
import Derived.Test.YthnhlaljnkdmfaaRows
import Derived.WalkKit
import Derived.ProofKit
import Derived.OpenShut
import Derived.ShutString
import Derived.ChangeOld
import Derived.Below
import Derived.Test.YthnhlaljnkdmfaaDrd
import Derived.Test.YthnhlaljnkdmfaaDge
import Derived.Test.YthnhlaljnkdmfaaRowk
namespace Go.Proofs.Ythnhlaljnkdmfaa.digraphOrders
open Go.ChangeShapes Go.WideShapes Go.ChangeAt Go.RowKit
set_option linter.unusedVariables false
set_option linter.unusedSimpArgs false
open Go.ChangeMaps (open_string shut_string)
set_option linter.unusedVariables false

theorem own : ownKnob Try.prog.godebug = none := by kernel_rfl
theorem laidOut : laidOutB Try.prog = true := by kernel_rfl

set_option maxRecDepth 100000 in
set_option maxHeartbeats 16000000 in
theorem walk (n : Int) (v1 : Value) (x1 : Sl (Int × Int)) (w : World) (w0 : (Lit.int .i64 n).wf = true) (w1 : v1 = vSl x1 ∧ gSl eEi 2 gEd w x1) :
    Calls Try.prog 3 #[.int .i64 n, v1] w fun e w' => e = .returned (.bool true) ∧ Below w.heap.size w w' := by
  obtain ⟨rfl, hx⟩ := w1
  have hE : IsEis w (vSl x1) x1.xs := hx.isL
  clear hx w0
  obtain ⟨xa, xc, E⟩ := x1
  simp only at hE
  have hlg := fun W => large_any n xa E.length xc W
  have hva := fun W (hW : IsEis W (vSl ⟨xa, xc, E⟩) E) => valid_any n E _ W hW
  have hvr := fun W (hW : IsEis W (vSl ⟨xa, xc, E⟩) E) => r8valid_any n E _ W hW
  go_enter Try.func3, Try.ntmps3
  go_wp2_with fail
  refine Calls.to (d8awake_any _) ?_
  rintro e w1 rfl hb1
  have hE1 := hE.mono hb1
  go_wp2_with fail
  refine (hlg _).mono ?_
  rintro e w1' ⟨rfl, rfl⟩
  clear hlg
  generalize largeB n E.length = lg
  cases lg
  rotate_left
  · go_wp2_with fail
    go_ret
    exact ⟨rfl, hb1⟩
  cases hvb : validB n E
  · rw [hvb] at hva hvr
    go_wp2_with fail
    refine Calls.to (order_bad n E _ _ hE1 hvb) ?_
    rintro e w2 rfl hb2
    have hE2 := hE1.mono hb2
    have hbb2 := hb1.trans (hb2.mono hb1.size)
    go_wp2_with fail
    refine Calls.to (depths_bad n E _ _ hE2 hvb) ?_
    rintro e w3 rfl hb3
    have hE3 := hE2.mono hb3
    have hbb3 := hbb2.trans (hb3.mono hbb2.size)
    go_wp2_with fail
    refine Calls.to (hva _ hE3) ?_
    rintro e w4 rfl hb4
    have hE4 := hE3.mono hb4
    have hbb4 := hbb3.trans (hb4.mono hbb3.size)
    go_wp2_with fail
    refine Calls.to (hvr _ hE4) ?_
    rintro e w5 rfl hb5
    have hE5 := hE4.mono hb5
    have hbb5 := hbb4.trans (hb5.mono hbb4.size)
    go_wp2_with fail
    refine Calls.to (hvr _ hE5) ?_
    rintro e w6 rfl hb6
    have hbb6 := hbb5.trans (hb6.mono hbb5.size)
    go_wp2_with fail
    go_ret
    exact ⟨rfl, hbb6⟩
  · rw [hvb] at hva hvr
    obtain ⟨N, G, rfl, rfl, hv, hN, hG⟩ := validB_nat hvb
    have hF1 := isL_edI.1 hE1
    go_wp2_with fail
    refine Calls.to (order_ok N G _ _ hF1 hv hN hG) ?_
    rintro e w2 ⟨u, c, rfl, hor⟩ hb2
    have hF2 := hF1.mono hb2
    have hbb2 := hb1.trans (hb2.mono hb1.size)
    go_wp2_with fail
    refine Calls.to (depths_ok N G _ _ hF2 hv hN hG) ?_
    rintro e w3 ⟨ud, cd, rfl, hord⟩ hb3
    have hF3 := hF2.mono hb3
    have hbb3 := hbb2.trans (hb3.mono hbb2.size)
    go_wp2_with fail
    refine Calls.to (hva _ (isL_edI.2 hF3)) ?_
    rintro e w4 rfl hb4
    have hF4 := hF3.mono hb4
    have hbb4 := hbb3.trans (hb4.mono hbb3.size)
    go_wp2_with fail
    refine Calls.to (hvr _ (isL_edI.2 hF4)) ?_
    rintro e w5 rfl hb5
    have hF5 := hF4.mono hb5
    have hbb5 := hbb4.trans (hb5.mono hbb4.size)
    go_wp2_with fail
    refine Calls.to (hvr _ (isL_edI.2 hF5)) ?_
    rintro e w6 rfl hb6
    have hF6 := hF5.mono hb6
    have hbb6 := hbb5.trans (hb6.mono hbb5.size)
    go_wp2_with fail
    refine Calls.to (r8order_any N G _ _ hF6 hv hN hG) ?_
    rintro e w7 ⟨ur, br, rfl, horr⟩ hb7
    have hF7 := hF6.mono hb7
    have hbb7 := hbb6.trans (hb7.mono hbb6.size)
    have hb26 : ∀ {α : Type} {enc : α → List Value} {u : Value} {xs : List α}, IsL enc 1 w2 u xs → IsL enc 1 w7 u xs := fun h => (((((h.mono hb3).mono hb4).mono hb5).mono hb6).mono hb7)
    have hb36 : ∀ {α : Type} {enc : α → List Value} {u : Value} {xs : List α}, IsL enc 1 w3 u xs → IsL enc 1 w7 u xs := fun h => ((((h.mono hb4).mono hb5).mono hb6).mono hb7)
    by_cases hac : (Gp.ordL N G).length = N
    · have hac1 : ¬ (Gp.ordL N G).length < N := by omega
      simp only [hac, true_and, hac1, false_and, or_false, Nat.lt_irrefl] at hor hord horr
      obtain ⟨rfl, hO⟩ := hor
      obtain ⟨rfl, hD⟩ := hord
      obtain ⟨rfl, hR⟩ := horr
      have iO := hb26 (hO.isL (fun _ => rfl))
      have iD := hb36 (hD.isL (fun _ => rfl))
      have iR := hR.isL (fun _ => rfl)
      have hAC := Lib.hid hac
      clear hO hD hR hb26 hb36 hac hac1
      go_wp2_with fail
      refine Calls.to (eqN_same _ _ _ _ iO iR) ?_
      rintro e w8 rfl hb8
      have hbb8 := hbb7.trans (hb8.mono hbb7.size)
      have iD8 := iD.mono hb8
      go_wp2_with fail
      refine Calls.to (r8depths_any N G _ _ (hF7.mono hb8) hv hN hG hAC.out) ?_
      rintro e w9 ⟨uq, rfl, hQ⟩ hb9
      have hbb9 := hbb8.trans (hb9.mono hbb8.size)
      go_wp2_with fail
      refine Calls.to (eqI_same _ _ _ _ (iD8.mono hb9) (hQ.isL (fun _ => rfl))) ?_
      rintro e w10 rfl hb10
      have hbb10 := hbb9.trans (hb10.mono hbb9.size)
      go_wp2_with fail
      go_ret
      exact ⟨rfl, hbb10⟩
    · have hle := (Gp.ordL_inv N G).len
      have hac1 : (Gp.ordL N G).length < N := by omega
      simp only [hac, false_and, hac1, true_and, false_or] at hor hord horr
      obtain ⟨rfl, rfl⟩ := hor
      obtain ⟨rfl, rfl⟩ := hord
      obtain ⟨rfl, rfl⟩ := horr
      clear hac hac1 hle hb26 hb36
      go_wp2_with fail
      go_ret
      exact ⟨rfl, hbb7⟩

/-! ### The row -/
set_option maxRecDepth 100000 in
theorem lifted (os : Os) (started : os.Started) (H : Type) (enc : TypeId × Value → H) :
    ReturnsInHanded {} Try.checked os 3 .any (Rows.digraphOrdersSpec.pre6 enc Try.prog Try.f3 Rows.digraphOrdersRow.domain false) (Rows.digraphOrdersSpec.post enc Try.prog Try.f3 false true false false) := by
  refine returnsInHanded_of_change (C := Try.checked) own started (by kernel_rfl) Try.func3
    (ChangeSpec.witness6 (enc := enc) (C := Try.checked) false ⟨#[], #[.int .i64 0, .slice none 0 0], []⟩ 8 (by kernel_rfl) (by kernel_rfl) (by kernel_rfl) (by kernel_rfl)) ?_
  intro W base args ds gs before hval0 hW hcnd _
  have hval : ∀ (j : Nat) t v, Try.f3.params[j]? = some t → args[j]? = some v → Value.okWide Try.prog W .any base t v := hval0
  have hW' := hW
  obtain ⟨p, q, hA0, hV, rfl, hfz, hnd⟩ := hW
  have hA : DataW.TrodAll enc Try.prog W 0 (fun _ => true) true Try.f3.params.toList args.toList ds p := hA0
  rw [Try.params3] at hA hval
  obtain ⟨v0, vs0, d0, ds0, p0, q0, hargs, rfl, rfl, h0, r0⟩ := trodAll_cons hA
  obtain ⟨v1, vs1, d1, ds1, p1, q1, rfl, rfl, rfl, h1, r1⟩ := trodAll_cons r0
  obtain ⟨rfl, rfl, rfl⟩ := trodAll_nil r1
  obtain rfl : args = #[v0, v1] := by cases args; simp_all
  obtain ⟨rfl, rfl⟩ := trodVars_none hV
  obtain ⟨a0, rfl, rfl, rfl, w0⟩ := open_int Try.underlying3 (hval 0 3 v0 rfl rfl) h0
  have k1 := h1
  have lt1 : ∀ x ∈ p1, x.block < W.heap.size := by obtain ⟨m, hm⟩ := k1; exact DataW.trod_lt m _ _ _ hm
  obtain ⟨x1, w1⟩ := openEds (hval 1 22 v1 rfl rfl) h1
  clear hA0 hval0
  refine (walk a0 v1 x1 W w0 w1).mono fun e W' ⟨he, bel⟩ => ?_
  subst he
  exact ⟨_, rfl, _, _, _, [], _, [], hW', trodAll_mk1 (shut_bool Try.underlying4 _), (trodAll_cons_mk (shut_int Try.underlying3 w0) (trodAll_cons_mk (Below.trod laidOut (by kernel_rfl) (of_decide_eq_true (by kernel_rfl)) k1 bel lt1) trodAll_mk0)), rfl, bel.frame _, fun h => by cases h⟩

theorem over : Rows.digraphOrdersRow.holds Try.pinned (OpenSpec.ofChange Rows.digraphOrdersSpec) :=
  OpenClaim.holds_of_wide 3 Try.f3 rfl rfl rfl rfl rfl rfl rfl ⟨rfl, rfl, rfl, rfl, rfl⟩ rfl rfl rfl rfl rfl (by kernel_rfl) Try.func3 (by kernel_rfl)
    (of_decide_eq_true (by kernel_rfl)) (by unfold Func.isWrapper; first | (rw [if_pos (by decide +kernel)]; kernel_rfl) | (rw [if_neg (by decide +kernel)]; exact ⟨rfl, rfl⟩))
    (fun os started H enc _ => lifted os started H enc)

end Go.Proofs.Ythnhlaljnkdmfaa.digraphOrders
namespace Go.Proofs.Ythnhlaljnkdmfaa
/-- The statement. -/
theorem digraphOrders_holds : Rows.DigraphOrdersSaid := digraphOrders.over
#print axioms digraphOrders_holds
end Go.Proofs.Ythnhlaljnkdmfaa
