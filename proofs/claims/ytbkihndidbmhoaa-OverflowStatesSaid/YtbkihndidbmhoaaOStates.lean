/- The law OverflowStates returns true for every list of states and every node, and leaves its arguments as they were. Conditions: none beyond the row's own. -/
import Derived.Test.YtbkihndidbmhoaaRows
import Derived.WalkKit
import Derived.ProofKit
import Derived.OpenShut
import Derived.ShutString
import Derived.ChangeOld
import Derived.Below
import Derived.Test.YtbkihndidbmhoaaOv6
import Derived.Test.YtbkihndidbmhoaaOv13
import Derived.Test.YtbkihndidbmhoaaRowk
namespace Go.Proofs.Ytbkihndidbmhoaa.overflowStates
open Go.ChangeShapes Go.WideShapes Go.ChangeAt Go.RowKit
set_option linter.unusedVariables false
set_option linter.unusedSimpArgs false
open Go.ChangeMaps (open_string shut_string)
set_option linter.unusedVariables false

theorem own : ownKnob Try.prog.godebug = none := by kernel_rfl
theorem laidOut : laidOutB Try.prog = true := by kernel_rfl

set_option maxRecDepth 100000 in
set_option maxHeartbeats 4000000 in
theorem walk (v0 : Value) (x0 : Sl St) (a1 : Int) (w : World) (w0 : v0 = vSl x0 ∧ gSl eSt 4 gSt w x0) (w1 : (Lit.int .i64 a1).wf = true) :
    Calls Try.prog 6 #[v0, .int .i64 a1] w fun e w' => e = .returned (.bool true) ∧ Below w.heap.size w w' := by
  obtain ⟨rfl, hg⟩ := w0
  have hv : IsSts w (vSl x0) x0.xs := hg.isL
  have hgs : ∀ x ∈ x0.xs, gSt w x := hg.2.2.2
  obtain ⟨a0, cap0, xs⟩ := x0
  simp only at hv hgs
  clear hg w1
  have HG := Lib.hid hgs
  clear hgs
  have later : ∀ W : World, Below w.heap.size w W → ∀ x ∈ xs, gSt W x := fun W hb x hx => rdSt.mono (HG.out x hx) hb
  have LATER := Lib.hid later
  clear later
  cases hc : crowdB xs
  · have HC := Lib.hid hc
    clear hc
    go_enter Try.func6, Try.ntmps6
    go_wp2_with fail
    refine Calls.to (awake_any w) ?_
    rintro e w1 rfl hb1
    go_wp2_with fail
    refine Calls.go hb1 (crowded_any xs _ _ (hv.mono hb1)) ?_
    rintro e w2 rfl _ hb2
    rw [HC.out]
    go_wp2_with fail
    refine Calls.go hb2 (of_any xs _ a1 _ (hv.mono hb2) (LATER.out _ hb2)) ?_
    rintro e w3 ⟨v1, rfl, hown1⟩ _ hb3
    have hs1 := hown1.isL eEv_len
    clear hown1
    go_wp2_with fail
    refine Calls.go hb3 (total_any xs _ _ (hv.mono hb3) (LATER.out _ hb3)) ?_
    rintro e w4 ht4 hb4' hb4
    have hs1 := hs1.mono hb4'
    unfold TotIs at ht4
    subst ht4
    go_wp2_with fail
    refine Calls.go hb4 (rof_any xs _ a1 _ (hv.mono hb4) (LATER.out _ hb4)) ?_
    rintro e w5 ⟨v2, rfl, hown2⟩ hb5' hb5
    have hs1 := hs1.mono hb5'
    have hs2 := hown2.isL eEv_len
    rw [← of_law] at hs2 ⊢
    clear hown2
    go_wp2_with fail
    refine Calls.go hb5 (rtotal_any xs _ _ (hv.mono hb5) (LATER.out _ hb5)) ?_
    rintro e w6 ht6 hb6' hb6
    have hs1 := hs1.mono hb6'
    have hs2 := hs2.mono hb6'
    unfold TotIs at ht6
    subst ht6
    generalize totalM xs = tt at *
    generalize ofM xs a1 = oo at *
    obtain ⟨t1, t2, t3⟩ := tt
    obtain ⟨o1, o2⟩ := oo
    simp only at hs1 hs2 ⊢
    go_wp2_with fail
    refine Calls.go hb6 (eqEvs _ _ _ _ _ hs1 hs2) ?_
    rintro e w7 rfl _ hb7
    rw [decide_eq_true rfl]
    go_wp2_with fail
    go_ret
    exact ⟨by simp, hb7⟩
  · have HC := Lib.hid hc
    clear hc
    go_enter Try.func6, Try.ntmps6
    go_wp2_with fail
    refine Calls.to (awake_any w) ?_
    rintro e w1 rfl hb1
    go_wp2_with fail
    refine Calls.go hb1 (crowded_any xs _ _ (hv.mono hb1)) ?_
    rintro e w2 rfl _ hb2
    rw [HC.out]
    go_wp2_with fail
    go_ret
    exact ⟨rfl, hb2⟩

/-! ### The row -/
set_option maxRecDepth 100000 in
theorem lifted (os : Os) (started : os.Started) (H : Type) (enc : TypeId × Value → H) :
    ReturnsInHanded {} Try.checked os 6 .any (Rows.overflowStatesSpec.pre6 enc Try.prog Try.f6 Rows.overflowStatesRow.domain false) (Rows.overflowStatesSpec.post enc Try.prog Try.f6 false true false false) := by
  refine returnsInHanded_of_change (C := Try.checked) own started (by kernel_rfl) Try.func6
    (ChangeSpec.witness6 (enc := enc) (C := Try.checked) false ⟨#[], #[.slice none 0 0, .int .i64 0], []⟩ 8 (by kernel_rfl) (by kernel_rfl) (by kernel_rfl) (by kernel_rfl)) ?_
  intro W base args ds gs before hval0 hW hcnd _
  have hval : ∀ (j : Nat) t v, Try.f6.params[j]? = some t → args[j]? = some v → Value.okWide Try.prog W .any base t v := hval0
  have hW' := hW
  obtain ⟨p, q, hA0, hV, rfl, hfz, hnd⟩ := hW
  have hA : DataW.TrodAll enc Try.prog W 0 (fun _ => true) true Try.f6.params.toList args.toList ds p := hA0
  rw [Try.params6] at hA hval
  obtain ⟨v0, vs0, d0, ds0, p0, q0, hargs, rfl, rfl, h0, r0⟩ := trodAll_cons hA
  obtain ⟨v1, vs1, d1, ds1, p1, q1, rfl, rfl, rfl, h1, r1⟩ := trodAll_cons r0
  obtain ⟨rfl, rfl, rfl⟩ := trodAll_nil r1
  obtain rfl : args = #[v0, v1] := by cases args; simp_all
  obtain ⟨rfl, rfl⟩ := trodVars_none hV
  have k0 := h0
  have lt0 : ∀ x ∈ p0, x.block < W.heap.size := by obtain ⟨m, hm⟩ := k0; exact DataW.trod_lt m _ _ _ hm
  obtain ⟨x0, w0⟩ := openSts (hval 0 45 v0 rfl rfl) h0
  obtain ⟨a1, rfl, rfl, rfl, w1⟩ := open_int Try.underlying3 (hval 1 3 v1 rfl rfl) h1
  clear hA0 hval0
  refine (walk v0 x0 a1 W w0 w1).mono fun e W' ⟨he, bel⟩ => ?_
  subst he
  exact ⟨_, rfl, _, _, _, [], _, [], hW', trodAll_mk1 (shut_bool Try.underlying4 _), (trodAll_cons_mk (Below.trod laidOut (by kernel_rfl) (of_decide_eq_true (by kernel_rfl)) k0 bel lt0) (trodAll_cons_mk (shut_int Try.underlying3 w1) trodAll_mk0)), rfl, bel.frame _, fun h => by cases h⟩

theorem over : Rows.overflowStatesRow.holds Try.pinned (OpenSpec.ofChange Rows.overflowStatesSpec) :=
  OpenClaim.holds_of_wide 6 Try.f6 rfl rfl rfl rfl rfl rfl rfl ⟨rfl, rfl, rfl, rfl, rfl⟩ rfl rfl rfl rfl rfl (by kernel_rfl) Try.func6 (by kernel_rfl)
    (of_decide_eq_true (by kernel_rfl)) (by unfold Func.isWrapper; first | (rw [if_pos (by decide +kernel)]; kernel_rfl) | (rw [if_neg (by decide +kernel)]; exact ⟨rfl, rfl⟩))
    (fun os started H enc _ => lifted os started H enc)

end Go.Proofs.Ytbkihndidbmhoaa.overflowStates
namespace Go.Proofs.Ytbkihndidbmhoaa
/-- The statement. -/
theorem overflowStates_holds : Rows.OverflowStatesSaid := overflowStates.over
#print axioms overflowStates_holds
end Go.Proofs.Ytbkihndidbmhoaa
