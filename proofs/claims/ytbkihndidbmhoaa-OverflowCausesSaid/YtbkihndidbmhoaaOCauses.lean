/- The law OverflowCauses returns true for every network, every state and every index, and leaves its arguments as they were. Conditions: none beyond the row's own. -/
import Derived.Test.YtbkihndidbmhoaaRows
import Derived.WalkKit
import Derived.ProofKit
import Derived.OpenShut
import Derived.ShutString
import Derived.ChangeOld
import Derived.Below
import Derived.Test.YtbkihndidbmhoaaOv6
import Derived.Test.YtbkihndidbmhoaaMCau
import Derived.Test.YtbkihndidbmhoaaNca
import Derived.Test.YtbkihndidbmhoaaNrc
import Derived.Test.YtbkihndidbmhoaaRowk
namespace Go.Proofs.Ytbkihndidbmhoaa.overflowCauses
open Go.ChangeShapes Go.WideShapes Go.ChangeAt Go.RowKit
set_option linter.unusedVariables false
set_option linter.unusedSimpArgs false
open Go.ChangeMaps (open_string shut_string)
set_option linter.unusedVariables false

theorem own : ownKnob Try.prog.godebug = none := by kernel_rfl
theorem laidOut : laidOutB Try.prog = true := by kernel_rfl

set_option maxRecDepth 100000 in
set_option maxHeartbeats 4000000 in
theorem walk (v0 : Value) (x0 : Net) (v1 : Value) (x1 : St) (a2 : Int) (w : World) (w0 : v0 = vNet x0 ∧ gNet w x0) (w1 : v1 = vSt x1 ∧ gSt w x1) (w2 : (Lit.int .i64 a2).wf = true) :
    Calls Try.prog 9 #[v0, v1, .int .i64 a2] w fun e w' => e = .returned (.bool true) ∧ Below w.heap.size w w' := by
  obtain ⟨rfl, hg⟩ := w0
  obtain ⟨rfl, hgs⟩ := w1
  clear w2
  have hb0 : Below w.heap.size w ((w.alloc (.cells (eNet x0).toArray 85)).alloc (.cells (eSt x1).toArray 87)) := ((Below.refl _ _).alloc (Nat.le_refl _) _).alloc (by simp) _
  have HL : ∃ l, Hid (largeB x0 x1 = l) := ⟨_, rfl⟩
  obtain ⟨l, HL⟩ := HL
  obtain ⟨⟨cs, ce⟩, HC⟩ : ∃ c, Hid (causeP x0 x1 a2 = c) := ⟨_, rfl⟩
  have s1 : (cs.toList == cs.toList) = true := by simp
  have s2 : (ce == ce) = true := by simp
  go_enter Try.func9, Try.ntmps9
  go_wp2_with fail
  refine Calls.to (awake_any _) ?_
  rintro e w1 rfl hb1
  have hbw := hb0.trans (hb1.mono hb0.size)
  obtain ⟨f0, f1, f2, f3⟩ := boxSt (w.alloc (.cells (eNet x0).toArray 85)) w1 87 x1 _ rfl (w.heap.size + 2) (by simp) (by simpa using hb1)
  obtain ⟨e0, e1⟩ := boxNet w w1 85 x0 _ rfl _ rfl (((Below.refl _ _).alloc (by simp) _).trans (hb1.mono (by simp)))
  rw [show (w.alloc (.cells (eNet x0).toArray 85)).heap.size = w.heap.size + 1 from by simp] at f0 f1 f2 f3
  clear hb1
  go_wp2_with fail
  refine Calls.to (large_any x0 x1 _ (rdNet.mono hg hbw)) ?_
  rintro e w2 rfl hb2
  have hbw2 := hbw.trans (hb2.mono hbw.size)
  have e0 := box_lt e0 hb2
  have e1 := box_lt e1 hb2
  have f0 := box_lt f0 hb2
  have f1 := box_lt f1 hb2
  have f2 := box_lt f2 hb2
  have f3 := box_lt f3 hb2
  clear hb2
  rw [HL.out]
  cases l
  rotate_left
  · go_wp2_with fail
    go_ret
    exact ⟨rfl, hbw2⟩
  go_wp2_with fail
  refine Calls.to (cause_any x0 x1 a2 _ (rdNet.mono hg hbw2) (rdSt.mono hgs hbw2)) ?_
  rintro e w3 rfl hb3
  have hbw3 := hbw2.trans (hb3.mono hbw2.size)
  have e0 := box_lt e0 hb3
  have e1 := box_lt e1 hb3
  have f0 := box_lt f0 hb3
  have f1 := box_lt f1 hb3
  have f2 := box_lt f2 hb3
  have f3 := box_lt f3 hb3
  clear hb3
  rw [HC.out]
  go_wp2_with fail
  refine Calls.to (r38cause_any x0 x1 a2 _ (rdNet.mono hg hbw3) (rdSt.mono hgs hbw3)) ?_
  rintro e w4 rfl hb4
  have hbw4 := hbw3.trans (hb4.mono hbw3.size)
  clear hb4
  rw [HC.out]
  go_wp2_with fail
  go_ret
  exact ⟨rfl, hbw4⟩

/-! ### The row -/
set_option maxRecDepth 100000 in
theorem lifted (os : Os) (started : os.Started) (H : Type) (enc : TypeId × Value → H) :
    ReturnsInHanded {} Try.checked os 9 .any (Rows.overflowCausesSpec.pre6 enc Try.prog Try.f9 Rows.overflowCausesRow.domain false) (Rows.overflowCausesSpec.post enc Try.prog Try.f9 false true false false) := by
  refine returnsInHanded_of_change (C := Try.checked) own started (by kernel_rfl) Try.func9
    (ChangeSpec.witness6 (enc := enc) (C := Try.checked) false ⟨#[], #[.agg #[.slice none 0 0, .slice none 0 0], .agg #[.slice none 0 0, .slice none 0 0, .slice none 0 0, .slice none 0 0], .int .i64 0], []⟩ 8 (by kernel_rfl) (by kernel_rfl) (by kernel_rfl) (by kernel_rfl)) ?_
  intro W base args ds gs before hval0 hW hcnd _
  have hval : ∀ (j : Nat) t v, Try.f9.params[j]? = some t → args[j]? = some v → Value.okWide Try.prog W .any base t v := hval0
  have hW' := hW
  obtain ⟨p, q, hA0, hV, rfl, hfz, hnd⟩ := hW
  have hA : DataW.TrodAll enc Try.prog W 0 (fun _ => true) true Try.f9.params.toList args.toList ds p := hA0
  rw [Try.params9] at hA hval
  obtain ⟨v0, vs0, d0, ds0, p0, q0, hargs, rfl, rfl, h0, r0⟩ := trodAll_cons hA
  obtain ⟨v1, vs1, d1, ds1, p1, q1, rfl, rfl, rfl, h1, r1⟩ := trodAll_cons r0
  obtain ⟨v2, vs2, d2, ds2, p2, q2, rfl, rfl, rfl, h2, r2⟩ := trodAll_cons r1
  obtain ⟨rfl, rfl, rfl⟩ := trodAll_nil r2
  obtain rfl : args = #[v0, v1, v2] := by cases args; simp_all
  obtain ⟨rfl, rfl⟩ := trodVars_none hV
  have k0 := h0
  have lt0 : ∀ x ∈ p0, x.block < W.heap.size := by obtain ⟨m, hm⟩ := k0; exact DataW.trod_lt m _ _ _ hm
  obtain ⟨x0, w0⟩ := openNet (hval 0 85 v0 rfl rfl) h0
  have k1 := h1
  have lt1 : ∀ x ∈ p1, x.block < W.heap.size := by obtain ⟨m, hm⟩ := k1; exact DataW.trod_lt m _ _ _ hm
  obtain ⟨x1, w1⟩ := openSt (hval 1 87 v1 rfl rfl) h1
  obtain ⟨a2, rfl, rfl, rfl, w2⟩ := open_int Try.underlying3 (hval 2 3 v2 rfl rfl) h2
  clear hA0 hval0
  refine (walk v0 x0 v1 x1 a2 W w0 w1 w2).mono fun e W' ⟨he, bel⟩ => ?_
  subst he
  exact ⟨_, rfl, _, _, _, [], _, [], hW', trodAll_mk1 (shut_bool Try.underlying4 _), (trodAll_cons_mk (Below.trod laidOut (by kernel_rfl) (of_decide_eq_true (by kernel_rfl)) k0 bel lt0) (trodAll_cons_mk (Below.trod laidOut (by kernel_rfl) (of_decide_eq_true (by kernel_rfl)) k1 bel lt1) (trodAll_cons_mk (shut_int Try.underlying3 w2) trodAll_mk0))), rfl, bel.frame _, fun h => by cases h⟩

theorem over : Rows.overflowCausesRow.holds Try.pinned (OpenSpec.ofChange Rows.overflowCausesSpec) :=
  OpenClaim.holds_of_wide 9 Try.f9 rfl rfl rfl rfl rfl rfl rfl ⟨rfl, rfl, rfl, rfl, rfl⟩ rfl rfl rfl rfl rfl (by kernel_rfl) Try.func9 (by kernel_rfl)
    (of_decide_eq_true (by kernel_rfl)) (by unfold Func.isWrapper; first | (rw [if_pos (by decide +kernel)]; kernel_rfl) | (rw [if_neg (by decide +kernel)]; exact ⟨rfl, rfl⟩))
    (fun os started H enc _ => lifted os started H enc)

end Go.Proofs.Ytbkihndidbmhoaa.overflowCauses
namespace Go.Proofs.Ytbkihndidbmhoaa
/-- The statement. -/
theorem overflowCauses_holds : Rows.OverflowCausesSaid := overflowCauses.over
#print axioms overflowCauses_holds
end Go.Proofs.Ytbkihndidbmhoaa
