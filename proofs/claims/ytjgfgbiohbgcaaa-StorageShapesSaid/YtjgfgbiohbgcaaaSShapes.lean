/- The law StorageShapes returns true for all numbers and every table, and leaves its arguments as they were. Conditions: none beyond the row's own. -/
import Derived.Test.YtjgfgbiohbgcaaaRows
import Derived.WalkKit
import Derived.ProofKit
import Derived.OpenShut
import Derived.ShutString
import Derived.ChangeOld
import Derived.Below
import Derived.Test.YtjgfgbiohbgcaaaSaw
import Derived.Test.YtjgfgbiohbgcaaaSwy
import Derived.Test.YtjgfgbiohbgcaaaSpn
import Derived.Test.YtjgfgbiohbgcaaaRowk
namespace Go.Proofs.Ytjgfgbiohbgcaaa.storageShapes
open Go.ChangeShapes Go.WideShapes Go.ChangeAt Go.RowKit
set_option linter.unusedVariables false
set_option linter.unusedSimpArgs false
open Go.ChangeMaps (open_string shut_string)
set_option linter.unusedVariables false

theorem own : ownKnob Try.prog.godebug = none := by kernel_rfl
theorem laidOut : laidOutB Try.prog = true := by kernel_rfl

set_option maxRecDepth 100000 in
set_option maxHeartbeats 8000000 in
theorem walk (area depth : Int) (v2 : Value) (x2 : Sl Kn) (at' more : Int) (w : World) (w0 : (Lit.int .i64 area).wf = true) (w1 : (Lit.int .i64 depth).wf = true) (w2 : v2 = vSl x2 ∧ gTab w x2) (w3 : (Lit.int .i64 at').wf = true) (w4 : (Lit.int .i64 more).wf = true) :
    Calls Try.prog 3 #[.int .i64 area, .int .i64 depth, v2, .int .i64 at', .int .i64 more] w fun e w' => e = .returned (.bool true) ∧ Below w.heap.size w w' := by
  obtain ⟨rfl, ht⟩ := w2
  clear w0 w1 w3 w4
  have HT : Hid (IsKns w (vSl x2) x2.xs) := Lib.hid ht.isL
  clear ht
  obtain ⟨sa, sc, xs⟩ := x2
  have hsf := fun W => sshaft_any area depth W
  have hrf := fun W => r29shaft_any area depth W
  have hwd := fun W (hW : IsKns W (vSl ⟨sa, sc, xs⟩) xs) => widened_any xs at' more (vSl ⟨sa, sc, xs⟩) W hW
  have hrs := fun W (hW : IsKns W (vSl ⟨sa, sc, xs⟩) xs) => r29shape_any xs (vSl ⟨sa, sc, xs⟩) W hW
  have hrw := fun W (hW : IsKns W (vSl ⟨sa, sc, xs⟩) xs) hs => r29wid_any xs at' more (vSl ⟨sa, sc, xs⟩) W hW hs
  simp only [vSl] at HT hwd hrs hrw ⊢
  obtain ⟨⟨R, E⟩, hres⟩ : ∃ r, shaM area depth = r := ⟨_, rfl⟩
  rw [hres] at hsf hrf
  clear hres
  obtain ⟨⟨R2, E2⟩, hres2⟩ : ∃ r, widM xs at' more = r := ⟨_, rfl⟩
  rw [hres2] at hwd hrw
  have HRES := Lib.hid hres2
  clear hres2
  simp only at hsf hrf hwd hrw
  have heq := fun (L : List Kn) v v' W hv hv' => eqKns L L v v' W hv hv'
  simp only [decide_true] at heq
  cases l1 : decide ((110 : Int) < (xs.length : Int))
  rotate_left
  · go_enter Try.func3, Try.ntmps3
    go_wp2_with fail
    refine Calls.to (s9awake_any _) ?_
    rintro e w1 rfl hb1
    go_wp2_with fail
    go_ret
    exact ⟨rfl, hb1⟩
  obtain ⟨sb, hsb⟩ : ∃ sb, shB xs = sb := ⟨_, rfl⟩
  rw [hsb] at hrs hrw
  go_enter Try.func3, Try.ntmps3
  go_wp2_with fail
  refine Calls.to (s9awake_any _) ?_
  rintro e w1 rfl hb1
  have HT := Lib.hid (HT.out.mono hb1)
  go_wp2_with fail
  refine Calls.go hb1 (hsf _) ?_
  rintro e w2 ⟨v1, rfl, hown1⟩ hb2' hb2
  have HT := Lib.hid (HT.out.mono hb2')
  have HA := Lib.hid (hown1.isL eKn_len)
  clear hb1 hb2' hown1 hsf
  go_wp2_with fail
  refine Calls.go hb2 (hrf _) ?_
  rintro e w3 ⟨v3, rfl, hown3⟩ hb3' hb3
  have HT := Lib.hid (HT.out.mono hb3')
  have HA := Lib.hid (HA.out.mono hb3')
  have HB := Lib.hid (hown3.isL eKn_len)
  clear hb2 hb3' hown3 hrf
  go_wp2_with fail
  refine Calls.go hb3 (hwd _ HT.out) ?_
  rintro e w4 ⟨v4, rfl, hown4⟩ hb4' hb4
  have HT := Lib.hid (HT.out.mono hb4')
  have HA := Lib.hid (HA.out.mono hb4')
  have HB := Lib.hid (HB.out.mono hb4')
  have HC := Lib.hid (hown4.isL eKn_len)
  obtain ⟨a4, c4, hv4⟩ := hown4.isSlice
  subst hv4
  clear hb3 hb4' hown4 hwd
  go_wp2_with fail
  refine Calls.go hb4 (heq R _ _ _ HA.out HB.out) ?_
  rintro e w5 rfl hb5' hb5
  have HT := Lib.hid (HT.out.mono hb5')
  have HC := Lib.hid (HC.out.mono hb5')
  clear hb4 hb5' HA HB
  have kE : (E == E) = true := by simp
  go_wp2_with fail
  refine Calls.go hb5 (hrs _ HT.out) ?_
  rintro e w6 rfl hb6' hb6
  have HT := Lib.hid (HT.out.mono hb6')
  have HC := Lib.hid (HC.out.mono hb6')
  clear hb5 hb6' hrs
  cases sb
  · have h3 : (R2, E2) = (([] : List Kn), (1 : Int)) := HRES.out.symm.trans (by unfold widM; rw [if_pos hsb])
    simp only [Prod.mk.injEq] at h3
    obtain ⟨rfl, rfl⟩ := h3
    go_wp2_with fail
    go_ret
    exact ⟨rfl, hb6⟩
  · have kE2 : (E2 == E2) = true := by simp
    go_wp2_with fail
    refine Calls.go hb6 (hrw _ HT.out trivial) ?_
    rintro e w7 ⟨v7, rfl, hown7⟩ hb7' hb7
    have HC := Lib.hid (HC.out.mono hb7')
    have HD := Lib.hid (hown7.isL eKn_len)
    clear hb6 hb7' hown7 hrw HT
    go_wp2_with fail
    refine Calls.go hb7 (heq R2 _ _ _ HC.out HD.out) ?_
    rintro e w8 rfl hb8' hb8
    go_wp2_with fail
    go_ret
    exact ⟨rfl, hb8⟩

/-! ### The row -/
set_option maxRecDepth 100000 in
theorem lifted (os : Os) (started : os.Started) (H : Type) (enc : TypeId × Value → H) :
    ReturnsInHanded {} Try.checked os 3 .any (Rows.storageShapesSpec.pre6 enc Try.prog Try.f3 Rows.storageShapesRow.domain false) (Rows.storageShapesSpec.post enc Try.prog Try.f3 false true false false) := by
  refine returnsInHanded_of_change (C := Try.checked) own started (by kernel_rfl) Try.func3
    (ChangeSpec.witness6 (enc := enc) (C := Try.checked) false ⟨#[], #[.int .i64 0, .int .i64 0, .slice none 0 0, .int .i64 0, .int .i64 0], []⟩ 8 (by kernel_rfl) (by kernel_rfl) (by kernel_rfl) (by kernel_rfl)) ?_
  intro W base args ds gs before hval0 hW hcnd _
  have hval : ∀ (j : Nat) t v, Try.f3.params[j]? = some t → args[j]? = some v → Value.okWide Try.prog W .any base t v := hval0
  have hW' := hW
  obtain ⟨p, q, hA0, hV, rfl, hfz, hnd⟩ := hW
  have hA : DataW.TrodAll enc Try.prog W 0 (fun _ => true) true Try.f3.params.toList args.toList ds p := hA0
  rw [Try.params3] at hA hval
  obtain ⟨v0, vs0, d0, ds0, p0, q0, hargs, rfl, rfl, h0, r0⟩ := trodAll_cons hA
  obtain ⟨v1, vs1, d1, ds1, p1, q1, rfl, rfl, rfl, h1, r1⟩ := trodAll_cons r0
  obtain ⟨v2, vs2, d2, ds2, p2, q2, rfl, rfl, rfl, h2, r2⟩ := trodAll_cons r1
  obtain ⟨v3, vs3, d3, ds3, p3, q3, rfl, rfl, rfl, h3, r3⟩ := trodAll_cons r2
  obtain ⟨v4, vs4, d4, ds4, p4, q4, rfl, rfl, rfl, h4, r4⟩ := trodAll_cons r3
  obtain ⟨rfl, rfl, rfl⟩ := trodAll_nil r4
  obtain rfl : args = #[v0, v1, v2, v3, v4] := by cases args; simp_all
  obtain ⟨rfl, rfl⟩ := trodVars_none hV
  obtain ⟨a0, rfl, rfl, rfl, w0⟩ := open_int Try.underlying3 (hval 0 3 v0 rfl rfl) h0
  obtain ⟨a1, rfl, rfl, rfl, w1⟩ := open_int Try.underlying3 (hval 1 3 v1 rfl rfl) h1
  have k2 := h2
  have lt2 : ∀ x ∈ p2, x.block < W.heap.size := by obtain ⟨m, hm⟩ := k2; exact DataW.trod_lt m _ _ _ hm
  obtain ⟨x2, w2⟩ := openTab (hval 2 23 v2 rfl rfl) h2
  obtain ⟨a3, rfl, rfl, rfl, w3⟩ := open_int Try.underlying3 (hval 3 3 v3 rfl rfl) h3
  obtain ⟨a4, rfl, rfl, rfl, w4⟩ := open_int Try.underlying3 (hval 4 3 v4 rfl rfl) h4
  clear hA0 hval0
  refine (walk a0 a1 v2 x2 a3 a4 W w0 w1 w2 w3 w4).mono fun e W' ⟨he, bel⟩ => ?_
  subst he
  exact ⟨_, rfl, _, _, _, [], _, [], hW', trodAll_mk1 (shut_bool Try.underlying4 _), (trodAll_cons_mk (shut_int Try.underlying3 w0) (trodAll_cons_mk (shut_int Try.underlying3 w1) (trodAll_cons_mk (Below.trod laidOut (by kernel_rfl) (of_decide_eq_true (by kernel_rfl)) k2 bel lt2) (trodAll_cons_mk (shut_int Try.underlying3 w3) (trodAll_cons_mk (shut_int Try.underlying3 w4) trodAll_mk0))))), rfl, bel.frame _, fun h => by cases h⟩

theorem over : Rows.storageShapesRow.holds Try.pinned (OpenSpec.ofChange Rows.storageShapesSpec) :=
  OpenClaim.holds_of_wide 3 Try.f3 rfl rfl rfl rfl rfl rfl rfl ⟨rfl, rfl, rfl, rfl, rfl⟩ rfl rfl rfl rfl rfl (by kernel_rfl) Try.func3 (by kernel_rfl)
    (of_decide_eq_true (by kernel_rfl)) (by unfold Func.isWrapper; first | (rw [if_pos (by decide +kernel)]; kernel_rfl) | (rw [if_neg (by decide +kernel)]; exact ⟨rfl, rfl⟩))
    (fun os started H enc _ => lifted os started H enc)

end Go.Proofs.Ytjgfgbiohbgcaaa.storageShapes
namespace Go.Proofs.Ytjgfgbiohbgcaaa
/-- The statement. -/
theorem storageShapes_holds : Rows.StorageShapesSaid := storageShapes.over
#print axioms storageShapes_holds
end Go.Proofs.Ytjgfgbiohbgcaaa
