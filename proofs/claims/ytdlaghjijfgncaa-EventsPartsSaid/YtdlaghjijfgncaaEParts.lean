/- The law EventsParts returns true for every list of events and all numbers, and leaves its arguments as they were. Conditions: none beyond the row's own. -/
import Derived.Test.YtdlaghjijfgncaaRows
import Derived.WalkKit
import Derived.ProofKit
import Derived.OpenShut
import Derived.ShutString
import Derived.ChangeOld
import Derived.Below
import Derived.Test.YtdlaghjijfgncaaEvr2
import Derived.Test.YtdlaghjijfgncaaEvqs
import Derived.Test.YtdlaghjijfgncaaEvj3
import Derived.Test.YtdlaghjijfgncaaRowk
namespace Go.Proofs.Ytdlaghjijfgncaa.eventsParts
open Go.ChangeShapes Go.WideShapes Go.ChangeAt Go.RowKit
set_option linter.unusedVariables false
set_option linter.unusedSimpArgs false
open Go.ChangeMaps (open_string shut_string)
set_option linter.unusedVariables false

theorem own : ownKnob Try.prog.godebug = none := by kernel_rfl
theorem laidOut : laidOutB Try.prog = true := by kernel_rfl

set_option maxRecDepth 100000 in
set_option maxHeartbeats 8000000 in
theorem walk (v0 : Value) (x0 : Sl Ev) (a1 a2 a3 : Int) (w : World) (w0 : v0 = vSl x0 ∧ gSl eEv 4 gEv w x0) (w1 : (Lit.int .i64 a1).wf = true) (w2 : (Lit.int .i64 a2).wf = true) (w3 : (Lit.int .i64 a3).wf = true) :
    Calls Try.prog 6 #[v0, .int .i64 a1, .int .i64 a2, .int .i64 a3] w fun e w' => e = .returned (.bool true) ∧ Below w.heap.size w w' := by
  obtain ⟨rfl, hg⟩ := w0
  clear w1 w2 w3
  have HVV : Hid (IsEvs w (vSl x0) x0.xs) := hg.isL
  clear hg
  obtain ⟨sa, sc, l⟩ := x0
  simp only [vSl] at HVV ⊢
  obtain ⟨⟨Q, E⟩, HQ⟩ : ∃ r, Hid (quantM l a1 a2 = r) := ⟨_, rfl⟩
  obtain ⟨⟨J, F⟩, HJ⟩ : ∃ r, Hid (joinM l a3 = r) := ⟨_, rfl⟩
  have hself : (F == F) = true := by simp
  cases q0 : decide ((l.length : Int) ≤ 60)
  · go_enter Try.func6, Try.ntmps6
    go_wp2_with fail
    refine Calls.to (eawake_any _) ?_
    rintro e w1 rfl hb1
    go_wp2_with fail
    refine Calls.go hb1 (short_any l _ _ (HVV.out.mono hb1)) ?_
    rintro e w2 rfl hb2' hb2
    rw [q0]
    go_wp2_with fail
    go_ret
    exact ⟨rfl, hb2⟩
  go_enter Try.func6, Try.ntmps6
  go_wp2_with fail
  refine Calls.to (eawake_any _) ?_
  rintro e w1 rfl hb1
  go_wp2_with fail
  refine Calls.go hb1 (short_any l _ _ (HVV.out.mono hb1)) ?_
  rintro e w2 rfl hb2' hb2
  rw [q0]
  clear hb2' hb1
  go_wp2_with fail
  refine Calls.go hb2 (quant_any l _ a1 a2 _ (HVV.out.mono hb2)) ?_
  rintro e w3 rfl hb3' hb3
  rw [HQ.out]
  clear hb3' hb2
  go_wp2_with fail
  refine Calls.go hb3 (join_any l _ a3 _ (HVV.out.mono hb3)) ?_
  rintro e w4 ⟨v4, rfl, hown4⟩ hb4' hb4
  rw [HJ.out] at hown4 ⊢
  have hjs : IsEvs w4 v4 J := hown4.isL eEv_len
  clear hown4 hb4' hb3
  obtain ⟨ja, jc, rfl⟩ := hjs.isSl
  go_wp2_with fail
  refine Calls.go hb4 (r21valid_any l _ _ (HVV.out.mono hb4)) ?_
  rintro e w5 rfl hb5' hb5
  have hjs := hjs.mono hb5'
  clear hb5' hb4
  cases hvm : validM l
  · have HQ2 := HQ.out.symm.trans (show quantM l a1 a2 = (0, 1) from by simp only [quantM, hvm, if_true])
    have HJ2 := HJ.out.symm.trans (show joinM l a3 = ([], 1) from by simp only [joinM, hvm, if_true])
    simp only [Prod.mk.injEq] at HQ2 HJ2
    obtain ⟨rfl, rfl⟩ := HQ2
    obtain ⟨rfl, rfl⟩ := HJ2
    clear hjs HJ
    go_wp2_with fail
    go_ret
    exact ⟨rfl, hb5⟩
  have HVM := Lib.hid hvm
  have hall := validM_all hvm
  have hvl := validM_len hvm
  clear hvm
  by_cases q1 : a2 < 1
  · have u1 := decide_eq_true q1
    have HQ2 := HQ.out.symm.trans (show quantM l a1 a2 = (0, 2) from by simp only [quantM, HVM.out, q1, true_or, if_true]; simp)
    simp only [Prod.mk.injEq] at HQ2
    obtain ⟨rfl, rfl⟩ := HQ2
    go_wp2_with fail
    refine Calls.go hb5 (r21joinG_any l _ a3 _ (HVV.out.mono hb5) HVM.out) ?_
    rintro e wJ ⟨vj, rfl, hownj⟩ hbJ' hbJ
    rw [HJ.out] at hownj ⊢
    have hjs := hjs.mono hbJ'
    have hjr := hownj.isL eEv_len
    clear hownj hbJ'
    obtain ⟨ra, rc, rfl⟩ := hjr.isSl
    go_wp2_with fail
    refine Calls.go hbJ (eqEvs _ _ _ _ _ hjs hjr) ?_
    rintro e wE rfl hbE' hbE
    rw [decide_eq_true rfl]
    go_wp2_with fail
    go_ret
    exact ⟨rfl, hbE⟩
  have u1 := decide_eq_false q1
  by_cases q2 : 1073741824 < a2
  · have u2 := decide_eq_true q2
    have HQ2 := HQ.out.symm.trans (show quantM l a1 a2 = (0, 2) from by simp only [quantM, HVM.out, q2, true_or, or_true, if_true]; simp)
    simp only [Prod.mk.injEq] at HQ2
    obtain ⟨rfl, rfl⟩ := HQ2
    go_wp2_with fail
    refine Calls.go hb5 (r21joinG_any l _ a3 _ (HVV.out.mono hb5) HVM.out) ?_
    rintro e wJ ⟨vj, rfl, hownj⟩ hbJ' hbJ
    rw [HJ.out] at hownj ⊢
    have hjs := hjs.mono hbJ'
    have hjr := hownj.isL eEv_len
    clear hownj hbJ'
    obtain ⟨ra, rc, rfl⟩ := hjr.isSl
    go_wp2_with fail
    refine Calls.go hbJ (eqEvs _ _ _ _ _ hjs hjr) ?_
    rintro e wE rfl hbE' hbE
    rw [decide_eq_true rfl]
    go_wp2_with fail
    go_ret
    exact ⟨rfl, hbE⟩
  have u2 := decide_eq_false q2
  by_cases q3 : a1 < 0
  · have u3 := decide_eq_true q3
    have HQ2 := HQ.out.symm.trans (show quantM l a1 a2 = (0, 2) from by simp only [quantM, HVM.out, q3, true_or, or_true, if_true]; simp)
    simp only [Prod.mk.injEq] at HQ2
    obtain ⟨rfl, rfl⟩ := HQ2
    go_wp2_with fail
    refine Calls.go hb5 (r21joinG_any l _ a3 _ (HVV.out.mono hb5) HVM.out) ?_
    rintro e wJ ⟨vj, rfl, hownj⟩ hbJ' hbJ
    rw [HJ.out] at hownj ⊢
    have hjs := hjs.mono hbJ'
    have hjr := hownj.isL eEv_len
    clear hownj hbJ'
    obtain ⟨ra, rc, rfl⟩ := hjr.isSl
    go_wp2_with fail
    refine Calls.go hbJ (eqEvs _ _ _ _ _ hjs hjr) ?_
    rintro e wE rfl hbE' hbE
    rw [decide_eq_true rfl]
    go_wp2_with fail
    go_ret
    exact ⟨rfl, hbE⟩
  have u3 := decide_eq_false q3
  by_cases q4 : a2 < a1
  · have u4 := decide_eq_true q4
    have HQ2 := HQ.out.symm.trans (show quantM l a1 a2 = (0, 2) from by simp only [quantM, HVM.out, q4, or_true, if_true]; simp)
    simp only [Prod.mk.injEq] at HQ2
    obtain ⟨rfl, rfl⟩ := HQ2
    go_wp2_with fail
    refine Calls.go hb5 (r21joinG_any l _ a3 _ (HVV.out.mono hb5) HVM.out) ?_
    rintro e wJ ⟨vj, rfl, hownj⟩ hbJ' hbJ
    rw [HJ.out] at hownj ⊢
    have hjs := hjs.mono hbJ'
    have hjr := hownj.isL eEv_len
    clear hownj hbJ'
    obtain ⟨ra, rc, rfl⟩ := hjr.isSl
    go_wp2_with fail
    refine Calls.go hbJ (eqEvs _ _ _ _ _ hjs hjr) ?_
    rintro e wE rfl hbE' hbE
    rw [decide_eq_true rfl]
    go_wp2_with fail
    go_ret
    exact ⟨rfl, hbE⟩
  have u4 := decide_eq_false q4
  by_cases q5 : l.length = 0
  · have u5 := beqT (show (l.length : Int) = 0 by omega)
    have hnil : l = [] := List.eq_nil_of_length_eq_zero q5
    have HQ2 := HQ.out.symm.trans (show quantM l a1 a2 = (0, 14) from by simp only [quantM, HVM.out, q1, q2, q3, q4, q5, or_self, if_true, if_false]; simp)
    simp only [Prod.mk.injEq] at HQ2
    obtain ⟨rfl, rfl⟩ := HQ2
    clear q5 hnil
    go_wp2_with fail
    refine Calls.go hb5 (r21joinG_any l _ a3 _ (HVV.out.mono hb5) HVM.out) ?_
    rintro e wJ ⟨vj, rfl, hownj⟩ hbJ' hbJ
    rw [HJ.out] at hownj ⊢
    have hjs := hjs.mono hbJ'
    have hjr := hownj.isL eEv_len
    clear hownj hbJ'
    obtain ⟨ra, rc, rfl⟩ := hjr.isSl
    go_wp2_with fail
    refine Calls.go hbJ (eqEvs _ _ _ _ _ hjs hjr) ?_
    rintro e wE rfl hbE' hbE
    rw [decide_eq_true rfl]
    go_wp2_with fail
    go_ret
    exact ⟨rfl, hbE⟩
  have u5 := beqF (show ¬ (l.length : Int) = 0 by omega)
  have hpos : 0 < l.length := by omega
  have HQ2 := HQ.out.symm.trans (show quantM l a1 a2 = (qGo l a1 a2 l (-1), 0) from by
    simp only [quantM, HVM.out, q1, q2, q3, q4, q5, or_self, if_false]
    rw [quant_law l a1 a2 (by omega) (by omega) (by omega) hpos (fun x hx => by have := hall x hx; have := this.pt; have := (hall x hx).p1; omega)]
    simp)
  simp only [Prod.mk.injEq] at HQ2
  obtain ⟨rfl, rfl⟩ := HQ2
  have HRQ := fun W h => r21quant_any l (.slice sa l.length sc) a1 a2 W h hvl hall (by omega) (by omega) (by omega) (by omega)
  have HRQ' := Lib.hid HRQ
  clear HRQ HQ
  have hselfQ : (qGo l a1 a2 l (-1) != qGo l a1 a2 l (-1)) = false := by simp
  generalize qGo l a1 a2 l (-1) = QQ at *
  clear q1 q2 q3 q4 q5
  go_wp2_with fail
  refine Calls.go hb5 (HRQ'.out _ (HVV.out.mono hb5)) ?_
  rintro e w6 rfl hb6' hb6
  have hjs := hjs.mono hb6'
  clear hb6'
  go_wp2_with fail
  refine Calls.go hb6 (r21joinG_any l _ a3 _ (HVV.out.mono hb6) HVM.out) ?_
  rintro e wJ ⟨vj, rfl, hownj⟩ hbJ' hbJ
  rw [HJ.out] at hownj ⊢
  have hjs := hjs.mono hbJ'
  have hjr := hownj.isL eEv_len
  clear hownj hbJ'
  obtain ⟨ra, rc, rfl⟩ := hjr.isSl
  go_wp2_with fail
  refine Calls.go hbJ (eqEvs _ _ _ _ _ hjs hjr) ?_
  rintro e wE rfl hbE' hbE
  rw [decide_eq_true rfl]
  go_wp2_with fail
  go_ret
  exact ⟨rfl, hbE⟩

/-! ### The row -/
set_option maxRecDepth 100000 in
theorem lifted (os : Os) (started : os.Started) (H : Type) (enc : TypeId × Value → H) :
    ReturnsInHanded {} Try.checked os 6 .any (Rows.eventsPartsSpec.pre6 enc Try.prog Try.f6 Rows.eventsPartsRow.domain false) (Rows.eventsPartsSpec.post enc Try.prog Try.f6 false true false false) := by
  refine returnsInHanded_of_change (C := Try.checked) own started (by kernel_rfl) Try.func6
    (ChangeSpec.witness6 (enc := enc) (C := Try.checked) false ⟨#[], #[.slice none 0 0, .int .i64 0, .int .i64 0, .int .i64 0], []⟩ 8 (by kernel_rfl) (by kernel_rfl) (by kernel_rfl) (by kernel_rfl)) ?_
  intro W base args ds gs before hval0 hW hcnd _
  have hval : ∀ (j : Nat) t v, Try.f6.params[j]? = some t → args[j]? = some v → Value.okWide Try.prog W .any base t v := hval0
  have hW' := hW
  obtain ⟨p, q, hA0, hV, rfl, hfz, hnd⟩ := hW
  have hA : DataW.TrodAll enc Try.prog W 0 (fun _ => true) true Try.f6.params.toList args.toList ds p := hA0
  rw [Try.params6] at hA hval
  obtain ⟨v0, vs0, d0, ds0, p0, q0, hargs, rfl, rfl, h0, r0⟩ := trodAll_cons hA
  obtain ⟨v1, vs1, d1, ds1, p1, q1, rfl, rfl, rfl, h1, r1⟩ := trodAll_cons r0
  obtain ⟨v2, vs2, d2, ds2, p2, q2, rfl, rfl, rfl, h2, r2⟩ := trodAll_cons r1
  obtain ⟨v3, vs3, d3, ds3, p3, q3, rfl, rfl, rfl, h3, r3⟩ := trodAll_cons r2
  obtain ⟨rfl, rfl, rfl⟩ := trodAll_nil r3
  obtain rfl : args = #[v0, v1, v2, v3] := by cases args; simp_all
  obtain ⟨rfl, rfl⟩ := trodVars_none hV
  have k0 := h0
  have lt0 : ∀ x ∈ p0, x.block < W.heap.size := by obtain ⟨m, hm⟩ := k0; exact DataW.trod_lt m _ _ _ hm
  obtain ⟨x0, w0⟩ := openEvs (hval 0 27 v0 rfl rfl) h0
  obtain ⟨a1, rfl, rfl, rfl, w1⟩ := open_int Try.underlying3 (hval 1 3 v1 rfl rfl) h1
  obtain ⟨a2, rfl, rfl, rfl, w2⟩ := open_int Try.underlying3 (hval 2 3 v2 rfl rfl) h2
  obtain ⟨a3, rfl, rfl, rfl, w3⟩ := open_int Try.underlying3 (hval 3 3 v3 rfl rfl) h3
  clear hA0 hval0
  refine (walk v0 x0 a1 a2 a3 W w0 w1 w2 w3).mono fun e W' ⟨he, bel⟩ => ?_
  subst he
  exact ⟨_, rfl, _, _, _, [], _, [], hW', trodAll_mk1 (shut_bool Try.underlying4 _), (trodAll_cons_mk (Below.trod laidOut (by kernel_rfl) (of_decide_eq_true (by kernel_rfl)) k0 bel lt0) (trodAll_cons_mk (shut_int Try.underlying3 w1) (trodAll_cons_mk (shut_int Try.underlying3 w2) (trodAll_cons_mk (shut_int Try.underlying3 w3) trodAll_mk0)))), rfl, bel.frame _, fun h => by cases h⟩

theorem over : Rows.eventsPartsRow.holds Try.pinned (OpenSpec.ofChange Rows.eventsPartsSpec) :=
  OpenClaim.holds_of_wide 6 Try.f6 rfl rfl rfl rfl rfl rfl rfl ⟨rfl, rfl, rfl, rfl, rfl⟩ rfl rfl rfl rfl rfl (by kernel_rfl) Try.func6 (by kernel_rfl)
    (of_decide_eq_true (by kernel_rfl)) (by unfold Func.isWrapper; first | (rw [if_pos (by decide +kernel)]; kernel_rfl) | (rw [if_neg (by decide +kernel)]; exact ⟨rfl, rfl⟩))
    (fun os started H enc _ => lifted os started H enc)

end Go.Proofs.Ytdlaghjijfgncaa.eventsParts
namespace Go.Proofs.Ytdlaghjijfgncaa
/-- The statement. -/
theorem eventsParts_holds : Rows.EventsPartsSaid := eventsParts.over
#print axioms eventsParts_holds
end Go.Proofs.Ytdlaghjijfgncaa
