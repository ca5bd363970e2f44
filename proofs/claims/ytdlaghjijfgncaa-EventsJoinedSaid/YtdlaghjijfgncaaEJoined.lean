/- The law EventsJoined returns true for every record and all numbers, and leaves its arguments as they were. Conditions: none beyond the row's own. -/
import Derived.Test.YtdlaghjijfgncaaRows
import Derived.WalkKit
import Derived.ProofKit
import Derived.OpenShut
import Derived.ShutString
import Derived.ChangeOld
import Derived.Below
import Derived.Test.YtdlaghjijfgncaaEvw
import Derived.Test.YtdlaghjijfgncaaEvjl
import Derived.Test.YtdlaghjijfgncaaEvj2
import Derived.Test.YtdlaghjijfgncaaEvp
import Derived.Test.YtdlaghjijfgncaaRowk
namespace Go.Proofs.Ytdlaghjijfgncaa.eventsJoined
open Go.ChangeShapes Go.WideShapes Go.ChangeAt Go.RowKit
set_option linter.unusedVariables false
set_option linter.unusedSimpArgs false
open Go.ChangeMaps (open_string shut_string)
set_option linter.unusedVariables false

theorem own : ownKnob Try.prog.godebug = none := by kernel_rfl
theorem laidOut : laidOutB Try.prog = true := by kernel_rfl

set_option maxRecDepth 100000 in
set_option maxHeartbeats 8000000 in
theorem walk (v0 : Value) (s : Ser) (a1 a2 : Int) (w : World) (w0 : v0 = vSer s ∧ gSer w s) (w1 : (Lit.int .i64 a1).wf = true) (w2 : (Lit.int .i64 a2).wf = true) :
    Calls Try.prog 7 #[v0, .int .i64 a1, .int .i64 a2] w fun e w' => e = .returned (.bool true) ∧ Below w.heap.size w w' := by
  obtain ⟨rfl, hg⟩ := w0
  clear w1 w2
  have HV : Hid (IsInts w (vSl s.Ds) s.Ds.xs) := hg.2.2.isL
  clear hg
  have hb0 : Below w.heap.size w (w.alloc (.cells (eSer s).toArray 24)) := (Below.refl _ _).alloc (Nat.le_refl _) _
  obtain ⟨⟨L, E⟩, HS⟩ : ∃ r, Hid (splitM s a1 0 = r) := ⟨_, rfl⟩
  go_enter Try.func7, Try.ntmps7
  go_wp2_with fail
  refine Calls.to (eawake_any _) ?_
  rintro e w1 rfl hb1
  have hbb1 := hb0.trans (hb1.mono hb0.size)
  obtain ⟨e0, e1, e2⟩ := boxSer w w1 24 s _ rfl _ rfl (by simpa using hb1)
  clear hb1
  go_wp2_with fail
  refine Calls.go hbb1 (few_any s _) ?_
  rintro e w2 rfl hb2' hb2
  have e0 := box_lt e0 hb2'
  have e1 := box_lt e1 hb2'
  have e2 := box_lt e2 hb2'
  clear hb2' hbb1
  cases hf : fewB s
  · go_wp2_with fail
    go_ret
    exact ⟨rfl, hb2⟩
  have HLEN : Hid (s.Ds.xs.length ≤ 200) := by
    show _ ≤ _
    simp only [fewB, decide_eq_true_eq] at hf
    omega
  clear hf
  go_wp2_with fail
  refine Calls.go hb2 (split_any s a1 0 _ (HV.out.mono hb2)) ?_
  rintro e w3 ⟨v3, rfl, hown3⟩ hb3' hb3
  rw [HS.out] at hown3 ⊢
  have e0 := box_lt e0 hb3'
  have e1 := box_lt e1 hb3'
  have e2 := box_lt e2 hb3'
  have hse : IsEvs w3 v3 L := hown3.isL eEv_len
  clear hown3 hb3' hb2
  obtain ⟨la, lc, rfl⟩ := hse.isSl
  have hbadE : (serB s.From s.Step s.Ds.xs = false ∨ (a1 < 1 ∨ 10000 < a1)) ∨ (serB s.From s.Step s.Ds.xs = true ∧ 1 ≤ a1 ∧ a1 ≤ 10000) := by
    cases serB s.From s.Step s.Ds.xs
    · exact .inl (.inl rfl)
    · by_cases q : a1 < 1 ∨ 10000 < a1
      · exact .inl (.inr q)
      · exact .inr ⟨rfl, by omega, by omega⟩
  rcases hbadE with hbad | ⟨hr, ha1, ha2⟩
  · have HS2 : L = [] ∧ (E = 1 ∨ E = 2) := by
      have h := HS.out
      cases hr : serB s.From s.Step s.Ds.xs
      · simp only [splitM, hr, if_true, Prod.mk.injEq] at h
        exact ⟨h.1.symm, .inl h.2.symm⟩
      · rw [hr] at hbad
        have hb2 : a1 < 1 ∨ 10000 < a1 := hbad.resolve_left (by simp)
        simp only [splitM, hr] at h
        rw [if_neg (by simp), if_pos (by omega)] at h
        simp only [Prod.mk.injEq] at h
        exact ⟨h.1.symm, .inr h.2.symm⟩
    obtain ⟨rfl, rfl | rfl⟩ := HS2
    all_goals
      clear HS hse hbad
      go_wp2_with fail
      go_ret
      exact ⟨rfl, hb3⟩
  have HX := Lib.hid hr
  have hdep : ∀ d ∈ s.Ds.xs, d ≤ 4194304 := by
    intro d hd
    obtain ⟨i, hi, rfl⟩ := List.getElem_of_mem hd
    exact (serB_dep hr i hi).2
  have HDEP := Lib.hid hdep
  have hlen := HLEN.out
  have hspl : ∀ b, 1 ≤ b → b ≤ 10000 → splitM s b 0 = (splitGo b s.Ds.xs 0 [], 0) := by
    intro b h1 h2
    simp only [splitM, HX.out]
    have hok := (split_ok (dry := b) HDEP.out).1
    rw [if_neg (by simp), if_neg (by omega), split_all HDEP.out, if_neg (by omega)]
  have HSPL := Lib.hid hspl
  have HS2 := HS.out.symm.trans (hspl a1 ha1 ha2)
  simp only [Prod.mk.injEq] at HS2
  obtain ⟨rfl, rfl⟩ := HS2
  have QL := Lib.hid hse
  clear hspl HS hse hdep hr
  by_cases q1 : a2 < a1
  · have u1 := decide_eq_true q1
    clear q1
    go_wp2_with fail
    go_ret
    exact ⟨rfl, hb3⟩
  have u1 := decide_eq_false q1
  by_cases q2 : 10000 < a2
  · have u2 := decide_eq_true q2
    clear q2
    go_wp2_with fail
    go_ret
    exact ⟨rfl, hb3⟩
  have u2 := decide_eq_false q2
  have HQ := Lib.hid (And.intro ha1 (And.intro ha2 (And.intro (show a1 ≤ a2 by omega) (show a2 ≤ 10000 by omega))))
  have hval := split_valid ha1 HDEP.out (show s.Ds.xs.length ≤ 1000 by omega)
  have HVAL := Lib.hid hval
  have HJ0 : Hid (∀ g, 0 ≤ g → g ≤ 10000 → joinM (splitGo a1 s.Ds.xs 0 []) g = (if (joinGo g (splitGo a1 s.Ds.xs 0 []) [] false).2 = true then ([], 5) else ((joinGo g (splitGo a1 s.Ds.xs 0 []) [] false).1, 0))) := by
    intro g h1 h2
    simp only [joinM, HVAL.out]
    rw [if_neg (by simp), if_neg (by omega)]
  have HJa2 : Hid (joinM (splitGo a1 s.Ds.xs 0 []) a2 = (splitGo a2 s.Ds.xs 0 [], 0)) := by
    show _ = _
    rw [HJ0.out a2 (by omega) (by omega), join_law (by omega) HDEP.out (by omega)]
    simp
  have HJa1 : Hid (joinM (splitGo a1 s.Ds.xs 0 []) a1 = (splitGo a1 s.Ds.xs 0 [], 0)) := by
    show _ = _
    rw [HJ0.out a1 (by omega) (by omega), join_same_split ha1 (Int.le_refl _)]
    simp
  have HJ00 : Hid (joinM (splitGo a1 s.Ds.xs 0 []) 0 = (splitGo a1 s.Ds.xs 0 [], 0)) := by
    show _ = _
    rw [HJ0.out 0 (by omega) (by omega), join_same_split ha1 (by omega)]
    simp
  have HLN : Hid ((splitGo a2 s.Ds.xs 0 []).length ≤ (splitGo a1 s.Ds.xs 0 []).length) := join_len (by omega) HDEP.out (by omega)
  have HS2 := Lib.hid (HSPL.out a2 (by omega) (by omega))
  clear HJ0 HVAL HSPL hval q1 q2 ha1 ha2 hlen
  generalize splitGo a1 s.Ds.xs 0 [] = A at *
  generalize splitGo a2 s.Ds.xs 0 [] = B at *
  go_wp2_with fail
  refine Calls.go hb3 (split_any s a2 0 _ (HV.out.mono hb3)) ?_
  rintro e w4 ⟨v4, rfl, hown4⟩ hb4' hb4
  rw [HS2.out] at hown4 ⊢
  have hB : IsEvs w4 v4 B := hown4.isL eEv_len
  have hA := QL.out.mono hb4'
  clear hown4 hb4' hb3 QL e0 e1 e2
  obtain ⟨ba, bc, rfl⟩ := hB.isSl
  go_wp2_with fail
  refine Calls.go hb4 (join_any A _ a2 _ hA) ?_
  rintro e w5 ⟨v5, rfl, hown5⟩ hb5' hb5
  rw [HJa2.out] at hown5 ⊢
  have hB2 : IsEvs w5 v5 B := hown5.isL eEv_len
  have hA := hA.mono hb5'
  have hB := hB.mono hb5'
  clear hown5 hb5' hb4
  obtain ⟨ca, cc, rfl⟩ := hB2.isSl
  go_wp2_with fail
  refine Calls.go hb5 (join_any A _ a1 _ hA) ?_
  rintro e w6 ⟨v6, rfl, hown6⟩ hb6' hb6
  rw [HJa1.out] at hown6 ⊢
  have hA2 : IsEvs w6 v6 A := hown6.isL eEv_len
  have hA := hA.mono hb6'
  have hB := hB.mono hb6'
  have hB2 := hB2.mono hb6'
  clear hown6 hb6' hb5
  obtain ⟨da, dc, rfl⟩ := hA2.isSl
  go_wp2_with fail
  refine Calls.go hb6 (join_any A _ 0 _ hA) ?_
  rintro e w7 ⟨v7, rfl, hown7⟩ hb7' hb7
  rw [HJ00.out] at hown7 ⊢
  have hA3 : IsEvs w7 v7 A := hown7.isL eEv_len
  have hA := hA.mono hb7'
  have hA2 := hA2.mono hb7'
  have hB := hB.mono hb7'
  have hB2 := hB2.mono hb7'
  clear hown7 hb7' hb6
  obtain ⟨ea, ec, rfl⟩ := hA3.isSl
  go_wp2_with fail
  refine Calls.go hb7 (eqEvs _ _ _ _ _ hB hB2) ?_
  rintro e w8 rfl hb8' hb8
  rw [decide_eq_true rfl]
  have hA := hA.mono hb8'
  have hA2 := hA2.mono hb8'
  have hA3 := hA3.mono hb8'
  have t1 := decide_eq_true (show (B.length : Int) ≤ A.length by have := HLN.out; omega)
  have t2 := decide_eq_true HLN.out
  clear hb8' hb7 hB hB2
  go_wp2_with fail
  refine Calls.go hb8 (eqEvs _ _ _ _ _ hA2 hA) ?_
  rintro e w9 rfl hb9' hb9
  rw [decide_eq_true rfl]
  have hA := hA.mono hb9'
  have hA3 := hA3.mono hb9'
  clear hb9' hb8 hA2
  go_wp2_with fail
  refine Calls.go hb9 (eqEvs _ _ _ _ _ hA3 hA) ?_
  rintro e w10 rfl hb10' hb10
  rw [decide_eq_true rfl]
  clear hA3 hA
  go_wp2_with fail
  go_ret
  exact ⟨rfl, hb10⟩

/-! ### The row -/
set_option maxRecDepth 100000 in
theorem lifted (os : Os) (started : os.Started) (H : Type) (enc : TypeId × Value → H) :
    ReturnsInHanded {} Try.checked os 7 .any (Rows.eventsJoinedSpec.pre6 enc Try.prog Try.f7 Rows.eventsJoinedRow.domain false) (Rows.eventsJoinedSpec.post enc Try.prog Try.f7 false true false false) := by
  refine returnsInHanded_of_change (C := Try.checked) own started (by kernel_rfl) Try.func7
    (ChangeSpec.witness6 (enc := enc) (C := Try.checked) false ⟨#[], #[.agg #[.int .i64 0, .int .i64 0, .slice none 0 0], .int .i64 0, .int .i64 0], []⟩ 8 (by kernel_rfl) (by kernel_rfl) (by kernel_rfl) (by kernel_rfl)) ?_
  intro W base args ds gs before hval0 hW hcnd _
  have hval : ∀ (j : Nat) t v, Try.f7.params[j]? = some t → args[j]? = some v → Value.okWide Try.prog W .any base t v := hval0
  have hW' := hW
  obtain ⟨p, q, hA0, hV, rfl, hfz, hnd⟩ := hW
  have hA : DataW.TrodAll enc Try.prog W 0 (fun _ => true) true Try.f7.params.toList args.toList ds p := hA0
  rw [Try.params7] at hA hval
  obtain ⟨v0, vs0, d0, ds0, p0, q0, hargs, rfl, rfl, h0, r0⟩ := trodAll_cons hA
  obtain ⟨v1, vs1, d1, ds1, p1, q1, rfl, rfl, rfl, h1, r1⟩ := trodAll_cons r0
  obtain ⟨v2, vs2, d2, ds2, p2, q2, rfl, rfl, rfl, h2, r2⟩ := trodAll_cons r1
  obtain ⟨rfl, rfl, rfl⟩ := trodAll_nil r2
  obtain rfl : args = #[v0, v1, v2] := by cases args; simp_all
  obtain ⟨rfl, rfl⟩ := trodVars_none hV
  have k0 := h0
  have lt0 : ∀ x ∈ p0, x.block < W.heap.size := by obtain ⟨m, hm⟩ := k0; exact DataW.trod_lt m _ _ _ hm
  obtain ⟨x0, w0⟩ := openSer (hval 0 24 v0 rfl rfl) h0
  obtain ⟨a1, rfl, rfl, rfl, w1⟩ := open_int Try.underlying3 (hval 1 3 v1 rfl rfl) h1
  obtain ⟨a2, rfl, rfl, rfl, w2⟩ := open_int Try.underlying3 (hval 2 3 v2 rfl rfl) h2
  clear hA0 hval0
  refine (walk v0 x0 a1 a2 W w0 w1 w2).mono fun e W' ⟨he, bel⟩ => ?_
  subst he
  exact ⟨_, rfl, _, _, _, [], _, [], hW', trodAll_mk1 (shut_bool Try.underlying4 _), (trodAll_cons_mk (Below.trod laidOut (by kernel_rfl) (of_decide_eq_true (by kernel_rfl)) k0 bel lt0) (trodAll_cons_mk (shut_int Try.underlying3 w1) (trodAll_cons_mk (shut_int Try.underlying3 w2) trodAll_mk0))), rfl, bel.frame _, fun h => by cases h⟩

theorem over : Rows.eventsJoinedRow.holds Try.pinned (OpenSpec.ofChange Rows.eventsJoinedSpec) :=
  OpenClaim.holds_of_wide 7 Try.f7 rfl rfl rfl rfl rfl rfl rfl ⟨rfl, rfl, rfl, rfl, rfl⟩ rfl rfl rfl rfl rfl (by kernel_rfl) Try.func7 (by kernel_rfl)
    (of_decide_eq_true (by kernel_rfl)) (by unfold Func.isWrapper; first | (rw [if_pos (by decide +kernel)]; kernel_rfl) | (rw [if_neg (by decide +kernel)]; exact ⟨rfl, rfl⟩))
    (fun os started H enc _ => lifted os started H enc)

end Go.Proofs.Ytdlaghjijfgncaa.eventsJoined
namespace Go.Proofs.Ytdlaghjijfgncaa
/-- The statement. -/
theorem eventsJoined_holds : Rows.EventsJoinedSaid := eventsJoined.over
#print axioms eventsJoined_holds
end Go.Proofs.Ytdlaghjijfgncaa
