/- The law EventsSplits returns true for every record and all numbers, and leaves its arguments as they were. Conditions: none beyond the row's own. -/
import Derived.Test.YtdlaghjijfgncaaRows
import Derived.WalkKit
import Derived.ProofKit
import Derived.OpenShut
import Derived.ShutString
import Derived.ChangeOld
import Derived.Below
import Derived.Test.YtdlaghjijfgncaaEvw
import Derived.Test.YtdlaghjijfgncaaEvp
import Derived.Test.YtdlaghjijfgncaaRowk
namespace Go.Proofs.Ytdlaghjijfgncaa.eventsSplits
open Go.ChangeShapes Go.WideShapes Go.ChangeAt Go.RowKit
set_option linter.unusedVariables false
set_option linter.unusedSimpArgs false
open Go.ChangeMaps (open_string shut_string)
set_option linter.unusedVariables false

theorem own : ownKnob Try.prog.godebug = none := by kernel_rfl
theorem laidOut : laidOutB Try.prog = true := by kernel_rfl

set_option maxRecDepth 100000 in
set_option maxHeartbeats 8000000 in
theorem walk (v0 : Value) (x0 : Ser) (a1 a2 a3 : Int) (w : World) (w0 : v0 = vSer x0 ∧ gSer w x0) (w1 : (Lit.int .i64 a1).wf = true) (w2 : (Lit.int .i64 a2).wf = true) (w3 : (Lit.int .i64 a3).wf = true) :
    Calls Try.prog 9 #[v0, .int .i64 a1, .int .i64 a2, .int .i64 a3] w fun e w' => e = .returned (.bool true) ∧ Below w.heap.size w w' := by
  obtain ⟨rfl, hg⟩ := w0
  clear w1 w2 w3
  have HV : Hid (IsInts w (vSl x0.Ds) x0.Ds.xs) := hg.2.2.isL
  clear hg
  have hb0 : Below w.heap.size w (w.alloc (.cells (eSer x0).toArray 24)) := (Below.refl _ _).alloc (Nat.le_refl _) _
  go_enter Try.func9, Try.ntmps9
  go_wp2_with fail
  refine Calls.to (eawake_any _) ?_
  rintro e w1 rfl hb1
  have hbb1 := hb0.trans (hb1.mono hb0.size)
  obtain ⟨e0, e1, e2⟩ := boxSer w w1 24 x0 _ rfl _ rfl (by simpa using hb1)
  clear hb1
  go_wp2_with fail
  refine Calls.go hbb1 (few_any x0 _) ?_
  rintro e w2 rfl hb2' hb2
  have e0 := box_lt e0 hb2'
  have e1 := box_lt e1 hb2'
  have e2 := box_lt e2 hb2'
  clear hb2' hbb1
  cases hf : fewB x0
  · go_wp2_with fail
    go_ret
    exact ⟨rfl, hb2⟩
  have HLEN : Hid (x0.Ds.xs.length ≤ 200) := by
    show _ ≤ _
    simp only [fewB, decide_eq_true_eq] at hf
    omega
  clear hf
  obtain ⟨⟨L, E⟩, HS⟩ : ∃ r, Hid (splitM x0 a1 a2 = r) := ⟨_, rfl⟩
  obtain ⟨⟨D, F⟩, HD⟩ : ∃ r, Hid (dryM x0 = r) := ⟨_, rfl⟩
  obtain ⟨⟨O1, O2⟩, HO⟩ : ∃ r, Hid (overM x0 a3 = r) := ⟨_, rfl⟩
  go_wp2_with fail
  refine Calls.go hb2 (split_any x0 a1 a2 _ (HV.out.mono hb2)) ?_
  rintro e w3 ⟨v3, rfl, hown3⟩ hb3' hb3
  rw [HS.out] at hown3 ⊢
  have e0 := box_lt e0 hb3'
  have e1 := box_lt e1 hb3'
  have e2 := box_lt e2 hb3'
  have hss : IsEvs w3 v3 L := hown3.isL eEv_len
  clear hown3 hb3' hb2
  obtain ⟨sa, sc, rfl⟩ := hss.isSl
  go_wp2_with fail
  refine Calls.go hb3 (dry_any x0 _ (HV.out.mono hb3)) ?_
  rintro e w4 ⟨v4, rfl, hown4⟩ hb4' hb4
  rw [HD.out] at hown4 ⊢
  have e0 := box_lt e0 hb4'
  have e1 := box_lt e1 hb4'
  have e2 := box_lt e2 hb4'
  have hss := hss.mono hb4'
  have hsd : IsPrs w4 v4 D := hown4.isL ePr_len
  clear hown4 hb4' hb3
  obtain ⟨ua, uc, rfl⟩ := hsd.isSl
  go_wp2_with fail
  refine Calls.go hb4 (over_any x0 a3 _ (HV.out.mono hb4)) ?_
  rintro e w5 rfl hb5' hb5
  rw [HO.out]
  have e0 := box_lt e0 hb5'
  have e1 := box_lt e1 hb5'
  have e2 := box_lt e2 hb5'
  have hss := hss.mono hb5'
  have hsd := hsd.mono hb5'
  clear hb5' hb4
  go_wp2_with fail
  refine Calls.go hb5 (r17valid_any x0 _ (HV.out.mono hb5)) ?_
  rintro e w6 rfl hb6' hb6
  have e0 := box_lt e0 hb6'
  have e1 := box_lt e1 hb6'
  have e2 := box_lt e2 hb6'
  have hss := hss.mono hb6'
  have hsd := hsd.mono hb6'
  clear hb6' hb5
  cases hr : serB x0.From x0.Step x0.Ds.xs
  · have HS2 := HS.out.symm.trans (show splitM x0 a1 a2 = ([], 1) from by simp only [splitM, hr, if_true])
    have HD2 := HD.out.symm.trans (show dryM x0 = ([], 1) from by simp only [dryM, hr, if_true])
    have HO2 := HO.out.symm.trans (show overM x0 a3 = (0, 1) from by simp only [overM, hr, if_true])
    simp only [Prod.mk.injEq] at HS2 HD2 HO2
    obtain ⟨rfl, rfl⟩ := HS2
    obtain ⟨rfl, rfl⟩ := HD2
    obtain ⟨rfl, rfl⟩ := HO2
    clear HS HD HO hss hsd
    go_wp2_with fail
    go_ret
    exact ⟨rfl, hb6⟩
  have HX := Lib.hid hr
  have HD2 := HD.out.symm.trans (show dryM x0 = (dryGo x0.Ds.xs 0 [], 0) from by simp only [dryM, hr]; simp)
  simp only [Prod.mk.injEq] at HD2
  obtain ⟨rfl, rfl⟩ := HD2
  clear HD hr e0 e1
  by_cases q1 : a1 < 1
  · have u1 := decide_eq_true q1
    have HS2 := HS.out.symm.trans (show splitM x0 a1 a2 = ([], 2) from by simp only [splitM, HX.out, q1, true_or, if_true]; simp)
    simp only [Prod.mk.injEq] at HS2
    obtain ⟨rfl, rfl⟩ := HS2
    simp only [List.length_nil] at hss ⊢
    clear HS
    go_wp2_with fail
    refine Calls.go hb6 (r21dry_any x0.Ds.xs _ _ (HV.out.mono hb6) (by have := HLEN.out; omega)) ?_
    rintro e wA ⟨vd, rfl, hownd⟩ hbA' hbA
    have hsd := hsd.mono hbA'
    have isd := hownd.isL ePr_len
    have e2 := box_lt e2 hbA'
    clear hownd hbA'
    obtain ⟨da, dcc, rfl⟩ := isd.isSl
    go_wp2_with fail
    refine Calls.go hbA (eqSps _ _ _ _ _ hsd isd) ?_
    rintro e wB rfl hbB' hbB
    have e2 := box_lt e2 hbB'
    rw [decide_eq_true rfl]
    clear hsd isd hbB'
    by_cases d1 : a3 < 0
    · have t1 := decide_eq_true d1
      have HO2 := HO.out.symm.trans (show overM x0 a3 = (0, 2) from by simp only [overM, HX.out, d1, true_or, if_true]; simp)
      simp only [Prod.mk.injEq] at HO2
      obtain ⟨rfl, rfl⟩ := HO2
      go_wp2_with fail
      go_ret
      exact ⟨rfl, hbB⟩
    have t1 := decide_eq_false d1
    by_cases d2 : 4194304 < a3
    · have t2 := decide_eq_true d2
      have HO2 := HO.out.symm.trans (show overM x0 a3 = (0, 2) from by simp only [overM, HX.out, d2, or_true, if_true]; simp)
      simp only [Prod.mk.injEq] at HO2
      obtain ⟨rfl, rfl⟩ := HO2
      go_wp2_with fail
      go_ret
      exact ⟨rfl, hbB⟩
    have t2 := decide_eq_false d2
    have HO2 := HO.out.symm.trans (show overM x0 a3 = ((overN a3 x0.Ds.xs : Int), 0) from by simp only [overM, HX.out, d1, d2, or_self, if_false]; simp)
    simp only [Prod.mk.injEq] at HO2
    obtain ⟨rfl, rfl⟩ := HO2
    have hself : ((overN a3 x0.Ds.xs : Int) == (overN a3 x0.Ds.xs : Int)) = true := by simp
    go_wp2_with fail
    refine Calls.go hbB (r21over_any x0.Ds.xs _ a3 _ (HV.out.mono hbB) (by have := HLEN.out; omega)) ?_
    rintro e wC rfl hbC' hbC
    go_wp2_with fail
    go_ret
    exact ⟨rfl, hbC⟩
  have u1 := decide_eq_false q1
  by_cases q2 : 10000 < a1
  · have u2 := decide_eq_true q2
    have HS2 := HS.out.symm.trans (show splitM x0 a1 a2 = ([], 2) from by simp only [splitM, HX.out, q2, true_or, or_true, if_true]; simp)
    simp only [Prod.mk.injEq] at HS2
    obtain ⟨rfl, rfl⟩ := HS2
    simp only [List.length_nil] at hss ⊢
    clear HS
    go_wp2_with fail
    refine Calls.go hb6 (r21dry_any x0.Ds.xs _ _ (HV.out.mono hb6) (by have := HLEN.out; omega)) ?_
    rintro e wA ⟨vd, rfl, hownd⟩ hbA' hbA
    have hsd := hsd.mono hbA'
    have isd := hownd.isL ePr_len
    have e2 := box_lt e2 hbA'
    clear hownd hbA'
    obtain ⟨da, dcc, rfl⟩ := isd.isSl
    go_wp2_with fail
    refine Calls.go hbA (eqSps _ _ _ _ _ hsd isd) ?_
    rintro e wB rfl hbB' hbB
    have e2 := box_lt e2 hbB'
    rw [decide_eq_true rfl]
    clear hsd isd hbB'
    by_cases d1 : a3 < 0
    · have t1 := decide_eq_true d1
      have HO2 := HO.out.symm.trans (show overM x0 a3 = (0, 2) from by simp only [overM, HX.out, d1, true_or, if_true]; simp)
      simp only [Prod.mk.injEq] at HO2
      obtain ⟨rfl, rfl⟩ := HO2
      go_wp2_with fail
      go_ret
      exact ⟨rfl, hbB⟩
    have t1 := decide_eq_false d1
    by_cases d2 : 4194304 < a3
    · have t2 := decide_eq_true d2
      have HO2 := HO.out.symm.trans (show overM x0 a3 = (0, 2) from by simp only [overM, HX.out, d2, or_true, if_true]; simp)
      simp only [Prod.mk.injEq] at HO2
      obtain ⟨rfl, rfl⟩ := HO2
      go_wp2_with fail
      go_ret
      exact ⟨rfl, hbB⟩
    have t2 := decide_eq_false d2
    have HO2 := HO.out.symm.trans (show overM x0 a3 = ((overN a3 x0.Ds.xs : Int), 0) from by simp only [overM, HX.out, d1, d2, or_self, if_false]; simp)
    simp only [Prod.mk.injEq] at HO2
    obtain ⟨rfl, rfl⟩ := HO2
    have hself : ((overN a3 x0.Ds.xs : Int) == (overN a3 x0.Ds.xs : Int)) = true := by simp
    go_wp2_with fail
    refine Calls.go hbB (r21over_any x0.Ds.xs _ a3 _ (HV.out.mono hbB) (by have := HLEN.out; omega)) ?_
    rintro e wC rfl hbC' hbC
    go_wp2_with fail
    go_ret
    exact ⟨rfl, hbC⟩
  have u2 := decide_eq_false q2
  by_cases q3 : a2 < 0
  · have u3 := decide_eq_true q3
    have HS2 := HS.out.symm.trans (show splitM x0 a1 a2 = ([], 2) from by simp only [splitM, HX.out, q3, true_or, or_true, if_true]; simp)
    simp only [Prod.mk.injEq] at HS2
    obtain ⟨rfl, rfl⟩ := HS2
    simp only [List.length_nil] at hss ⊢
    clear HS
    go_wp2_with fail
    refine Calls.go hb6 (r21dry_any x0.Ds.xs _ _ (HV.out.mono hb6) (by have := HLEN.out; omega)) ?_
    rintro e wA ⟨vd, rfl, hownd⟩ hbA' hbA
    have hsd := hsd.mono hbA'
    have isd := hownd.isL ePr_len
    have e2 := box_lt e2 hbA'
    clear hownd hbA'
    obtain ⟨da, dcc, rfl⟩ := isd.isSl
    go_wp2_with fail
    refine Calls.go hbA (eqSps _ _ _ _ _ hsd isd) ?_
    rintro e wB rfl hbB' hbB
    have e2 := box_lt e2 hbB'
    rw [decide_eq_true rfl]
    clear hsd isd hbB'
    by_cases d1 : a3 < 0
    · have t1 := decide_eq_true d1
      have HO2 := HO.out.symm.trans (show overM x0 a3 = (0, 2) from by simp only [overM, HX.out, d1, true_or, if_true]; simp)
      simp only [Prod.mk.injEq] at HO2
      obtain ⟨rfl, rfl⟩ := HO2
      go_wp2_with fail
      go_ret
      exact ⟨rfl, hbB⟩
    have t1 := decide_eq_false d1
    by_cases d2 : 4194304 < a3
    · have t2 := decide_eq_true d2
      have HO2 := HO.out.symm.trans (show overM x0 a3 = (0, 2) from by simp only [overM, HX.out, d2, or_true, if_true]; simp)
      simp only [Prod.mk.injEq] at HO2
      obtain ⟨rfl, rfl⟩ := HO2
      go_wp2_with fail
      go_ret
      exact ⟨rfl, hbB⟩
    have t2 := decide_eq_false d2
    have HO2 := HO.out.symm.trans (show overM x0 a3 = ((overN a3 x0.Ds.xs : Int), 0) from by simp only [overM, HX.out, d1, d2, or_self, if_false]; simp)
    simp only [Prod.mk.injEq] at HO2
    obtain ⟨rfl, rfl⟩ := HO2
    have hself : ((overN a3 x0.Ds.xs : Int) == (overN a3 x0.Ds.xs : Int)) = true := by simp
    go_wp2_with fail
    refine Calls.go hbB (r21over_any x0.Ds.xs _ a3 _ (HV.out.mono hbB) (by have := HLEN.out; omega)) ?_
    rintro e wC rfl hbC' hbC
    go_wp2_with fail
    go_ret
    exact ⟨rfl, hbC⟩
  have u3 := decide_eq_false q3
  by_cases q4 : 1099511627776 < a2
  · have u4 := decide_eq_true q4
    have HS2 := HS.out.symm.trans (show splitM x0 a1 a2 = ([], 2) from by simp only [splitM, HX.out, q4, or_true, if_true]; simp)
    simp only [Prod.mk.injEq] at HS2
    obtain ⟨rfl, rfl⟩ := HS2
    simp only [List.length_nil] at hss ⊢
    clear HS
    go_wp2_with fail
    refine Calls.go hb6 (r21dry_any x0.Ds.xs _ _ (HV.out.mono hb6) (by have := HLEN.out; omega)) ?_
    rintro e wA ⟨vd, rfl, hownd⟩ hbA' hbA
    have hsd := hsd.mono hbA'
    have isd := hownd.isL ePr_len
    have e2 := box_lt e2 hbA'
    clear hownd hbA'
    obtain ⟨da, dcc, rfl⟩ := isd.isSl
    go_wp2_with fail
    refine Calls.go hbA (eqSps _ _ _ _ _ hsd isd) ?_
    rintro e wB rfl hbB' hbB
    have e2 := box_lt e2 hbB'
    rw [decide_eq_true rfl]
    clear hsd isd hbB'
    by_cases d1 : a3 < 0
    · have t1 := decide_eq_true d1
      have HO2 := HO.out.symm.trans (show overM x0 a3 = (0, 2) from by simp only [overM, HX.out, d1, true_or, if_true]; simp)
      simp only [Prod.mk.injEq] at HO2
      obtain ⟨rfl, rfl⟩ := HO2
      go_wp2_with fail
      go_ret
      exact ⟨rfl, hbB⟩
    have t1 := decide_eq_false d1
    by_cases d2 : 4194304 < a3
    · have t2 := decide_eq_true d2
      have HO2 := HO.out.symm.trans (show overM x0 a3 = (0, 2) from by simp only [overM, HX.out, d2, or_true, if_true]; simp)
      simp only [Prod.mk.injEq] at HO2
      obtain ⟨rfl, rfl⟩ := HO2
      go_wp2_with fail
      go_ret
      exact ⟨rfl, hbB⟩
    have t2 := decide_eq_false d2
    have HO2 := HO.out.symm.trans (show overM x0 a3 = ((overN a3 x0.Ds.xs : Int), 0) from by simp only [overM, HX.out, d1, d2, or_self, if_false]; simp)
    simp only [Prod.mk.injEq] at HO2
    obtain ⟨rfl, rfl⟩ := HO2
    have hself : ((overN a3 x0.Ds.xs : Int) == (overN a3 x0.Ds.xs : Int)) = true := by simp
    go_wp2_with fail
    refine Calls.go hbB (r21over_any x0.Ds.xs _ a3 _ (HV.out.mono hbB) (by have := HLEN.out; omega)) ?_
    rintro e wC rfl hbC' hbC
    go_wp2_with fail
    go_ret
    exact ⟨rfl, hbC⟩
  have u4 := decide_eq_false q4
  have hsl := splitGo_len a1 x0.Ds.xs
  have hfl := List.length_filter_le (fun x : Ev => decide (a2 ≤ x.Total)) (splitGo a1 x0.Ds.xs 0 [])
  have HS2 := HS.out.symm.trans (show splitM x0 a1 a2 = ((splitGo a1 x0.Ds.xs 0 []).filter (fun x => decide (a2 ≤ x.Total)), 0) from by
    simp only [splitM, HX.out, q1, q2, q3, q4, or_self, if_false]
    rw [if_neg (by simp), if_neg (by have := HLEN.out; omega)])
  simp only [Prod.mk.injEq] at HS2
  obtain ⟨rfl, rfl⟩ := HS2
  clear HS hsl hfl q1 q2 q3 q4
  have hdep := fun i h => (serB_dep HX.out i h).2
  have HDEP := Lib.hid hdep
  clear hdep
  go_wp2_with fail
  refine Calls.go hb6 (r21events_any x0.Ds.xs _ a1 a2 _ (HV.out.mono hb6) (by have := HLEN.out; omega) HDEP.out) ?_
  rintro e w7 ⟨v7, rfl, hown7⟩ hb7' hb7
  have e2 := box_lt e2 hb7'
  have hss := hss.mono hb7'
  have hsd := hsd.mono hb7'
  have his := hown7.isL eEv_len
  clear hown7 hb7' hb6
  obtain ⟨qa, qc, rfl⟩ := his.isSl
  go_wp2_with fail
  refine Calls.go hb7 (eqEvs _ _ _ _ _ hss his) ?_
  rintro e w8 rfl hb8' hb8
  have e2 := box_lt e2 hb8'
  have hsd := hsd.mono hb8'
  rw [decide_eq_true rfl]
  clear hss his hb8' hb7
  go_wp2_with fail
  refine Calls.go hb8 (r21dry_any x0.Ds.xs _ _ (HV.out.mono hb8) (by have := HLEN.out; omega)) ?_
  rintro e wA ⟨vd, rfl, hownd⟩ hbA' hbA
  have hsd := hsd.mono hbA'
  have isd := hownd.isL ePr_len
  have e2 := box_lt e2 hbA'
  clear hownd hbA'
  obtain ⟨da, dcc, rfl⟩ := isd.isSl
  go_wp2_with fail
  refine Calls.go hbA (eqSps _ _ _ _ _ hsd isd) ?_
  rintro e wB rfl hbB' hbB
  have e2 := box_lt e2 hbB'
  rw [decide_eq_true rfl]
  clear hsd isd hbB'
  by_cases d1 : a3 < 0
  · have t1 := decide_eq_true d1
    have HO2 := HO.out.symm.trans (show overM x0 a3 = (0, 2) from by simp only [overM, HX.out, d1, true_or, if_true]; simp)
    simp only [Prod.mk.injEq] at HO2
    obtain ⟨rfl, rfl⟩ := HO2
    go_wp2_with fail
    go_ret
    exact ⟨rfl, hbB⟩
  have t1 := decide_eq_false d1
  by_cases d2 : 4194304 < a3
  · have t2 := decide_eq_true d2
    have HO2 := HO.out.symm.trans (show overM x0 a3 = (0, 2) from by simp only [overM, HX.out, d2, or_true, if_true]; simp)
    simp only [Prod.mk.injEq] at HO2
    obtain ⟨rfl, rfl⟩ := HO2
    go_wp2_with fail
    go_ret
    exact ⟨rfl, hbB⟩
  have t2 := decide_eq_false d2
  have HO2 := HO.out.symm.trans (show overM x0 a3 = ((overN a3 x0.Ds.xs : Int), 0) from by simp only [overM, HX.out, d1, d2, or_self, if_false]; simp)
  simp only [Prod.mk.injEq] at HO2
  obtain ⟨rfl, rfl⟩ := HO2
  have hself : ((overN a3 x0.Ds.xs : Int) == (overN a3 x0.Ds.xs : Int)) = true := by simp
  go_wp2_with fail
  refine Calls.go hbB (r21over_any x0.Ds.xs _ a3 _ (HV.out.mono hbB) (by have := HLEN.out; omega)) ?_
  rintro e wC rfl hbC' hbC
  go_wp2_with fail
  go_ret
  exact ⟨rfl, hbC⟩

/-! ### The row -/
set_option maxRecDepth 100000 in
theorem lifted (os : Os) (started : os.Started) (H : Type) (enc : TypeId × Value → H) :
    ReturnsInHanded {} Try.checked os 9 .any (Rows.eventsSplitsSpec.pre6 enc Try.prog Try.f9 Rows.eventsSplitsRow.domain false) (Rows.eventsSplitsSpec.post enc Try.prog Try.f9 false true false false) := by
  refine returnsInHanded_of_change (C := Try.checked) own started (by kernel_rfl) Try.func9
    (ChangeSpec.witness6 (enc := enc) (C := Try.checked) false ⟨#[], #[.agg #[.int .i64 0, .int .i64 0, .slice none 0 0], .int .i64 0, .int .i64 0, .int .i64 0], []⟩ 8 (by kernel_rfl) (by kernel_rfl) (by kernel_rfl) (by kernel_rfl)) ?_
  intro W base args ds gs before hval0 hW hcnd _
  have hval : ∀ (j : Nat) t v, Try.f9.params[j]? = some t → args[j]? = some v → Value.okWide Try.prog W .any base t v := hval0
  have hW' := hW
  obtain ⟨p, q, hA0, hV, rfl, hfz, hnd⟩ := hW
  have hA : DataW.TrodAll enc Try.prog W 0 (fun _ => true) true Try.f9.params.toList args.toList ds p := hA0
  rw [Try.params9] at hA hval
  obtain ⟨v0, vs0, d0, ds0, p0, q0, hargs, rfl, rfl, h0, r0⟩ := trodAll_cons hA
  obtain ⟨v1, vs1, d1, ds1, p1, q1, rfl, rfl, rfl, h1, r1⟩ := trodAll_cons r0
  obtain ⟨v2, vs2, d2, ds2, p2, q2, rfl, rfl, rfl, h2, r2⟩ := trodAll_cons r1
  obtain ⟨v3, vs3, d3, ds3, p3, q3, rfl, rfl, rfl, h3, r3⟩ := trodAll_cons r2
  obtain ⟨rfl, rfl, rfl⟩ := trodAll_nil r3
  obtain rfl : args = #[v0, v1, v2, v3] := by cases args; simp_all
  obtain ⟨rfl, rfl⟩ := trodVars_none hV
  have k0 := h0
  have lt0 : ∀ x ∈ p0, x.block < W.heap.size := by obtain ⟨m, hm⟩ := k0; exact DataW.trod_lt m _ _ _ hm
  obtain ⟨x0, w0⟩ := openSer (hval 0 24 v0 rfl rfl) h0
  obtain ⟨a1, rfl, rfl, rfl, w1⟩ := open_int Try.underlying3 (hval 1 3 v1 rfl rfl) h1
  obtain ⟨a2, rfl, rfl, rfl, w2⟩ := open_int Try.underlying3 (hval 2 3 v2 rfl rfl) h2
  obtain ⟨a3, rfl, rfl, rfl, w3⟩ := open_int Try.underlying3 (hval 3 3 v3 rfl rfl) h3
  clear hA0 hval0
  refine (walk v0 x0 a1 a2 a3 W w0 w1 w2 w3).mono fun e W' ⟨he, bel⟩ => ?_
  subst he
  exact ⟨_, rfl, _, _, _, [], _, [], hW', trodAll_mk1 (shut_bool Try.underlying4 _), (trodAll_cons_mk (Below.trod laidOut (by kernel_rfl) (of_decide_eq_true (by kernel_rfl)) k0 bel lt0) (trodAll_cons_mk (shut_int Try.underlying3 w1) (trodAll_cons_mk (shut_int Try.underlying3 w2) (trodAll_cons_mk (shut_int Try.underlying3 w3) trodAll_mk0)))), rfl, bel.frame _, fun h => by cases h⟩

theorem over : Rows.eventsSplitsRow.holds Try.pinned (OpenSpec.ofChange Rows.eventsSplitsSpec) :=
  OpenClaim.holds_of_wide 9 Try.f9 rfl rfl rfl rfl rfl rfl rfl ⟨rfl, rfl, rfl, rfl, rfl⟩ rfl rfl rfl rfl rfl (by kernel_rfl) Try.func9 (by kernel_rfl)
    (of_decide_eq_true (by kernel_rfl)) (by unfold Func.isWrapper; first | (rw [if_pos (by decide +kernel)]; kernel_rfl) | (rw [if_neg (by decide +kernel)]; exact ⟨rfl, rfl⟩))
    (fun os started H enc _ => lifted os started H enc)

end Go.Proofs.Ytdlaghjijfgncaa.eventsSplits
namespace Go.Proofs.Ytdlaghjijfgncaa
/-- The statement. -/
theorem eventsSplits_holds : Rows.EventsSplitsSaid := eventsSplits.over
#print axioms eventsSplits_holds
end Go.Proofs.Ytdlaghjijfgncaa
