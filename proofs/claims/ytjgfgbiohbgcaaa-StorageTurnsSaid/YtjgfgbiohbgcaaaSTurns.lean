/- The law StorageTurns returns true for every node and all volumes, and leaves its arguments as they were. Conditions: none beyond the row's own. -/
import Derived.Test.YtjgfgbiohbgcaaaRows
import Derived.WalkKit
import Derived.ProofKit
import Derived.OpenShut
import Derived.ShutString
import Derived.ChangeOld
import Derived.Below
import Derived.Test.YtjgfgbiohbgcaaaSaw
import Derived.Test.YtjgfgbiohbgcaaaStp
import Derived.Test.YtjgfgbiohbgcaaaSpn
import Derived.Test.YtjgfgbiohbgcaaaRowk
namespace Go.Proofs.Ytjgfgbiohbgcaaa.storageTurns
open Go.ChangeShapes Go.WideShapes Go.ChangeAt Go.RowKit
set_option linter.unusedVariables false
set_option linter.unusedSimpArgs false
open Go.ChangeMaps (open_string shut_string)
set_option linter.unusedVariables false

theorem own : ownKnob Try.prog.godebug = none := by kernel_rfl
theorem laidOut : laidOutB Try.prog = true := by kernel_rfl

set_option maxRecDepth 100000 in
set_option maxHeartbeats 16000000 in
theorem walk (v0 : Value) (x0 : Nd) (a b : Int) (w : World) (w0 : v0 = vNd x0 ∧ gNd w x0) (w1 : (Lit.int .i64 a).wf = true) (w2 : (Lit.int .i64 b).wf = true) :
    Calls Try.prog 5 #[v0, .int .i64 a, .int .i64 b] w fun e w' => e = .returned (.bool true) ∧ Below w.heap.size w w' := by
  obtain ⟨rfl, hn⟩ := w0
  clear w1 w2
  have hb0 := alloc_below w (.cells (eNd x0).toArray 42)
  have HN := Lib.hid (rdNd.mono hn hb0)
  have HNX := Lib.hid (NdBx.new w x0 42)
  have hrn := fun W (hW : gNd W x0) => r26RightNode_any x0 W hW
  have hca := fun W (hW : gNd W x0) => scapX_any x0 W hW
  have hla := fun W (hW : gNd W x0) => slev_any x0 a W hW
  have hlb := fun W (hW : gNd W x0) => slev_any x0 b W hW
  have hva := fun W (hW : gNd W x0) => svol_any x0 (levV x0 a) W hW
  have hvb := fun W (hW : gNd W x0) => svol_any x0 (levV x0 b) W hW
  have hce := fun W (hW : gNd W x0) ht => tceil_any x0.Sh.xs (levV x0 a + 1 - x0.Inv) (vSl x0.Sh) W hW.sh.isL ht
  obtain ⟨nb, hnb⟩ : ∃ nb, ndB x0 = nb := ⟨_, rfl⟩
  rw [hnb] at hrn
  have HNB := Lib.hid hnb
  clear hnb hn
  cases l1 : decide ((110 : Int) < (x0.Sh.xs.length : Int))
  rotate_left
  · obtain ⟨m0, m1, m2, m3, m4, m5, m6, m7, m8⟩ := x0
    simp only at l1
    go_enter Try.func5, Try.ntmps5
    go_wp2_with fail
    refine Calls.go hb0 (s9awake_any _) ?_
    rintro e w1 rfl hb1' hb1
    have HNX := Lib.hid (HNX.out.mono hb1')
    have HN := Lib.hid (rdNd.mono HN.out hb1')
    obtain ⟨n0, n1, n2, n3, n4, n5, n6, n7, n8⟩ := HNX.out
    simp only at n0 n1 n2 n3 n4 n5 n6 n7 n8
    clear hb1' hb0
    go_wp2_with fail
    go_ret
    exact ⟨rfl, hb1⟩
  cases l2 : decide ((100 : Int) < (x0.Name.size : Int))
  rotate_left
  · obtain ⟨m0, m1, m2, m3, m4, m5, m6, m7, m8⟩ := x0
    simp only at l1 l2
    go_enter Try.func5, Try.ntmps5
    go_wp2_with fail
    refine Calls.go hb0 (s9awake_any _) ?_
    rintro e w1 rfl hb1' hb1
    have HNX := Lib.hid (HNX.out.mono hb1')
    have HN := Lib.hid (rdNd.mono HN.out hb1')
    obtain ⟨n0, n1, n2, n3, n4, n5, n6, n7, n8⟩ := HNX.out
    simp only at n0 n1 n2 n3 n4 n5 n6 n7 n8
    clear hb1' hb0
    go_wp2_with fail
    go_ret
    exact ⟨rfl, hb1⟩
  obtain ⟨m0, m1, m2, m3, m4, m5, m6, m7, m8⟩ := x0
  simp only at l1 l2
  go_enter Try.func5, Try.ntmps5
  go_wp2_with fail
  refine Calls.go hb0 (s9awake_any _) ?_
  rintro e w1 rfl hb1' hb1
  have HNX := Lib.hid (HNX.out.mono hb1')
  have HN := Lib.hid (rdNd.mono HN.out hb1')
  obtain ⟨n0, n1, n2, n3, n4, n5, n6, n7, n8⟩ := HNX.out
  simp only at n0 n1 n2 n3 n4 n5 n6 n7 n8
  clear hb1' hb0
  go_wp2_with fail
  refine Calls.go hb1 (hrn _ HN.out) ?_
  rintro e w2 rfl hb2' hb2
  clear n0 n1 n2 n3 n4 n5 n6 n7 n8
  have HNX := Lib.hid (HNX.out.mono hb2')
  have HN := Lib.hid (rdNd.mono HN.out hb2')
  obtain ⟨n0, n1, n2, n3, n4, n5, n6, n7, n8⟩ := HNX.out
  simp only at n0 n1 n2 n3 n4 n5 n6 n7 n8
  clear hb2' hb1 hrn
  cases nb
  · go_wp2_with fail
    go_ret
    exact ⟨rfl, hb2⟩
  cases t1 : decide (a < 0)
  rotate_left
  · go_wp2_with fail
    go_ret
    exact ⟨rfl, hb2⟩
  cases t2 : decide (b < a)
  rotate_left
  · go_wp2_with fail
    go_ret
    exact ⟨rfl, hb2⟩
  cases t3 : decide ((1125899906842624 : Int) < b)
  rotate_left
  · go_wp2_with fail
    go_ret
    exact ⟨rfl, hb2⟩
  have s1 := t1
  have s2 := t2
  have s3 := t3
  simp only [decide_eq_false_iff_not] at t1 t2 t3
  have hT := turned HNB.out (a := a) (b := b) (by omega) (by omega)
  have va : volB a = true := by simp [volB, btwB]; omega
  have vb : volB b = true := by simp [volB, btwB]; omega
  have hlv := ndB_lv HNB.out
  have HLV := Lib.hid hlv
  have e1 : capXB ⟨m0, m1, m2, m3, m4, m5, m6, m7, m8⟩ = (capB ⟨m0, m1, m2, m3, m4, m5, m6, m7, m8⟩, 0) := by simp [capXB, HNB.out]
  have e2 : levXM ⟨m0, m1, m2, m3, m4, m5, m6, m7, m8⟩ a = (levV ⟨m0, m1, m2, m3, m4, m5, m6, m7, m8⟩ a, 0) := by simp [levXM, HNB.out, va]
  have e3 : levXM ⟨m0, m1, m2, m3, m4, m5, m6, m7, m8⟩ b = (levV ⟨m0, m1, m2, m3, m4, m5, m6, m7, m8⟩ b, 0) := by simp [levXM, HNB.out, vb]
  have e4 : volXM ⟨m0, m1, m2, m3, m4, m5, m6, m7, m8⟩ (levV ⟨m0, m1, m2, m3, m4, m5, m6, m7, m8⟩ a) = (volV ⟨m0, m1, m2, m3, m4, m5, m6, m7, m8⟩ (levV ⟨m0, m1, m2, m3, m4, m5, m6, m7, m8⟩ a), 0) := by
    have := hT.t1; have := hT.t2; have := hT.t3
    simp only at *
    simp [volXM, HNB.out, btwB]; omega
  have e5 : volXM ⟨m0, m1, m2, m3, m4, m5, m6, m7, m8⟩ (levV ⟨m0, m1, m2, m3, m4, m5, m6, m7, m8⟩ b) = (volV ⟨m0, m1, m2, m3, m4, m5, m6, m7, m8⟩ (levV ⟨m0, m1, m2, m3, m4, m5, m6, m7, m8⟩ b), 0) := by
    have := hT.t1; have := hT.t2; have := hT.t3
    simp only at *
    simp [volXM, HNB.out, btwB]; omega
  rw [e1] at hca; rw [e2] at hla; rw [e3] at hlb; rw [e4] at hva; rw [e5] at hvb
  simp only at hca hla hlb hva hvb hce
  obtain ⟨q1, q2, q3, q4, q5, q6, q7, q8, q9⟩ := hT
  simp only at q2 q3 q7 q8 q9
  clear e1 e2 e3 e4 e5 va vb t1 t2 t3
  generalize volV ⟨m0, m1, m2, m3, m4, m5, m6, m7, m8⟩ (levV ⟨m0, m1, m2, m3, m4, m5, m6, m7, m8⟩ a) = VA at *
  generalize volV ⟨m0, m1, m2, m3, m4, m5, m6, m7, m8⟩ (levV ⟨m0, m1, m2, m3, m4, m5, m6, m7, m8⟩ b) = VB at *
  generalize levV ⟨m0, m1, m2, m3, m4, m5, m6, m7, m8⟩ a = LA at *
  generalize levV ⟨m0, m1, m2, m3, m4, m5, m6, m7, m8⟩ b = LB at *
  generalize capB ⟨m0, m1, m2, m3, m4, m5, m6, m7, m8⟩ = CP at *
  have u1 : decide (LB < LA) = false := decide_eq_false (by omega)
  have u2 : decide (LA < m4) = false := decide_eq_false (by omega)
  have u3 : decide (m5 < LB) = false := decide_eq_false (by omega)
  have u4 : decide (VB < VA) = false := decide_eq_false (by omega)
  have u5 : decide (a < VA) = false := decide_eq_false (by omega)
  have u6 : decide (CP < VB) = false := decide_eq_false (by omega)
  simp only at hlv
  have x1 : IntKind.i64.wrap (LA + 1) = LA + 1 := IntWalk.i64_in _ (by omega)
  have x2 : IntKind.i64.wrap (LA + 1 - m4) = LA + 1 - m4 := IntWalk.i64_in _ (by omega)
  clear q1 q2 q3 q4 q5 q6 hlv HLV
  have Q7 := Lib.hid q7
  have Q8 := Lib.hid q8
  have Q9 := Lib.hid q9
  clear q7 q8 q9
  go_wp2_with fail
  refine Calls.go hb2 (hca _ HN.out) ?_
  rintro e w3 rfl hb3' hb3
  clear n0 n1 n2 n3 n4 n5 n6 n7 n8
  have HNX := Lib.hid (HNX.out.mono hb3')
  have HN := Lib.hid (rdNd.mono HN.out hb3')
  obtain ⟨n0, n1, n2, n3, n4, n5, n6, n7, n8⟩ := HNX.out
  simp only at n0 n1 n2 n3 n4 n5 n6 n7 n8
  clear hb3' hb2 hca
  go_wp2_with fail
  refine Calls.go hb3 (hla _ HN.out) ?_
  rintro e w4 rfl hb4' hb4
  clear n0 n1 n2 n3 n4 n5 n6 n7 n8
  have HNX := Lib.hid (HNX.out.mono hb4')
  have HN := Lib.hid (rdNd.mono HN.out hb4')
  obtain ⟨n0, n1, n2, n3, n4, n5, n6, n7, n8⟩ := HNX.out
  simp only at n0 n1 n2 n3 n4 n5 n6 n7 n8
  clear hb4' hb3 hla
  go_wp2_with fail
  refine Calls.go hb4 (hlb _ HN.out) ?_
  rintro e w5 rfl hb5' hb5
  clear n0 n1 n2 n3 n4 n5 n6 n7 n8
  have HNX := Lib.hid (HNX.out.mono hb5')
  have HN := Lib.hid (rdNd.mono HN.out hb5')
  obtain ⟨n0, n1, n2, n3, n4, n5, n6, n7, n8⟩ := HNX.out
  simp only at n0 n1 n2 n3 n4 n5 n6 n7 n8
  clear hb5' hb4 hlb
  go_wp2_with fail
  refine Calls.go hb5 (hva _ HN.out) ?_
  rintro e w6 rfl hb6' hb6
  clear n0 n1 n2 n3 n4 n5 n6 n7 n8
  have HNX := Lib.hid (HNX.out.mono hb6')
  have HN := Lib.hid (rdNd.mono HN.out hb6')
  obtain ⟨n0, n1, n2, n3, n4, n5, n6, n7, n8⟩ := HNX.out
  simp only at n0 n1 n2 n3 n4 n5 n6 n7 n8
  clear hb6' hb5 hva
  go_wp2_with fail
  refine Calls.go hb6 (hvb _ HN.out) ?_
  rintro e w7 rfl hb7' hb7
  clear n0 n1 n2 n3 n4 n5 n6 n7 n8
  have HNX := Lib.hid (HNX.out.mono hb7')
  have HN := Lib.hid (rdNd.mono HN.out hb7')
  obtain ⟨n0, n1, n2, n3, n4, n5, n6, n7, n8⟩ := HNX.out
  simp only at n0 n1 n2 n3 n4 n5 n6 n7 n8
  clear hb7' hb6 hvb
  by_cases k3 : m1 = 3
  · obtain ⟨rfl, rfl, rfl⟩ := Q7.out k3
    have k3b : (m1 == 3) = true := beqT k3
    have k4 : (LA == LA) = true := by simp
    clear k3
    go_wp2_with fail
    go_ret
    exact ⟨rfl, hb7⟩
  have k3b : (m1 == 3) = false := beqF k3
  by_cases kg : LA = m5
  · obtain ⟨rfl, g2⟩ := Q8.out k3 kg
    have g2b := decide_eq_true g2
    have kgb : (LA == m5) = true := beqT kg
    have k5 : (VA == VA) = true := by simp
    clear k3 kg g2
    go_wp2_with fail
    go_ret
    exact ⟨rfl, hb7⟩
  · obtain ⟨g1, g2⟩ := Q9.out k3 kg
    have g1b := decide_eq_true g1
    have kgb : (LA == m5) = false := beqF kg
    have hce := fun W hW => hce W hW g2
    clear k3 kg g1 g2
    generalize tabC m6.xs (LA + 1 - m4) = NX at *
    obtain ⟨sa, sc, sxs⟩ := m6
    simp only [vSl] at hce n6
    go_wp2_with fail
    refine Calls.go hb7 (hce _ HN.out) ?_
    rintro e w8 rfl _ hb8
    go_wp2_with fail
    go_ret
    exact ⟨rfl, hb8⟩

/-! ### The row -/
set_option maxRecDepth 100000 in
theorem lifted (os : Os) (started : os.Started) (H : Type) (enc : TypeId × Value → H) :
    ReturnsInHanded {} Try.checked os 5 .any (Rows.storageTurnsSpec.pre6 enc Try.prog Try.f5 Rows.storageTurnsRow.domain false) (Rows.storageTurnsSpec.post enc Try.prog Try.f5 false true false false) := by
  refine returnsInHanded_of_change (C := Try.checked) own started (by kernel_rfl) Try.func5
    (ChangeSpec.witness6 (enc := enc) (C := Try.checked) false ⟨#[], #[.agg #[.string ⟨#[]⟩, .int .i64 0, .int .i64 0, .int .i64 0, .int .i64 0, .int .i64 0, .slice none 0 0, .bool false, .int .i64 0], .int .i64 0, .int .i64 0], []⟩ 8 (by kernel_rfl) (by kernel_rfl) (by kernel_rfl) (by kernel_rfl)) ?_
  intro W base args ds gs before hval0 hW hcnd _
  have hval : ∀ (j : Nat) t v, Try.f5.params[j]? = some t → args[j]? = some v → Value.okWide Try.prog W .any base t v := hval0
  have hW' := hW
  obtain ⟨p, q, hA0, hV, rfl, hfz, hnd⟩ := hW
  have hA : DataW.TrodAll enc Try.prog W 0 (fun _ => true) true Try.f5.params.toList args.toList ds p := hA0
  rw [Try.params5] at hA hval
  obtain ⟨v0, vs0, d0, ds0, p0, q0, hargs, rfl, rfl, h0, r0⟩ := trodAll_cons hA
  obtain ⟨v1, vs1, d1, ds1, p1, q1, rfl, rfl, rfl, h1, r1⟩ := trodAll_cons r0
  obtain ⟨v2, vs2, d2, ds2, p2, q2, rfl, rfl, rfl, h2, r2⟩ := trodAll_cons r1
  obtain ⟨rfl, rfl, rfl⟩ := trodAll_nil r2
  obtain rfl : args = #[v0, v1, v2] := by cases args; simp_all
  obtain ⟨rfl, rfl⟩ := trodVars_none hV
  have k0 := h0
  have lt0 : ∀ x ∈ p0, x.block < W.heap.size := by obtain ⟨m, hm⟩ := k0; exact DataW.trod_lt m _ _ _ hm
  obtain ⟨x0, w0⟩ := openNd (hval 0 42 v0 rfl rfl) h0
  obtain ⟨a1, rfl, rfl, rfl, w1⟩ := open_int Try.underlying3 (hval 1 3 v1 rfl rfl) h1
  obtain ⟨a2, rfl, rfl, rfl, w2⟩ := open_int Try.underlying3 (hval 2 3 v2 rfl rfl) h2
  clear hA0 hval0
  refine (walk v0 x0 a1 a2 W w0 w1 w2).mono fun e W' ⟨he, bel⟩ => ?_
  subst he
  exact ⟨_, rfl, _, _, _, [], _, [], hW', trodAll_mk1 (shut_bool Try.underlying4 _), (trodAll_cons_mk (Below.trod laidOut (by kernel_rfl) (of_decide_eq_true (by kernel_rfl)) k0 bel lt0) (trodAll_cons_mk (shut_int Try.underlying3 w1) (trodAll_cons_mk (shut_int Try.underlying3 w2) trodAll_mk0))), rfl, bel.frame _, fun h => by cases h⟩

theorem over : Rows.storageTurnsRow.holds Try.pinned (OpenSpec.ofChange Rows.storageTurnsSpec) :=
  OpenClaim.holds_of_wide 5 Try.f5 rfl rfl rfl rfl rfl rfl rfl ⟨rfl, rfl, rfl, rfl, rfl⟩ rfl rfl rfl rfl rfl (by kernel_rfl) Try.func5 (by kernel_rfl)
    (of_decide_eq_true (by kernel_rfl)) (by unfold Func.isWrapper; first | (rw [if_pos (by decide +kernel)]; kernel_rfl) | (rw [if_neg (by decide +kernel)]; exact ⟨rfl, rfl⟩))
    (fun os started H enc _ => lifted os started H enc)

end Go.Proofs.Ytjgfgbiohbgcaaa.storageTurns
namespace Go.Proofs.Ytjgfgbiohbgcaaa
/-- The statement. -/
theorem storageTurns_holds : Rows.StorageTurnsSaid := storageTurns.over
#print axioms storageTurns_holds
end Go.Proofs.Ytjgfgbiohbgcaaa
