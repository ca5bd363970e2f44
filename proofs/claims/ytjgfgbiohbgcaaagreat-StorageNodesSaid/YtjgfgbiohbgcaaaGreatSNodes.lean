/- The law StorageNodes returns true for every node and all numbers, and leaves its arguments as they were. Conditions: none beyond the row's own. -/
import Derived.Test.YtjgfgbiohbgcaaaGreatRows
import Derived.WalkKit
import Derived.ProofKit
import Derived.OpenShut
import Derived.ShutString
import Derived.ChangeOld
import Derived.Below
import Derived.Test.YtjgfgbiohbgcaaaGreatSaw
import Derived.Test.YtjgfgbiohbgcaaaGreatSnr
import Derived.Test.YtjgfgbiohbgcaaaGreatMRef
import Derived.Test.YtjgfgbiohbgcaaaGreatSpn
import Derived.Test.YtjgfgbiohbgcaaaGreatRowk
namespace Go.Proofs.YtjgfgbiohbgcaaaGreat.storageNodes
open Go.ChangeShapes Go.WideShapes Go.ChangeAt Go.RowKit
set_option linter.unusedVariables false
set_option linter.unusedSimpArgs false
open Go.ChangeMaps (open_string shut_string)
set_option linter.unusedVariables false

theorem own : ownKnob Tryz.prog.godebug = none := by kernel_rfl
theorem laidOut : laidOutB Tryz.prog = true := by kernel_rfl

set_option maxRecDepth 100000 in
set_option maxHeartbeats 16000000 in
theorem walk (v0 : Value) (x0 : Nd) (a b : Int) (w : World) (w0 : v0 = vNd x0 ∧ gNd w x0) (w1 : (Lit.int .i64 a).wf = true) (w2 : (Lit.int .i64 b).wf = true) :
    Calls Tryz.prog 3 #[v0, .int .i64 a, .int .i64 b] w fun e w' => e = .returned (.bool true) ∧ Below w.heap.size w w' := by
  obtain ⟨rfl, hn⟩ := w0
  clear w1 w2
  have hb0 := alloc_below w (.cells (eNd x0).toArray 27)
  have HN := Lib.hid (rdNd.mono hn hb0)
  have HNX := Lib.hid (NdBx.new w x0 27)
  have hrn := fun W (hW : gNd W x0) => r26RightNode_any x0 W hW
  have hca := fun W (hW : gNd W x0) => scapX_any x0 W hW
  have hla := fun W (hW : gNd W x0) => slev_any x0 a W hW
  have hva := fun W (hW : gNd W x0) => svol_any x0 b W hW
  have hrc := fun W (hW : gNd W x0) hok => r29cap_any x0 W hW hok
  have hrl := fun W (hW : gNd W x0) h1 h2 => r29lev_any x0 a W hW h1 h2
  have hrv := fun W (hW : gNd W x0) h1 h2 => r29vol_any x0 b W hW h1 h2
  have hri := fun W => r29islev_any x0 b W
  have hrs := fun W => r29isv_any a W
  obtain ⟨nb, hnb⟩ : ∃ nb, ndB x0 = nb := ⟨_, rfl⟩
  obtain ⟨vb, hvb⟩ : ∃ vb, volB a = vb := ⟨_, rfl⟩
  obtain ⟨lb, hlb⟩ : ∃ lb, btwB b x0.Inv x0.Gr = lb := ⟨_, rfl⟩
  obtain ⟨⟨C, G⟩, hC⟩ : ∃ r, capXB x0 = r := ⟨_, rfl⟩
  obtain ⟨⟨L, E⟩, hL⟩ : ∃ r, levXM x0 a = r := ⟨_, rfl⟩
  obtain ⟨⟨V, F⟩, hV⟩ : ∃ r, volXM x0 b = r := ⟨_, rfl⟩
  rw [hnb] at hrn
  rw [hC] at hca
  rw [hL] at hla
  rw [hV] at hva
  rw [hlb] at hri
  rw [hvb] at hrs
  have HC : Hid ((C, G) = if nb then (capB x0, 0) else (0, 1)) := Lib.hid (hC.symm.trans (by unfold capXB; rw [hnb]))
  have HL : Hid ((L, E) = if nb = false then (0, 1) else if vb = false then (0, 2) else (levV x0 a, 0)) := Lib.hid (hL.symm.trans (by unfold levXM; rw [hnb, hvb]))
  have HV : Hid ((V, F) = if nb = false then (0, 1) else if lb = false then (0, 2) else (volV x0 b, 0)) := Lib.hid (hV.symm.trans (by unfold volXM; rw [hnb, hlb]))
  have hok : nb = true → x0.Kind = 3 ∨ 1 ≤ x0.Sh.xs.length := fun h => ndB_kn (hnb.trans h)
  have hrc := fun W hW h => hrc W hW (hok h)
  have hrl := fun W hW h1 h2 => hrl W hW (hnb.trans h1) (hvb.trans h2)
  have hrv := fun W hW h1 h2 => hrv W hW (hnb.trans h1) (hlb.trans h2)
  clear hok hC hL hV hnb hvb hlb hn
  simp only at hca hla hva
  generalize capB x0 = CP at *
  generalize levV x0 a = LA at *
  generalize volV x0 b = VA at *
  cases l1 : decide ((110 : Int) < (x0.Sh.xs.length : Int))
  rotate_left
  · obtain ⟨m0, m1, m2, m3, m4, m5, m6, m7, m8⟩ := x0
    simp only at l1
    go_enter Tryz.func3, Tryz.ntmps3
    go_wp2_with fail
    refine Calls.go hb0 (s9awake_any _) ?_
    rintro e w1 rfl hb1' hb1
    have HNX := Lib.hid (HNX.out.mono hb1')
    have HN := Lib.hid (rdNd.mono HN.out hb1')
    obtain ⟨n0, n1, n2, n3, n4, n5, n6, n7, n8⟩ := HNX.out
    simp only at n0 n1 n2 n3 n4 n5 n6 n7 n8
    clear hb1' hb0
    go_wp2_with fail
    go_ret
    exact ⟨rfl, hb1⟩
  cases l2 : decide ((100 : Int) < (x0.Name.size : Int))
  rotate_left
  · obtain ⟨m0, m1, m2, m3, m4, m5, m6, m7, m8⟩ := x0
    simp only at l1 l2
    go_enter Tryz.func3, Tryz.ntmps3
    go_wp2_with fail
    refine Calls.go hb0 (s9awake_any _) ?_
    rintro e w1 rfl hb1' hb1
    have HNX := Lib.hid (HNX.out.mono hb1')
    have HN := Lib.hid (rdNd.mono HN.out hb1')
    obtain ⟨n0, n1, n2, n3, n4, n5, n6, n7, n8⟩ := HNX.out
    simp only at n0 n1 n2 n3 n4 n5 n6 n7 n8
    clear hb1' hb0
    go_wp2_with fail
    go_ret
    exact ⟨rfl, hb1⟩
  obtain ⟨m0, m1, m2, m3, m4, m5, m6, m7, m8⟩ := x0
  simp only at l1 l2
  go_enter Tryz.func3, Tryz.ntmps3
  go_wp2_with fail
  refine Calls.go hb0 (s9awake_any _) ?_
  rintro e w1 rfl hb1' hb1
  have HNX := Lib.hid (HNX.out.mono hb1')
  have HN := Lib.hid (rdNd.mono HN.out hb1')
  obtain ⟨n0, n1, n2, n3, n4, n5, n6, n7, n8⟩ := HNX.out
  simp only at n0 n1 n2 n3 n4 n5 n6 n7 n8
  clear hb1' hb0
  go_wp2_with fail
  refine Calls.go hb1 (hca _ HN.out) ?_
  rintro e w2 rfl hb2' hb2
  clear n0 n1 n2 n3 n4 n5 n6 n7 n8
  have HNX := Lib.hid (HNX.out.mono hb2')
  have HN := Lib.hid (rdNd.mono HN.out hb2')
  obtain ⟨n0, n1, n2, n3, n4, n5, n6, n7, n8⟩ := HNX.out
  simp only at n0 n1 n2 n3 n4 n5 n6 n7 n8
  clear hb2' hb1 hca
  go_wp2_with fail
  refine Calls.go hb2 (hla _ HN.out) ?_
  rintro e w3 rfl hb3' hb3
  clear n0 n1 n2 n3 n4 n5 n6 n7 n8
  have HNX := Lib.hid (HNX.out.mono hb3')
  have HN := Lib.hid (rdNd.mono HN.out hb3')
  obtain ⟨n0, n1, n2, n3, n4, n5, n6, n7, n8⟩ := HNX.out
  simp only at n0 n1 n2 n3 n4 n5 n6 n7 n8
  clear hb3' hb2 hla
  go_wp2_with fail
  refine Calls.go hb3 (hva _ HN.out) ?_
  rintro e w4 rfl hb4' hb4
  clear n0 n1 n2 n3 n4 n5 n6 n7 n8
  have HNX := Lib.hid (HNX.out.mono hb4')
  have HN := Lib.hid (rdNd.mono HN.out hb4')
  obtain ⟨n0, n1, n2, n3, n4, n5, n6, n7, n8⟩ := HNX.out
  simp only at n0 n1 n2 n3 n4 n5 n6 n7 n8
  clear hb4' hb3 hva
  go_wp2_with fail
  refine Calls.go hb4 (hrn _ HN.out) ?_
  rintro e w5 rfl hb5' hb5
  clear n0 n1 n2 n3 n4 n5 n6 n7 n8
  have HNX := Lib.hid (HNX.out.mono hb5')
  have HN := Lib.hid (rdNd.mono HN.out hb5')
  obtain ⟨n0, n1, n2, n3, n4, n5, n6, n7, n8⟩ := HNX.out
  simp only at n0 n1 n2 n3 n4 n5 n6 n7 n8
  clear hb5' hb4 hrn
  cases nb
  · have h1 := HC.out
    have h2 := HL.out
    have h3 := HV.out
    rw [if_neg (by simp)] at h1
    rw [if_pos rfl] at h2 h3
    simp only [Prod.mk.injEq] at h1 h2 h3
    obtain ⟨rfl, rfl⟩ := h1
    obtain ⟨rfl, rfl⟩ := h2
    obtain ⟨rfl, rfl⟩ := h3
    go_wp2_with fail
    go_ret
    exact ⟨rfl, hb5⟩
  have h1 := HC.out
  have h2 := HL.out
  have h3 := HV.out
  rw [if_pos rfl] at h1
  rw [if_neg (by simp)] at h2 h3
  simp only [Prod.mk.injEq] at h1
  obtain ⟨rfl, rfl⟩ := h1
  have HL := Lib.hid h2
  have HV := Lib.hid h3
  have kC : (C == C) = true := by simp
  clear h2 h3 HC
  go_wp2_with fail
  refine Calls.go hb5 (hrc _ HN.out trivial) ?_
  rintro e w6 rfl hb6' hb6
  clear n0 n1 n2 n3 n4 n5 n6 n7 n8
  have HNX := Lib.hid (HNX.out.mono hb6')
  have HN := Lib.hid (rdNd.mono HN.out hb6')
  obtain ⟨n0, n1, n2, n3, n4, n5, n6, n7, n8⟩ := HNX.out
  simp only at n0 n1 n2 n3 n4 n5 n6 n7 n8
  clear hb6' hb5 hrc
  go_wp2_with fail
  refine (hrs _).mono ?_
  rintro _ _ ⟨rfl, rfl⟩
  cases vb
  · have h2 := HL.out
    rw [if_pos rfl] at h2
    simp only [Prod.mk.injEq] at h2
    obtain ⟨rfl, rfl⟩ := h2
    clear HL
    go_wp2_with fail
    refine Calls.go hb6 (hri _) ?_
    rintro e w7 rfl hb7' hb7
    clear n0 n1 n2 n3 n4 n5 n6 n7 n8
    have HNX := Lib.hid (HNX.out.mono hb7')
    have HN := Lib.hid (rdNd.mono HN.out hb7')
    obtain ⟨n0, n1, n2, n3, n4, n5, n6, n7, n8⟩ := HNX.out
    simp only at n0 n1 n2 n3 n4 n5 n6 n7 n8
    clear hb7' hb6 hri
    cases lb
    · have h2 := HV.out
      rw [if_pos rfl] at h2
      simp only [Prod.mk.injEq] at h2
      obtain ⟨rfl, rfl⟩ := h2
      clear HV
      go_wp2_with fail
      go_ret
      exact ⟨rfl, hb7⟩
    · have h2 := HV.out
      rw [if_neg (by simp)] at h2
      simp only [Prod.mk.injEq] at h2
      obtain ⟨rfl, rfl⟩ := h2
      have kV : (V == V) = true := by simp
      clear HV
      go_wp2_with fail
      refine Calls.go hb7 (hrv _ HN.out trivial trivial) ?_
      rintro e w8 rfl hb8' hb8
      go_wp2_with fail
      go_ret
      exact ⟨rfl, hb8⟩
  · have h2 := HL.out
    rw [if_neg (by simp)] at h2
    simp only [Prod.mk.injEq] at h2
    obtain ⟨rfl, rfl⟩ := h2
    have kL : (L == L) = true := by simp
    clear HL
    go_wp2_with fail
    refine Calls.go hb6 (hrl _ HN.out trivial trivial) ?_
    rintro e w7 rfl hb7' hb7
    clear n0 n1 n2 n3 n4 n5 n6 n7 n8
    have HNX := Lib.hid (HNX.out.mono hb7')
    have HN := Lib.hid (rdNd.mono HN.out hb7')
    obtain ⟨n0, n1, n2, n3, n4, n5, n6, n7, n8⟩ := HNX.out
    simp only at n0 n1 n2 n3 n4 n5 n6 n7 n8
    clear hb7' hb6 hrl
    go_wp2_with fail
    refine Calls.go hb7 (hri _) ?_
    rintro e w8 rfl hb8' hb8
    clear n0 n1 n2 n3 n4 n5 n6 n7 n8
    have HNX := Lib.hid (HNX.out.mono hb8')
    have HN := Lib.hid (rdNd.mono HN.out hb8')
    obtain ⟨n0, n1, n2, n3, n4, n5, n6, n7, n8⟩ := HNX.out
    simp only at n0 n1 n2 n3 n4 n5 n6 n7 n8
    clear hb8' hb7 hri
    cases lb
    · have h2 := HV.out
      rw [if_pos rfl] at h2
      simp only [Prod.mk.injEq] at h2
      obtain ⟨rfl, rfl⟩ := h2
      clear HV
      go_wp2_with fail
      go_ret
      exact ⟨rfl, hb8⟩
    · have h2 := HV.out
      rw [if_neg (by simp)] at h2
      simp only [Prod.mk.injEq] at h2
      obtain ⟨rfl, rfl⟩ := h2
      have kV : (V == V) = true := by simp
      clear HV
      go_wp2_with fail
      refine Calls.go hb8 (hrv _ HN.out trivial trivial) ?_
      rintro e w9 rfl hb9' hb9
      go_wp2_with fail
      go_ret
      exact ⟨rfl, hb9⟩

/-! ### The row -/
set_option maxRecDepth 100000 in
theorem lifted (os : Os) (started : os.Started) (H : Type) (enc : TypeId × Value → H) :
    ReturnsInHanded {} Tryz.checked os 3 .any (Rows.storageNodesSpec.pre6 enc Tryz.prog Tryz.f3 Rows.storageNodesRow.domain false) (Rows.storageNodesSpec.post enc Tryz.prog Tryz.f3 false true false false) := by
  refine returnsInHanded_of_change (C := Tryz.checked) own started (by kernel_rfl) Tryz.func3
    (ChangeSpec.witness6 (enc := enc) (C := Tryz.checked) false ⟨#[], #[.agg #[.string ⟨#[]⟩, .int .i64 0, .int .i64 0, .int .i64 0, .int .i64 0, .int .i64 0, .slice none 0 0, .bool false, .int .i64 0], .int .i64 0, .int .i64 0], []⟩ 8 (by kernel_rfl) (by kernel_rfl) (by kernel_rfl) (by kernel_rfl)) ?_
  intro W base args ds gs before hval0 hW hcnd _
  have hval : ∀ (j : Nat) t v, Tryz.f3.params[j]? = some t → args[j]? = some v → Value.okWide Tryz.prog W .any base t v := hval0
  have hW' := hW
  obtain ⟨p, q, hA0, hV, rfl, hfz, hnd⟩ := hW
  have hA : DataW.TrodAll enc Tryz.prog W 0 (fun _ => true) true Tryz.f3.params.toList args.toList ds p := hA0
  rw [Tryz.params3] at hA hval
  obtain ⟨v0, vs0, d0, ds0, p0, q0, hargs, rfl, rfl, h0, r0⟩ := trodAll_cons hA
  obtain ⟨v1, vs1, d1, ds1, p1, q1, rfl, rfl, rfl, h1, r1⟩ := trodAll_cons r0
  obtain ⟨v2, vs2, d2, ds2, p2, q2, rfl, rfl, rfl, h2, r2⟩ := trodAll_cons r1
  obtain ⟨rfl, rfl, rfl⟩ := trodAll_nil r2
  obtain rfl : args = #[v0, v1, v2] := by cases args; simp_all
  obtain ⟨rfl, rfl⟩ := trodVars_none hV
  have k0 := h0
  have lt0 : ∀ x ∈ p0, x.block < W.heap.size := by obtain ⟨m, hm⟩ := k0; exact DataW.trod_lt m _ _ _ hm
  obtain ⟨x0, w0⟩ := openNd (hval 0 27 v0 rfl rfl) h0
  obtain ⟨a1, rfl, rfl, rfl, w1⟩ := open_int Tryz.underlying3 (hval 1 3 v1 rfl rfl) h1
  obtain ⟨a2, rfl, rfl, rfl, w2⟩ := open_int Tryz.underlying3 (hval 2 3 v2 rfl rfl) h2
  clear hA0 hval0
  refine (walk v0 x0 a1 a2 W w0 w1 w2).mono fun e W' ⟨he, bel⟩ => ?_
  subst he
  exact ⟨_, rfl, _, _, _, [], _, [], hW', trodAll_mk1 (shut_bool Tryz.underlying4 _), (trodAll_cons_mk (Below.trod laidOut (by kernel_rfl) (of_decide_eq_true (by kernel_rfl)) k0 bel lt0) (trodAll_cons_mk (shut_int Tryz.underlying3 w1) (trodAll_cons_mk (shut_int Tryz.underlying3 w2) trodAll_mk0))), rfl, bel.frame _, fun h => by cases h⟩

theorem over : Rows.storageNodesRow.holds Tryz.pinned (OpenSpec.ofChange Rows.storageNodesSpec) :=
  OpenClaim.holds_of_wide 3 Tryz.f3 rfl rfl rfl rfl rfl rfl rfl ⟨rfl, rfl, rfl, rfl, rfl⟩ rfl rfl rfl rfl rfl (by kernel_rfl) Tryz.func3 (by kernel_rfl)
    (of_decide_eq_true (by kernel_rfl)) (by unfold Func.isWrapper; first | (rw [if_pos (by decide +kernel)]; kernel_rfl) | (rw [if_neg (by decide +kernel)]; exact ⟨rfl, rfl⟩))
    (fun os started H enc _ => lifted os started H enc)

end Go.Proofs.YtjgfgbiohbgcaaaGreat.storageNodes
namespace Go.Proofs.YtjgfgbiohbgcaaaGreat
/-- The statement. -/
theorem storageNodes_holds : Rows.StorageNodesSaid := storageNodes.over
#print axioms storageNodes_holds
end Go.Proofs.YtjgfgbiohbgcaaaGreat
