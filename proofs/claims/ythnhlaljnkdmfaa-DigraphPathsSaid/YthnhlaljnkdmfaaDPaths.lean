/- The law DigraphPaths returns true for all numbers and every list of edges, and leaves its arguments as they were. Conditions: none beyond the row's own. -/
import Derived.Test.YthnhlaljnkdmfaaRows
import Derived.WalkKit
import Derived.ProofKit
import Derived.OpenShut
import Derived.ShutString
import Derived.ChangeOld
import Derived.Below
import Derived.Test.YthnhlaljnkdmfaaDlp
import Derived.Test.YthnhlaljnkdmfaaDge
import Derived.Test.YthnhlaljnkdmfaaRowk
namespace Go.Proofs.Ythnhlaljnkdmfaa.digraphPaths
open Go.ChangeShapes Go.WideShapes Go.ChangeAt Go.RowKit
set_option linter.unusedVariables false
set_option linter.unusedSimpArgs false
open Go.ChangeMaps (open_string shut_string)
set_option linter.unusedVariables false

theorem own : ownKnob Try.prog.godebug = none := by kernel_rfl
theorem laidOut : laidOutB Try.prog = true := by kernel_rfl

set_option maxRecDepth 100000 in
set_option maxHeartbeats 16000000 in
theorem walk (n : Int) (v1 : Value) (x1 : Sl (Int × Int)) (a b : Int) (w : World) (w0 : (Lit.int .i64 n).wf = true) (w1 : v1 = vSl x1 ∧ gSl eEi 2 gEd w x1) (w2 : (Lit.int .i64 a).wf = true) (w3 : (Lit.int .i64 b).wf = true) :
    Calls Try.prog 9 #[.int .i64 n, v1, .int .i64 a, .int .i64 b] w fun e w' => e = .returned (.bool true) ∧ Below w.heap.size w w' := by
  obtain ⟨rfl, hx⟩ := w1
  have hE : IsEis w (vSl x1) x1.xs := hx.isL
  clear hx w0 w2 w3
  obtain ⟨xa, xc, E⟩ := x1
  simp only at hE
  have hlg := fun W => large_any n xa E.length xc W
  have hvr := fun W (hW : IsEis W (vSl ⟨xa, xc, E⟩) E) => r8valid_any n E _ W hW
  go_enter Try.func9, Try.ntmps9
  go_wp2_with fail
  refine Calls.to (d8awake_any _) ?_
  rintro e w1 rfl hb1
  have hE1 := hE.mono hb1
  go_wp2_with fail
  refine (hlg _).mono ?_
  rintro e w1' ⟨rfl, rfl⟩
  clear hlg
  generalize largeB n E.length = lg
  cases lg
  rotate_left
  · go_wp2_with fail
    go_ret
    exact ⟨rfl, hb1⟩
  cases hvb : validB n E
  · rw [hvb] at hvr
    go_wp2_with fail
    refine Calls.go hb1 (path_bad n E a b _ _ hE1 hvb) ?_
    rintro e w2 rfl hb2 hbb2
    go_wp2_with fail
    refine Calls.go hbb2 (parts_bad n E _ _ (hE.mono hbb2) hvb) ?_
    rintro e w3 rfl hb3 hbb3
    go_wp2_with fail
    refine Calls.go hbb3 (hvr _ (hE.mono hbb3)) ?_
    rintro e w4 rfl hb4 hbb4
    go_wp2_with fail
    go_ret
    exact ⟨rfl, hbb4⟩
  · rw [hvb] at hvr
    obtain ⟨N, G, rfl, rfl, hv, hN, hG⟩ := validB_nat hvb
    have hEG := isL_edI.1 hE
    have hpl : (prtL N G).length ≤ 1000000 := by have := prtK_cnt N (bothE G) N; unfold prtL; omega
    cases hab : (isB N a && isB N b)
    · go_wp2_with fail
      refine Calls.go hb1 (path_rng N (edI G) a b _ _ hE1 hvb hab) ?_
      rintro e w2 rfl hb2 hbb2
      go_wp2_with fail
      refine Calls.go hbb2 (parts_ok N G _ _ (hEG.mono hbb2) hv hN hG) ?_
      rintro e w3 ⟨pu, us, rfl, hP⟩ hb3 hbb3
      go_wp2_with fail
      refine Calls.go hbb3 (hvr _ (isL_edI.2 (hEG.mono hbb3))) ?_
      rintro e w4 rfl hb4 hbb4
      go_wp2_with fail
      refine Calls.go hbb4 (r8parts_any N G _ _ (hEG.mono hbb4) hv hN hG) ?_
      rintro e w5 ⟨qu, us2, rfl, hQ⟩ hb5 hbb5
      go_wp2_with fail
      refine Calls.go hbb5 (eqF_same _ _ _ _ _ _ _ _ ((hP.below hb4).below hb5) hQ hpl) ?_
      rintro e w6 rfl hb6 hbb6
      cases g1 : decide (a < 0)
      rotate_left
      · go_wp2_with fail
        go_ret
        exact ⟨rfl, hbb6⟩
      cases g2 : decide ((N : Int) ≤ a)
      rotate_left
      · go_wp2_with fail
        go_ret
        exact ⟨rfl, hbb6⟩
      cases g3 : decide (b < 0)
      rotate_left
      · go_wp2_with fail
        go_ret
        exact ⟨rfl, hbb6⟩
      cases g4 : decide ((N : Int) ≤ b)
      rotate_left
      · go_wp2_with fail
        go_ret
        exact ⟨rfl, hbb6⟩
      exfalso
      simp [isB] at hab g1 g2 g3 g4
      omega
    · obtain ⟨a', rfl⟩ : ∃ a' : Nat, a = a' := ⟨a.toNat, by simp [isB] at hab; omega⟩
      obtain ⟨b', rfl⟩ : ∃ b' : Nat, b = b' := ⟨b.toNat, by simp [isB] at hab; omega⟩
      have haN : a' < N := by simp [isB] at hab; omega
      have hbN : b' < N := by simp [isB] at hab; omega
      clear hab
      go_wp2_with fail
      refine Calls.go hb1 (path_ok N G a' b' _ _ (hEG.mono hb1) hv hN hG haN hbN) ?_
      rintro e w2 ⟨u, c, rfl, hor⟩ hb2 hbb2
      go_wp2_with fail
      refine Calls.go hbb2 (parts_ok N G _ _ (hEG.mono hbb2) hv hN hG) ?_
      rintro e w3 ⟨pu, us, rfl, hP⟩ hb3 hbb3
      go_wp2_with fail
      refine Calls.go hbb3 (hvr _ (isL_edI.2 (hEG.mono hbb3))) ?_
      rintro e w4 rfl hb4 hbb4
      go_wp2_with fail
      refine Calls.go hbb4 (r8parts_any N G _ _ (hEG.mono hbb4) hv hN hG) ?_
      rintro e w5 ⟨qu, us2, rfl, hQ⟩ hb5 hbb5
      go_wp2_with fail
      refine Calls.go hbb5 (eqF_same _ _ _ _ _ _ _ _ ((hP.below hb4).below hb5) hQ hpl) ?_
      rintro e w6 rfl hb6 hbb6
      have g1 : decide ((a' : Int) < 0) = false := decide_eq_false (by omega)
      have g2 : decide ((N : Int) ≤ a') = false := decide_eq_false (by omega)
      have g2' : decide (N ≤ a') = false := decide_eq_false (by omega)
      have g3 : decide ((b' : Int) < 0) = false := decide_eq_false (by omega)
      have g4 : decide ((N : Int) ≤ b') = false := decide_eq_false (by omega)
      have g4' : decide (N ≤ b') = false := decide_eq_false (by omega)
      go_wp2_with fail
      refine Calls.go hbb6 (r8path_any N G a' b' _ _ (hEG.mono hbb6) hv hN hG haN hbN) ?_
      rintro e w7 ⟨ru, rc, rfl, horr⟩ hb7 hbb7
      rcases hor with ⟨h0, rfl, rfl⟩ | ⟨l, h0, rfl, hO⟩
      · rcases horr with ⟨h1, rfl, rfl⟩ | ⟨l, h1, rfl, hR⟩
        · go_wp2_with fail
          go_ret
          exact ⟨rfl, hbb7⟩
        · rw [h0] at h1; cases h1
      · rcases horr with ⟨h1, rfl, rfl⟩ | ⟨l2, h1, rfl, hR⟩
        · rw [h0] at h1; cases h1
        · rw [h0] at h1
          injection h1 with h1
          subst h1
          have iO := (((((hO.below hb3).below hb4).below hb5).below hb6).below hb7).isL (fun _ => rfl)
          have iR := hR.isL (fun _ => rfl)
          clear hO hR h0
          go_wp2_with fail
          refine Calls.go hbb7 (eqN_same _ _ _ _ iO iR) ?_
          rintro e w8 rfl hb8 hbb8
          go_wp2_with fail
          go_ret
          exact ⟨rfl, hbb8⟩

/-! ### The row -/
set_option maxRecDepth 100000 in
theorem lifted (os : Os) (started : os.Started) (H : Type) (enc : TypeId × Value → H) :
    ReturnsInHanded {} Try.checked os 9 .any (Rows.digraphPathsSpec.pre6 enc Try.prog Try.f9 Rows.digraphPathsRow.domain false) (Rows.digraphPathsSpec.post enc Try.prog Try.f9 false true false false) := by
  refine returnsInHanded_of_change (C := Try.checked) own started (by kernel_rfl) Try.func9
    (ChangeSpec.witness6 (enc := enc) (C := Try.checked) false ⟨#[], #[.int .i64 0, .slice none 0 0, .int .i64 0, .int .i64 0], []⟩ 8 (by kernel_rfl) (by kernel_rfl) (by kernel_rfl) (by kernel_rfl)) ?_
  intro W base args ds gs before hval0 hW hcnd _
  have hval : ∀ (j : Nat) t v, Try.f9.params[j]? = some t → args[j]? = some v → Value.okWide Try.prog W .any base t v := hval0
  have hW' := hW
  obtain ⟨p, q, hA0, hV, rfl, hfz, hnd⟩ := hW
  have hA : DataW.TrodAll enc Try.prog W 0 (fun _ => true) true Try.f9.params.toList args.toList ds p := hA0
  rw [Try.params9] at hA hval
  obtain ⟨v0, vs0, d0, ds0, p0, q0, hargs, rfl, rfl, h0, r0⟩ := trodAll_cons hA
  obtain ⟨v1, vs1, d1, ds1, p1, q1, rfl, rfl, rfl, h1, r1⟩ := trodAll_cons r0
  obtain ⟨v2, vs2, d2, ds2, p2, q2, rfl, rfl, rfl, h2, r2⟩ := trodAll_cons r1
  obtain ⟨v3, vs3, d3, ds3, p3, q3, rfl, rfl, rfl, h3, r3⟩ := trodAll_cons r2
  obtain ⟨rfl, rfl, rfl⟩ := trodAll_nil r3
  obtain rfl : args = #[v0, v1, v2, v3] := by cases args; simp_all
  obtain ⟨rfl, rfl⟩ := trodVars_none hV
  obtain ⟨a0, rfl, rfl, rfl, w0⟩ := open_int Try.underlying3 (hval 0 3 v0 rfl rfl) h0
  have k1 := h1
  have lt1 : ∀ x ∈ p1, x.block < W.heap.size := by obtain ⟨m, hm⟩ := k1; exact DataW.trod_lt m _ _ _ hm
  obtain ⟨x1, w1⟩ := openEds (hval 1 22 v1 rfl rfl) h1
  obtain ⟨a2, rfl, rfl, rfl, w2⟩ := open_int Try.underlying3 (hval 2 3 v2 rfl rfl) h2
  obtain ⟨a3, rfl, rfl, rfl, w3⟩ := open_int Try.underlying3 (hval 3 3 v3 rfl rfl) h3
  clear hA0 hval0
  refine (walk a0 v1 x1 a2 a3 W w0 w1 w2 w3).mono fun e W' ⟨he, bel⟩ => ?_
  subst he
  exact ⟨_, rfl, _, _, _, [], _, [], hW', trodAll_mk1 (shut_bool Try.underlying4 _), (trodAll_cons_mk (shut_int Try.underlying3 w0) (trodAll_cons_mk (Below.trod laidOut (by kernel_rfl) (of_decide_eq_true (by kernel_rfl)) k1 bel lt1) (trodAll_cons_mk (shut_int Try.underlying3 w2) (trodAll_cons_mk (shut_int Try.underlying3 w3) trodAll_mk0)))), rfl, bel.frame _, fun h => by cases h⟩

theorem over : Rows.digraphPathsRow.holds Try.pinned (OpenSpec.ofChange Rows.digraphPathsSpec) :=
  OpenClaim.holds_of_wide 9 Try.f9 rfl rfl rfl rfl rfl rfl rfl ⟨rfl, rfl, rfl, rfl, rfl⟩ rfl rfl rfl rfl rfl (by kernel_rfl) Try.func9 (by kernel_rfl)
    (of_decide_eq_true (by kernel_rfl)) (by unfold Func.isWrapper; first | (rw [if_pos (by decide +kernel)]; kernel_rfl) | (rw [if_neg (by decide +kernel)]; exact ⟨rfl, rfl⟩))
    (fun os started H enc _ => lifted os started H enc)

end Go.Proofs.Ythnhlaljnkdmfaa.digraphPaths
namespace Go.Proofs.Ythnhlaljnkdmfaa
/-- The statement. -/
theorem digraphPaths_holds : Rows.DigraphPathsSaid := digraphPaths.over
#print axioms digraphPaths_holds
end Go.Proofs.Ythnhlaljnkdmfaa
