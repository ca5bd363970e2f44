/- The law DigraphReaches returns true for every number, every list of edges and every list of numbers, and leaves its arguments as they were. Conditions: none beyond the row's own. -/
import Derived.Test.YthnhlaljnkdmfaaRows
import Derived.WalkKit
import Derived.ProofKit
import Derived.OpenShut
import Derived.ShutString
import Derived.ChangeOld
import Derived.Below
import Derived.Test.YthnhlaljnkdmfaaDlr
import Derived.Test.YthnhlaljnkdmfaaDge
import Derived.Test.YthnhlaljnkdmfaaRowk
namespace Go.Proofs.Ythnhlaljnkdmfaa.digraphReaches
open Go.ChangeShapes Go.WideShapes Go.ChangeAt Go.RowKit
set_option linter.unusedVariables false
set_option linter.unusedSimpArgs false
open Go.ChangeMaps (open_string shut_string)
set_option linter.unusedVariables false

theorem own : ownKnob Try.prog.godebug = none := by kernel_rfl
theorem laidOut : laidOutB Try.prog = true := by kernel_rfl

set_option maxHeartbeats 1000000 in
theorem out1_any (n i : Int) (B : Nat) (w : World) (hc : w.cell? ⟨B, 0, none⟩ = some (.int .i64 n)) :
    Calls Try.prog 34 #[.int .i64 i, .pointer (some ⟨B, 0, none⟩)] w fun r w' => r = .returned (.bool (!isB n i)) ∧ Below w.heap.size w w' := by
  unfold isB
  cases h1 : decide (0 ≤ i)
  · have h1' : decide (i < 0) = true := by simp at h1 ⊢; exact h1
    go_enter Try.func34, Try.ntmps34
    go_wp2_with fail
    go_ret
    exact ⟨rfl, by repeat' (first | exact Below.refl _ _ | assumption | refine Below.more ?_ ?_ _ | refine Below.alloc ?_ ?_ _ | refine Below.drew ?_ | refine below_drewN ?_ _ | refine Below.setCell ?_ ?_ _ | exact Below.size (by assumption) | (simp [go_sem, size_more]; done) | (simp [go_sem, size_more]; omega))⟩
  · have h1' : decide (i < 0) = false := by simp at h1 ⊢; exact h1
    cases h2 : decide (i < n)
    · have h2' : decide (n ≤ i) = true := by simp at h2 ⊢; exact h2
      go_enter Try.func34, Try.ntmps34
      go_wp2_with fail
      go_ret
      exact ⟨rfl, by repeat' (first | exact Below.refl _ _ | assumption | refine Below.more ?_ ?_ _ | refine Below.alloc ?_ ?_ _ | refine Below.drew ?_ | refine below_drewN ?_ _ | refine Below.setCell ?_ ?_ _ | exact Below.size (by assumption) | (simp [go_sem, size_more]; done) | (simp [go_sem, size_more]; omega))⟩
    · have h2' : decide (n ≤ i) = false := by simp at h2 ⊢; exact h2
      go_enter Try.func34, Try.ntmps34
      go_wp2_with fail
      go_ret
      exact ⟨rfl, by repeat' (first | exact Below.refl _ _ | assumption | refine Below.more ?_ ?_ _ | refine Below.alloc ?_ ?_ _ | refine Below.drew ?_ | refine below_drewN ?_ _ | refine Below.setCell ?_ ?_ _ | exact Below.size (by assumption) | (simp [go_sem, size_more]; done) | (simp [go_sem, size_more]; omega))⟩

set_option maxRecDepth 100000 in
set_option maxHeartbeats 16000000 in
theorem walk (n : Int) (v1 : Value) (x1 : Sl (Int × Int)) (v2 : Value) (x2 : Sl Int) (w : World) (w0 : (Lit.int .i64 n).wf = true) (w1 : v1 = vSl x1 ∧ gSl eEi 2 gEd w x1) (w2 : v2 = vSl x2 ∧ gSl eInt 1 gI64 w x2) :
    Calls Try.prog 7 #[.int .i64 n, v1, v2] w fun e w' => e = .returned (.bool true) ∧ Below w.heap.size w w' := by
  obtain ⟨rfl, hx⟩ := w1
  obtain ⟨rfl, hy⟩ := w2
  have hE : IsEis w (vSl x1) x1.xs := hx.isL
  have hF : IsInts w (vSl x2) x2.xs := hy.isL
  clear hx hy w0
  obtain ⟨xa, xc, E⟩ := x1
  obtain ⟨ya, yc, F⟩ := x2
  simp only at hE hF
  have hlg := fun W => large_any n xa E.length xc W
  have hvr := fun W (hW : IsEis W (vSl ⟨xa, xc, E⟩) E) => r8valid_any n E _ W hW
  have hb0 := alloc_below w (.cells #[.int .i64 n] 3)
  have hcell : (w.alloc (.cells #[.int .i64 n] 3)).cell? ⟨w.heap.size, 0, none⟩ = some (.int .i64 n) := by simp [go_sem]
  go_enter Try.func7, Try.ntmps7
  go_wp2_with fail
  refine Calls.go hb0 (d8awake_any _) ?_
  rintro e w1 rfl hb1 hbb1
  have cN1 := cell_lt hcell hb1
  go_wp2_with fail
  refine (hlg _).mono ?_
  rintro e w1' ⟨rfl, rfl⟩
  clear hlg hb0 hcell hb1
  generalize largeB n E.length = lg
  cases lg
  rotate_left
  · go_wp2_with fail
    go_ret
    exact ⟨rfl, hbb1⟩
  by_cases h40 : F.length ≤ 40
  · have j1 : decide (40 < F.length) = false := decide_eq_false (by omega)
    have j2 : decide ((40 : Int) < F.length) = false := decide_eq_false (by omega)
    have j3 : decide (2000 < F.length) = false := decide_eq_false (by omega)
    have j4 : decide ((2000 : Int) < F.length) = false := decide_eq_false (by omega)
    cases hvb : validB n E
    · rw [hvb] at hvr
      go_wp2_with fail
      refine Calls.go hbb1 (reach_bad n E _ _ _ (hE.mono hbb1) hvb) ?_
      rintro e w2 rfl hb2 hbb2
      have cN2 := cell_lt cN1 hb2
      go_wp2_with fail
      refine Calls.go hbb2 (closure_bad n E _ _ (hE.mono hbb2) hvb) ?_
      rintro e w3 rfl hb3 hbb3
      have cN3 := cell_lt cN2 hb3
      go_wp2_with fail
      refine Calls.go hbb3 (hvr _ (hE.mono hbb3)) ?_
      rintro e w4 rfl hb4 hbb4
      go_wp2_with fail
      go_ret
      exact ⟨rfl, hbb4⟩
    · rw [hvb] at hvr
      obtain ⟨N, G, rfl, rfl, hv, hN, hG⟩ := validB_nat hvb
      have hEG := isL_edI.1 hE
      go_wp2_with fail
      refine Calls.go hbb1 (reach_all N G F _ _ _ (hEG.mono hbb1) hv hN hG (hF.mono hbb1)) ?_
      rintro e w2 ⟨u, c, rfl, hRR⟩ hb2 hbb2
      have cN2 := cell_lt cN1 hb2
      go_wp2_with fail
      refine Calls.go hbb2 (closure_ok N G _ _ (hEG.mono hbb2) hv hN hG) ?_
      rintro e w3 ⟨cu, vs, rfl, hC⟩ hb3 hbb3
      have cN3 := cell_lt cN2 hb3
      have hRR3 := hRR.below hb3
      go_wp2_with fail
      refine Calls.go hbb3 (hvr _ (isL_edI.2 (hEG.mono hbb3))) ?_
      rintro e w4 rfl hb4 hbb4
      have cN4 := cell_lt cN3 hb4
      have hRR4 := Lib.hid (hRR3.below hb4)
      have hC4 := hC.below hb4
      have hvl : vs.length = N := by have := hC.len; rw [cloL_len] at this; exact this
      have HVL := Lib.hid hvl
      obtain ⟨ca, cc, hce⟩ := hC4.out.isSlice
      rw [hvl] at hce
      subst hce
      have HC4 := Lib.hid hC4
      clear hC hC4 hRR hRR3 hvl hb2 hb3 hb4 cN1 cN2 cN3 hvr
      go_wp2_with fail
      go_loopw [76] (fun s76 wr => ∃ (i : Nat), i ≤ N ∧ s76 = .int .i64 i ∧ Below w4.heap.size w4 wr) (fun s76 _ => N - (intOf s76).toNat)
      case atStart => exact ⟨0, Nat.zero_le _, rfl, Below.refl _ _⟩
      case round =>
        obtain ⟨i, hi, rfl, hb⟩ := hrel
        have hbr := hbb4.trans (hb.mono hbb4.size)
        have cNr := cell_lt cN4 hb
        by_cases hin : i < N
        · have hiv : i < vs.length := by have := HVL.out; omega
          obtain ⟨rg, rfl, q3⟩ := (HC4.out.below hb).rowAt i hiv
          have hrow := (HC4.out.below hb).row i hiv (by rw [cloL_len]; exact hin)
          rw [cloL_get hin] at hrow
          have hrl := hrow.isL (fun _ => rfl)
          obtain ⟨ka, kc, hke⟩ := hrow.isSlice
          rw [hke] at q3 hrl
          have hA := alloc_below wr (.cells #[.int .i64 (i : Int)] 3)
          have hbA := hbr.trans (hA.mono hbr.size)
          have hFA : IsNats (wr.alloc (.cells #[.int .i64 (i : Int)] 3)) (.slice (some ⟨wr.heap.size, 0, none⟩) 1 1) [i] := IsL.lit (enc := eNat) (k := 1) (fun _ => rfl) wr [i] #[.int .i64 (i : Int)] rfl 3 (by simp)
          have x8 : IntKind.i64.wrap ((i : Int) + 1) = i + 1 := IntWalk.i64_in _ (by omega)
          have hrlA := hrl.mono hA
          clear hke hrow hrl
          go_wp2_with fail
          refine Calls.to (r8reach_any N G [i] _ _ _ (hEG.mono hbA) hv (by omega) (by omega) hFA (by simp; omega) (by simp)) ?_
          rintro e w5 ⟨ru, rfl, hO⟩ hb5
          have hb45 := (hb.trans (hA.mono hb.size)).trans (hb5.mono (by have := hb.size; have := hA.size; omega))
          go_wp2_with fail
          refine Calls.to (eqB_same _ _ _ _ (hrlA.mono hb5) (hO.isL (fun _ => rfl))) ?_
          rintro e w6 rfl hb6
          have hb46 := hb45.trans (hb6.mono hb45.size)
          clear hO hb5 hb6 hb45 hrlA hFA hA hbA q3 hb hbr cNr
          go_wp2_with fail
          go_roundw
          case measure => simp [intOf]; omega
          case rel => exact ⟨i + 1, by omega, by go_num, hb46⟩
        · obtain rfl : N = i := by omega
          have hRRr := hRR4.out.below hb
          rcases hRRr with ⟨k1, rfl, rfl⟩ | ⟨k1, k2, rfl, rfl⟩ | ⟨k1, k2, f, rfl, hf, rfl, hO⟩
          · have j1 : decide (1000 < F.length) = true := decide_eq_true k1
            have j2 : decide ((1000 : Int) < F.length) = true := decide_eq_true (by omega)
            go_wp2_with fail
            go_ret
            exact ⟨rfl, hbr⟩
          · have j1 : decide (1000 < F.length) = false := decide_eq_false (by omega)
            have j2 : decide ((1000 : Int) < F.length) = false := decide_eq_false (by omega)
            have hk := containsI 34 #[.pointer (some ⟨w.heap.size, 0, none⟩)] (fun _ _ => by kernel_rfl) (fun i => !isB N i) F _ wr (hF.mono hbr) (fun X hX x hx => out1_any N x w.heap.size X (cell_lt cNr hX))
            rw [k2] at hk
            go_wp2_with fail
            refine Calls.go hbr hk ?_
            rintro e w5 rfl hb5 hbb5
            go_wp2_with fail
            go_ret
            exact ⟨rfl, hbb5⟩
          · have j1 : decide (1000 < (nzs f).length) = false := decide_eq_false (by omega)
            have j2 : decide ((1000 : Int) < (nzs f).length) = false := decide_eq_false (by omega)
            have hk := containsI 34 #[.pointer (some ⟨w.heap.size, 0, none⟩)] (fun _ _ => by kernel_rfl) (fun i => !isB N i) (nzs f) _ wr (hF.mono hbr) (fun X hX x hx => out1_any N x w.heap.size X (cell_lt cNr hX))
            rw [k2] at hk
            have hfl : f.length ≤ 1000 := by rw [ints_len] at k1; exact k1
            go_wp2_with fail
            refine Calls.go hbr hk ?_
            rintro e w5 rfl hb5 hbb5
            have cN5 := cell_lt cNr hb5
            have hOl := (hO.below hb5).isL (fun _ => rfl)
            go_wp2_with fail
            refine Calls.go hbb5 (r8reach_any N G f _ _ _ (hEG.mono hbb5) hv (by omega) (by omega) (isL_ints.1 (hF.mono hbb5)) hf (by omega)) ?_
            rintro e w6 ⟨ru, rfl, hQ⟩ hb6 hbb6
            go_wp2_with fail
            refine Calls.go hbb6 (eqB_same _ _ _ _ (hOl.mono hb6) (hQ.isL (fun _ => rfl))) ?_
            rintro e w7 rfl hb7 hbb7
            go_wp2_with fail
            go_ret
            exact ⟨rfl, hbb7⟩
  · have j1 : decide (40 < F.length) = true := decide_eq_true (by omega)
    have j2 : decide ((40 : Int) < F.length) = true := decide_eq_true (by omega)
    by_cases h1000 : F.length ≤ 1000
    · have j3 : decide (F.length ≤ 1000) = true := decide_eq_true h1000
      have j4 : decide ((F.length : Int) ≤ 1000) = true := decide_eq_true (by omega)
      go_wp2_with fail
      go_ret
      exact ⟨rfl, hbb1⟩
    · have j3 : decide (F.length ≤ 1000) = false := decide_eq_false h1000
      have j4 : decide ((F.length : Int) ≤ 1000) = false := decide_eq_false (by omega)
      by_cases h2000 : 2000 < F.length
      · have j5 : decide (2000 < F.length) = true := decide_eq_true h2000
        have j6 : decide ((2000 : Int) < F.length) = true := decide_eq_true (by omega)
        go_wp2_with fail
        go_ret
        exact ⟨rfl, hbb1⟩
      · have j5 : decide (2000 < F.length) = false := decide_eq_false h2000
        have j6 : decide ((2000 : Int) < F.length) = false := decide_eq_false (by omega)
        cases hvb : validB n E
        · rw [hvb] at hvr
          go_wp2_with fail
          refine Calls.go hbb1 (reach_bad n E _ _ _ (hE.mono hbb1) hvb) ?_
          rintro e w2 rfl hb2 hbb2
          have cN2 := cell_lt cN1 hb2
          go_wp2_with fail
          refine Calls.go hbb2 (closure_bad n E _ _ (hE.mono hbb2) hvb) ?_
          rintro e w3 rfl hb3 hbb3
          have cN3 := cell_lt cN2 hb3
          go_wp2_with fail
          refine Calls.go hbb3 (hvr _ (hE.mono hbb3)) ?_
          rintro e w4 rfl hb4 hbb4
          go_wp2_with fail
          go_ret
          exact ⟨rfl, hbb4⟩
        · rw [hvb] at hvr
          obtain ⟨N, G, rfl, rfl, hv, hN, hG⟩ := validB_nat hvb
          have hEG := isL_edI.1 hE
          go_wp2_with fail
          refine Calls.go hbb1 (reach_all N G F _ _ _ (hEG.mono hbb1) hv hN hG (hF.mono hbb1)) ?_
          rintro e w2 ⟨u, c, rfl, hRR⟩ hb2 hbb2
          have cN2 := cell_lt cN1 hb2
          go_wp2_with fail
          refine Calls.go hbb2 (closure_ok N G _ _ (hEG.mono hbb2) hv hN hG) ?_
          rintro e w3 ⟨cu, vs, rfl, hC⟩ hb3 hbb3
          have cN3 := cell_lt cN2 hb3
          have hRR3 := hRR.below hb3
          go_wp2_with fail
          refine Calls.go hbb3 (hvr _ (isL_edI.2 (hEG.mono hbb3))) ?_
          rintro e w4 rfl hb4 hbb4
          have cN4 := cell_lt cN3 hb4
          have hRR4 := Lib.hid (hRR3.below hb4)
          have hC4 := hC.below hb4
          have hvl : vs.length = N := by have := hC.len; rw [cloL_len] at this; exact this
          have HVL := Lib.hid hvl
          obtain ⟨ca, cc, hce⟩ := hC4.out.isSlice
          rw [hvl] at hce
          subst hce
          have HC4 := Lib.hid hC4
          clear hC hC4 hRR hRR3 hvl hb2 hb3 hb4 cN1 cN2 cN3 hvr
          go_wp2_with fail
          go_loopw [76] (fun s76 wr => ∃ (i : Nat), i ≤ N ∧ s76 = .int .i64 i ∧ Below w4.heap.size w4 wr) (fun s76 _ => N - (intOf s76).toNat)
          case atStart => exact ⟨0, Nat.zero_le _, rfl, Below.refl _ _⟩
          case round =>
            obtain ⟨i, hi, rfl, hb⟩ := hrel
            have hbr := hbb4.trans (hb.mono hbb4.size)
            have cNr := cell_lt cN4 hb
            by_cases hin : i < N
            · have hiv : i < vs.length := by have := HVL.out; omega
              obtain ⟨rg, rfl, q3⟩ := (HC4.out.below hb).rowAt i hiv
              have hrow := (HC4.out.below hb).row i hiv (by rw [cloL_len]; exact hin)
              rw [cloL_get hin] at hrow
              have hrl := hrow.isL (fun _ => rfl)
              obtain ⟨ka, kc, hke⟩ := hrow.isSlice
              rw [hke] at q3 hrl
              have hA := alloc_below wr (.cells #[.int .i64 (i : Int)] 3)
              have hbA := hbr.trans (hA.mono hbr.size)
              have hFA : IsNats (wr.alloc (.cells #[.int .i64 (i : Int)] 3)) (.slice (some ⟨wr.heap.size, 0, none⟩) 1 1) [i] := IsL.lit (enc := eNat) (k := 1) (fun _ => rfl) wr [i] #[.int .i64 (i : Int)] rfl 3 (by simp)
              have x8 : IntKind.i64.wrap ((i : Int) + 1) = i + 1 := IntWalk.i64_in _ (by omega)
              have hrlA := hrl.mono hA
              clear hke hrow hrl
              go_wp2_with fail
              refine Calls.to (r8reach_any N G [i] _ _ _ (hEG.mono hbA) hv (by omega) (by omega) hFA (by simp; omega) (by simp)) ?_
              rintro e w5 ⟨ru, rfl, hO⟩ hb5
              have hb45 := (hb.trans (hA.mono hb.size)).trans (hb5.mono (by have := hb.size; have := hA.size; omega))
              go_wp2_with fail
              refine Calls.to (eqB_same _ _ _ _ (hrlA.mono hb5) (hO.isL (fun _ => rfl))) ?_
              rintro e w6 rfl hb6
              have hb46 := hb45.trans (hb6.mono hb45.size)
              clear hO hb5 hb6 hb45 hrlA hFA hA hbA q3 hb hbr cNr
              go_wp2_with fail
              go_roundw
              case measure => simp [intOf]; omega
              case rel => exact ⟨i + 1, by omega, by go_num, hb46⟩
            · obtain rfl : N = i := by omega
              have hRRr := hRR4.out.below hb
              rcases hRRr with ⟨k1, rfl, rfl⟩ | ⟨k1, k2, rfl, rfl⟩ | ⟨k1, k2, f, rfl, hf, rfl, hO⟩
              · have j1 : decide (1000 < F.length) = true := decide_eq_true k1
                have j2 : decide ((1000 : Int) < F.length) = true := decide_eq_true (by omega)
                go_wp2_with fail
                go_ret
                exact ⟨rfl, hbr⟩
              · have j1 : decide (1000 < F.length) = false := decide_eq_false (by omega)
                have j2 : decide ((1000 : Int) < F.length) = false := decide_eq_false (by omega)
                have hk := containsI 34 #[.pointer (some ⟨w.heap.size, 0, none⟩)] (fun _ _ => by kernel_rfl) (fun i => !isB N i) F _ wr (hF.mono hbr) (fun X hX x hx => out1_any N x w.heap.size X (cell_lt cNr hX))
                rw [k2] at hk
                go_wp2_with fail
                refine Calls.go hbr hk ?_
                rintro e w5 rfl hb5 hbb5
                go_wp2_with fail
                go_ret
                exact ⟨rfl, hbb5⟩
              · have j1 : decide (1000 < (nzs f).length) = false := decide_eq_false (by omega)
                have j2 : decide ((1000 : Int) < (nzs f).length) = false := decide_eq_false (by omega)
                have hk := containsI 34 #[.pointer (some ⟨w.heap.size, 0, none⟩)] (fun _ _ => by kernel_rfl) (fun i => !isB N i) (nzs f) _ wr (hF.mono hbr) (fun X hX x hx => out1_any N x w.heap.size X (cell_lt cNr hX))
                rw [k2] at hk
                have hfl : f.length ≤ 1000 := by rw [ints_len] at k1; exact k1
                go_wp2_with fail
                refine Calls.go hbr hk ?_
                rintro e w5 rfl hb5 hbb5
                have cN5 := cell_lt cNr hb5
                have hOl := (hO.below hb5).isL (fun _ => rfl)
                go_wp2_with fail
                refine Calls.go hbb5 (r8reach_any N G f _ _ _ (hEG.mono hbb5) hv (by omega) (by omega) (isL_ints.1 (hF.mono hbb5)) hf (by omega)) ?_
                rintro e w6 ⟨ru, rfl, hQ⟩ hb6 hbb6
                go_wp2_with fail
                refine Calls.go hbb6 (eqB_same _ _ _ _ (hOl.mono hb6) (hQ.isL (fun _ => rfl))) ?_
                rintro e w7 rfl hb7 hbb7
                go_wp2_with fail
                go_ret
                exact ⟨rfl, hbb7⟩

/-! ### The row -/
set_option maxRecDepth 100000 in
theorem lifted (os : Os) (started : os.Started) (H : Type) (enc : TypeId × Value → H) :
    ReturnsInHanded {} Try.checked os 7 .any (Rows.digraphReachesSpec.pre6 enc Try.prog Try.f7 Rows.digraphReachesRow.domain false) (Rows.digraphReachesSpec.post enc Try.prog Try.f7 false true false false) := by
  refine returnsInHanded_of_change (C := Try.checked) own started (by kernel_rfl) Try.func7
    (ChangeSpec.witness6 (enc := enc) (C := Try.checked) false ⟨#[], #[.int .i64 0, .slice none 0 0, .slice none 0 0], []⟩ 8 (by kernel_rfl) (by kernel_rfl) (by kernel_rfl) (by kernel_rfl)) ?_
  intro W base args ds gs before hval0 hW hcnd _
  have hval : ∀ (j : Nat) t v, Try.f7.params[j]? = some t → args[j]? = some v → Value.okWide Try.prog W .any base t v := hval0
  have hW' := hW
  obtain ⟨p, q, hA0, hV, rfl, hfz, hnd⟩ := hW
  have hA : DataW.TrodAll enc Try.prog W 0 (fun _ => true) true Try.f7.params.toList args.toList ds p := hA0
  rw [Try.params7] at hA hval
  obtain ⟨v0, vs0, d0, ds0, p0, q0, hargs, rfl, rfl, h0, r0⟩ := trodAll_cons hA
  obtain ⟨v1, vs1, d1, ds1, p1, q1, rfl, rfl, rfl, h1, r1⟩ := trodAll_cons r0
  obtain ⟨v2, vs2, d2, ds2, p2, q2, rfl, rfl, rfl, h2, r2⟩ := trodAll_cons r1
  obtain ⟨rfl, rfl, rfl⟩ := trodAll_nil r2
  obtain rfl : args = #[v0, v1, v2] := by cases args; simp_all
  obtain ⟨rfl, rfl⟩ := trodVars_none hV
  obtain ⟨a0, rfl, rfl, rfl, w0⟩ := open_int Try.underlying3 (hval 0 3 v0 rfl rfl) h0
  have k1 := h1
  have lt1 : ∀ x ∈ p1, x.block < W.heap.size := by obtain ⟨m, hm⟩ := k1; exact DataW.trod_lt m _ _ _ hm
  obtain ⟨x1, w1⟩ := openEds (hval 1 22 v1 rfl rfl) h1
  have k2 := h2
  have lt2 : ∀ x ∈ p2, x.block < W.heap.size := by obtain ⟨m, hm⟩ := k2; exact DataW.trod_lt m _ _ _ hm
  obtain ⟨x2, w2⟩ := openInts (hval 2 25 v2 rfl rfl) h2
  clear hA0 hval0
  refine (walk a0 v1 x1 v2 x2 W w0 w1 w2).mono fun e W' ⟨he, bel⟩ => ?_
  subst he
  exact ⟨_, rfl, _, _, _, [], _, [], hW', trodAll_mk1 (shut_bool Try.underlying4 _), (trodAll_cons_mk (shut_int Try.underlying3 w0) (trodAll_cons_mk (Below.trod laidOut (by kernel_rfl) (of_decide_eq_true (by kernel_rfl)) k1 bel lt1) (trodAll_cons_mk (Below.trod laidOut (by kernel_rfl) (of_decide_eq_true (by kernel_rfl)) k2 bel lt2) trodAll_mk0))), rfl, bel.frame _, fun h => by cases h⟩

theorem over : Rows.digraphReachesRow.holds Try.pinned (OpenSpec.ofChange Rows.digraphReachesSpec) :=
  OpenClaim.holds_of_wide 7 Try.f7 rfl rfl rfl rfl rfl rfl rfl ⟨rfl, rfl, rfl, rfl, rfl⟩ rfl rfl rfl rfl rfl (by kernel_rfl) Try.func7 (by kernel_rfl)
    (of_decide_eq_true (by kernel_rfl)) (by unfold Func.isWrapper; first | (rw [if_pos (by decide +kernel)]; kernel_rfl) | (rw [if_neg (by decide +kernel)]; exact ⟨rfl, rfl⟩))
    (fun os started H enc _ => lifted os started H enc)

end Go.Proofs.Ythnhlaljnkdmfaa.digraphReaches
namespace Go.Proofs.Ythnhlaljnkdmfaa
/-- The statement. -/
theorem digraphReaches_holds : Rows.DigraphReachesSaid := digraphReaches.over
#print axioms digraphReaches_holds
end Go.Proofs.Ythnhlaljnkdmfaa
