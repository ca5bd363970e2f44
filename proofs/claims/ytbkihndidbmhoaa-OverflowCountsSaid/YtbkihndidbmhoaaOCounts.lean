/- The law OverflowCounts returns true for every list of events and all numbers, and leaves its arguments as they were. Conditions: none beyond the row's own. -/
import Derived.Test.YtbkihndidbmhoaaRows
import Derived.WalkKit
import Derived.ProofKit
import Derived.OpenShut
import Derived.ShutString
import Derived.ChangeOld
import Derived.Below
import Derived.Test.YtbkihndidbmhoaaOv6
import Derived.Test.YtbkihndidbmhoaaOv16
import Derived.Test.YtbkihndidbmhoaaOv17
import Derived.Test.YtbkihndidbmhoaaOv23
import Derived.Test.YtbkihndidbmhoaaEvr
import Derived.Test.YtbkihndidbmhoaaRowk
namespace Go.Proofs.Ytbkihndidbmhoaa.overflowCounts
open Go.ChangeShapes Go.WideShapes Go.ChangeAt Go.RowKit
set_option linter.unusedVariables false
set_option linter.unusedSimpArgs false
open Go.ChangeMaps (open_string shut_string)
set_option linter.unusedVariables false

theorem own : ownKnob Try.prog.godebug = none := by kernel_rfl
theorem laidOut : laidOutB Try.prog = true := by kernel_rfl

theorem worst_same {l : List Ev} {k : Int} {w w' : World} {v v' : Value} {c c' : Int} (h : WorstOut l k w v c) (h' : WorstOut l k w' v' c') : c' = c ∧ ∃ T, IsInts w v T ∧ IsInts w' v' T := by
  rcases h with ⟨h1, rfl, rfl⟩ | ⟨h1, h2, rfl, rfl⟩ | ⟨h1, h2, rfl, S, h3, h4⟩
  · rcases h' with ⟨g1, rfl, rfl⟩ | ⟨g1, g2, rfl, rfl⟩ | ⟨g1, g2, rfl, S', g3, g4⟩
    · exact ⟨rfl, [], IsL.nil _ _ _, IsL.nil _ _ _⟩
    · rw [h1] at g1; cases g1
    · rw [h1] at g1; cases g1
  · rcases h' with ⟨g1, rfl, rfl⟩ | ⟨g1, g2, rfl, rfl⟩ | ⟨g1, g2, rfl, S', g3, g4⟩
    · rw [h1] at g1; cases g1
    · exact ⟨rfl, [], IsL.nil _ _ _, IsL.nil _ _ _⟩
    · omega
  · rcases h' with ⟨g1, rfl, rfl⟩ | ⟨g1, g2, rfl, rfl⟩ | ⟨g1, g2, rfl, S', g3, g4⟩
    · rw [h1] at g1; cases g1
    · omega
    · rw [worst_is h3 g3] at g4
      exact ⟨rfl, _, h4, g4⟩

theorem freq_same (xs : List Ev) (y : Int) : ∃ N D c : Int, ∀ e, FreqIs xs y e → e = .returned (.tuple #[.agg #[.int .i64 N, .int .i64 D], .int .i64 c]) := by
  unfold FreqIs
  split
  · exact ⟨0, 0, 1, fun e h => h⟩
  · split
    · exact ⟨0, 0, 2, fun e h => h⟩
    · exact ⟨_, _, 0, fun e h => h⟩

set_option maxRecDepth 100000 in
set_option maxHeartbeats 8000000 in
theorem walk (v0 : Value) (x0 : Sl Ev) (a1 : Int) (a2 : Int) (a3 : Int) (a4 : Int) (w : World) (w0 : v0 = vSl x0 ∧ gSl eEv 4 gEv w x0) (w1 : (Lit.int .i64 a1).wf = true) (w2 : (Lit.int .i64 a2).wf = true) (w3 : (Lit.int .i64 a3).wf = true) (w4 : (Lit.int .i64 a4).wf = true) :
    Calls Try.prog 8 #[v0, .int .i64 a1, .int .i64 a2, .int .i64 a3, .int .i64 a4] w fun e w' => e = .returned (.bool true) ∧ Below w.heap.size w w' := by
  obtain ⟨rfl, hg⟩ := w0
  have hv : IsEvs w (vSl x0) x0.xs := hg.isL
  obtain ⟨a0, cap0, xs⟩ := x0
  simp only at hv
  clear hg w1 w2 w3 w4
  cases hmany : manyB xs.length
  · have HM := Lib.hid hmany
    clear hmany
    go_enter Try.func8, Try.ntmps8
    go_wp2_with fail
    refine Calls.to (awake_any w) ?_
    rintro e w1 rfl hb1
    go_wp2_with fail
    refine Calls.go hb1 (many_any _ _) ?_
    rintro e w2 rfl _ hb2
    rw [HM.out]
    go_wp2_with fail
    refine Calls.go hb2 (count_any xs _ _ (hv.mono hb2)) ?_
    intro e w3 hc1 _ hb3
    have hc1 := countIs hc1
    subst hc1
    go_wp2_with fail
    refine Calls.go hb3 (worst_any xs _ a1 _ (hv.mono hb3)) ?_
    rintro e w4 ⟨vw, cw, rfl, hW1⟩ hb4' hb4
    obtain ⟨N, D, fc, hfr⟩ := freq_same xs a4
    have HFR := Lib.hid hfr
    clear hfr
    go_wp2_with fail
    refine Calls.go hb4 (yearly_any xs _ a2 a3 _ (hv.mono hb4)) ?_
    rintro e w5 ⟨vy, rfl, hY1⟩ hb5' hb5
    have hY1 := hY1.isL ePr_len
    go_wp2_with fail
    refine Calls.go hb5 (freq_any xs _ a4 _ (hv.mono hb5)) ?_
    intro e w6 hf1 hb6' hb6
    have hf1 := HFR.out e hf1
    subst hf1
    have hY1 := hY1.mono hb6'
    have hb6b := hb6.alloc hb6.size (.cells #[.int .i64 N, .int .i64 D] 69)
    go_wp2_with fail
    refine Calls.go hb6b (rcount_any xs _ _ (hv.mono hb6b)) ?_
    intro e w7 hc2 hb7' hb7
    have hc2 := countIs hc2
    subst hc2
    go_wp2_with fail
    refine Calls.go hb7 (rworst_any xs _ a1 _ (hv.mono hb7)) ?_
    rintro e w8 ⟨vw2, cw2, rfl, hW2⟩ hb8' hb8
    obtain ⟨rfl, T, hT1, hT2⟩ := worst_same hW1 hW2
    clear hW1 hW2
    go_wp2_with fail
    refine Calls.go hb8 (ryearly_any xs _ a2 a3 _ (hv.mono hb8)) ?_
    rintro e w9 ⟨vy2, rfl, hY2⟩ hb9' hb9
    have hY2 := hY2.isL ePr_len
    go_wp2_with fail
    refine Calls.go hb9 (rfreq_any xs _ a4 _ (hv.mono hb9)) ?_
    intro e w10 hf2 hb10' hb10
    have hf2 := HFR.out e hf2
    subst hf2
    have b46 := hb5'.trans (hb6'.mono hb5'.size)
    have b46a := b46.alloc b46.size (.cells #[.int .i64 N, .int .i64 D] 69)
    have b47 := b46a.trans (hb7'.mono b46a.size)
    have b48 := b47.trans (hb8'.mono b47.size)
    have b49 := b48.trans (hb9'.mono b48.size)
    have b410 := b49.trans (hb10'.mono b49.size)
    have b4 := b410.alloc b410.size (.cells #[.int .i64 N, .int .i64 D] 69)
    have b810 := hb9'.trans (hb10'.mono hb9'.size)
    have b8 := b810.alloc b810.size (.cells #[.int .i64 N, .int .i64 D] 69)
    have b9 := hb10'.alloc hb10'.size (.cells #[.int .i64 N, .int .i64 D] 69)
    have k6a : Below w6.heap.size w6 (w6.alloc (.cells #[.int .i64 N, .int .i64 D] 69)) := (Below.refl _ _).alloc (Nat.le_refl _) _
    have k67 := k6a.trans (hb7'.mono k6a.size)
    have k68 := k67.trans (hb8'.mono k67.size)
    have k69 := k68.trans (hb9'.mono k68.size)
    have k610 := k69.trans (hb10'.mono k69.size)
    have k6 := k610.alloc k610.size (.cells #[.int .i64 N, .int .i64 D] 69)
    have hT1 := hT1.mono b4
    have hT2 := hT2.mono b8
    have hY1 := hY1.mono k6
    have hY2 := hY2.mono b9
    have hb10b := hb10.alloc hb10.size (.cells #[.int .i64 N, .int .i64 D] 69)
    have e0 : (w10.alloc (.cells #[.int .i64 N, .int .i64 D] 69)).cell? ⟨w6.heap.size, 0, none⟩ = some (.int .i64 N) := by
      have h1 : w7.cell? ⟨w6.heap.size, 0, none⟩ = some (.int .i64 N) := (hb7'.cell (p := ⟨w6.heap.size, 0, none⟩) (by simp)).trans (by simp [go_sem])
      have h7 : w6.heap.size < w7.heap.size := by have := hb7'.size; simp at this; omega
      have k710 := (hb8'.trans (hb9'.mono hb8'.size)).trans (hb10'.mono (hb8'.trans (hb9'.mono hb8'.size)).size)
      have k7 := k710.alloc k710.size (.cells #[.int .i64 N, .int .i64 D] 69)
      exact (k7.cell (p := ⟨w6.heap.size, 0, none⟩) h7).trans h1
    have e1 : (w10.alloc (.cells #[.int .i64 N, .int .i64 D] 69)).cell? ⟨w6.heap.size, 1, none⟩ = some (.int .i64 D) := by
      have h1 : w7.cell? ⟨w6.heap.size, 1, none⟩ = some (.int .i64 D) := (hb7'.cell (p := ⟨w6.heap.size, 1, none⟩) (by simp)).trans (by simp [go_sem])
      have h7 : w6.heap.size < w7.heap.size := by have := hb7'.size; simp at this; omega
      have k710 := (hb8'.trans (hb9'.mono hb8'.size)).trans (hb10'.mono (hb8'.trans (hb9'.mono hb8'.size)).size)
      have k7 := k710.alloc k710.size (.cells #[.int .i64 N, .int .i64 D] 69)
      exact (k7.cell (p := ⟨w6.heap.size, 1, none⟩) h7).trans h1
    generalize yearlyM xs a2 a3 = ym at *
    obtain ⟨yl, yc⟩ := ym
    simp only at hY1 hY2 ⊢
    generalize countM xs = cm at *
    obtain ⟨cm1, cm2, cm3, cm4⟩ := cm
    clear b46 b46a b47 b48 b49 b410 b4 b810 b8 b9 k6a k67 k68 k69 k610 k6
    have z10 : w6.heap.size < (w10.alloc (.cells #[.int .i64 N, .int .i64 D] 69)).heap.size := World.block_lt_of_cell? _ _ e0
    have e2 : (w10.alloc (.cells #[.int .i64 N, .int .i64 D] 69)).cell? ⟨w10.heap.size, 0, none⟩ = some (.int .i64 N) := by simp [go_sem]
    have e3 : (w10.alloc (.cells #[.int .i64 N, .int .i64 D] 69)).cell? ⟨w10.heap.size, 1, none⟩ = some (.int .i64 D) := by simp [go_sem]
    have z11 : w10.heap.size < (w10.alloc (.cells #[.int .i64 N, .int .i64 D] 69)).heap.size := by simp
    go_wp2_with fail
    refine Calls.go hb10b (eqInts T T _ _ _ hT1 hT2) ?_
    rintro e w11 rfl hb11' hb11
    rw [decide_eq_true rfl]
    have hY1 := hY1.mono hb11'
    have hY2 := hY2.mono hb11'
    have e0 := (hb11'.cell (p := ⟨w6.heap.size, 0, none⟩) z10).trans e0
    have e1 := (hb11'.cell (p := ⟨w6.heap.size, 1, none⟩) z10).trans e1
    have e2 := (hb11'.cell (p := ⟨w10.heap.size, 0, none⟩) z11).trans e2
    have e3 := (hb11'.cell (p := ⟨w10.heap.size, 1, none⟩) z11).trans e3
    have z10 : w6.heap.size < w11.heap.size := World.block_lt_of_cell? _ _ e0
    have z11 : w10.heap.size < w11.heap.size := World.block_lt_of_cell? _ _ e2
    clear hb11'
    go_wp2_with fail
    refine Calls.go hb11 (eqPrs yl yl _ _ _ hY1 hY2) ?_
    rintro e w12 rfl hb12' hb12
    rw [decide_eq_true rfl]
    have e0 := (hb12'.cell (p := ⟨w6.heap.size, 0, none⟩) z10).trans e0
    have e1 := (hb12'.cell (p := ⟨w6.heap.size, 1, none⟩) z10).trans e1
    have e2 := (hb12'.cell (p := ⟨w10.heap.size, 0, none⟩) z11).trans e2
    have e3 := (hb12'.cell (p := ⟨w10.heap.size, 1, none⟩) z11).trans e3
    clear hb12'
    go_wp2_with fail
    go_ret
    exact ⟨rfl, hb12⟩
  · have HM := Lib.hid hmany
    clear hmany
    go_enter Try.func8, Try.ntmps8
    go_wp2_with fail
    refine Calls.to (awake_any w) ?_
    rintro e w1 rfl hb1
    go_wp2_with fail
    refine Calls.go hb1 (many_any _ _) ?_
    rintro e w2 rfl _ hb2
    rw [HM.out]
    go_wp2_with fail
    go_ret
    exact ⟨rfl, hb2⟩

/-! ### The row -/
set_option maxRecDepth 100000 in
theorem lifted (os : Os) (started : os.Started) (H : Type) (enc : TypeId × Value → H) :
    ReturnsInHanded {} Try.checked os 8 .any (Rows.overflowCountsSpec.pre6 enc Try.prog Try.f8 Rows.overflowCountsRow.domain false) (Rows.overflowCountsSpec.post enc Try.prog Try.f8 false true false false) := by
  refine returnsInHanded_of_change (C := Try.checked) own started (by kernel_rfl) Try.func8
    (ChangeSpec.witness6 (enc := enc) (C := Try.checked) false ⟨#[], #[.slice none 0 0, .int .i64 0, .int .i64 0, .int .i64 0, .int .i64 0], []⟩ 8 (by kernel_rfl) (by kernel_rfl) (by kernel_rfl) (by kernel_rfl)) ?_
  intro W base args ds gs before hval0 hW hcnd _
  have hval : ∀ (j : Nat) t v, Try.f8.params[j]? = some t → args[j]? = some v → Value.okWide Try.prog W .any base t v := hval0
  have hW' := hW
  obtain ⟨p, q, hA0, hV, rfl, hfz, hnd⟩ := hW
  have hA : DataW.TrodAll enc Try.prog W 0 (fun _ => true) true Try.f8.params.toList args.toList ds p := hA0
  rw [Try.params8] at hA hval
  obtain ⟨v0, vs0, d0, ds0, p0, q0, hargs, rfl, rfl, h0, r0⟩ := trodAll_cons hA
  obtain ⟨v1, vs1, d1, ds1, p1, q1, rfl, rfl, rfl, h1, r1⟩ := trodAll_cons r0
  obtain ⟨v2, vs2, d2, ds2, p2, q2, rfl, rfl, rfl, h2, r2⟩ := trodAll_cons r1
  obtain ⟨v3, vs3, d3, ds3, p3, q3, rfl, rfl, rfl, h3, r3⟩ := trodAll_cons r2
  obtain ⟨v4, vs4, d4, ds4, p4, q4, rfl, rfl, rfl, h4, r4⟩ := trodAll_cons r3
  obtain ⟨rfl, rfl, rfl⟩ := trodAll_nil r4
  obtain rfl : args = #[v0, v1, v2, v3, v4] := by cases args; simp_all
  obtain ⟨rfl, rfl⟩ := trodVars_none hV
  have k0 := h0
  have lt0 : ∀ x ∈ p0, x.block < W.heap.size := by obtain ⟨m, hm⟩ := k0; exact DataW.trod_lt m _ _ _ hm
  obtain ⟨x0, w0⟩ := openEvs (hval 0 25 v0 rfl rfl) h0
  obtain ⟨a1, rfl, rfl, rfl, w1⟩ := open_int Try.underlying3 (hval 1 3 v1 rfl rfl) h1
  obtain ⟨a2, rfl, rfl, rfl, w2⟩ := open_int Try.underlying3 (hval 2 3 v2 rfl rfl) h2
  obtain ⟨a3, rfl, rfl, rfl, w3⟩ := open_int Try.underlying3 (hval 3 3 v3 rfl rfl) h3
  obtain ⟨a4, rfl, rfl, rfl, w4⟩ := open_int Try.underlying3 (hval 4 3 v4 rfl rfl) h4
  clear hA0 hval0
  refine (walk v0 x0 a1 a2 a3 a4 W w0 w1 w2 w3 w4).mono fun e W' ⟨he, bel⟩ => ?_
  subst he
  exact ⟨_, rfl, _, _, _, [], _, [], hW', trodAll_mk1 (shut_bool Try.underlying4 _), (trodAll_cons_mk (Below.trod laidOut (by kernel_rfl) (of_decide_eq_true (by kernel_rfl)) k0 bel lt0) (trodAll_cons_mk (shut_int Try.underlying3 w1) (trodAll_cons_mk (shut_int Try.underlying3 w2) (trodAll_cons_mk (shut_int Try.underlying3 w3) (trodAll_cons_mk (shut_int Try.underlying3 w4) trodAll_mk0))))), rfl, bel.frame _, fun h => by cases h⟩

theorem over : Rows.overflowCountsRow.holds Try.pinned (OpenSpec.ofChange Rows.overflowCountsSpec) :=
  OpenClaim.holds_of_wide 8 Try.f8 rfl rfl rfl rfl rfl rfl rfl ⟨rfl, rfl, rfl, rfl, rfl⟩ rfl rfl rfl rfl rfl (by kernel_rfl) Try.func8 (by kernel_rfl)
    (of_decide_eq_true (by kernel_rfl)) (by unfold Func.isWrapper; first | (rw [if_pos (by decide +kernel)]; kernel_rfl) | (rw [if_neg (by decide +kernel)]; exact ⟨rfl, rfl⟩))
    (fun os started H enc _ => lifted os started H enc)

end Go.Proofs.Ytbkihndidbmhoaa.overflowCounts
namespace Go.Proofs.Ytbkihndidbmhoaa
/-- The statement. -/
theorem overflowCounts_holds : Rows.OverflowCountsSaid := overflowCounts.over
#print axioms overflowCounts_holds
end Go.Proofs.Ytbkihndidbmhoaa
