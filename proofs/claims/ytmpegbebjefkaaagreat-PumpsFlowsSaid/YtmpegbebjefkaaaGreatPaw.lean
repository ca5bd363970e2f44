/- The example of the chapter on pumps, and its examples hold: awake returns true; small. Conditions: none. -/
import Derived.Test.YtmpegbebjefkaaaGreatPre
namespace Go.Proofs.YtmpegbebjefkaaaGreat
open Go.RowKit
set_option linter.unusedVariables false
set_option linter.unusedSimpArgs false

def exK : List Kn := [⟨0, 0⟩, ⟨1000, 50000⟩, ⟨2000, 60000⟩]
def exP (B : Nat) : Lk := ⟨⟨#[112]⟩, ⟨#[97]⟩, ⟨#[98]⟩, 4, 0, 2000, 500, ⟨#[]⟩, 0, 0, ⟨some ⟨B, 0, none⟩, 3, exK⟩⟩
theorem exP_ok (B : Nat) : pumpB (exP B) = true := by kernel_rfl
theorem exP_flow (B : Nat) : flM (exP B) 500 1500 = (27500, 0) := by kernel_rfl
theorem exP_starts (B : Nat) : stM (exP B) [0, 2000, 700, 2100, 400, 2000] = ([1, 5], 0) := by kernel_rfl
theorem exP_en : enM 1000 5000 10 = (490500, 490500, 0) := by kernel_rfl

set_option maxRecDepth 100000 in
set_option maxHeartbeats 1000000 in
theorem pexample_any (w : World) : Calls Tryz.prog 15 #[] w fun e w' => (∃ B, e = .returned (vLk (exP B)) ∧ gLk w' (exP B)) ∧ Below w.heap.size w w' := by
  go_enter Tryz.func15, Tryz.ntmps15
  go_wp2_with fail
  have hb : ((w.alloc (.cells #[.string ⟨#[112]⟩, .string ⟨#[97]⟩, .string ⟨#[98]⟩, .int .i64 4, .int .i64 0, .int .i64 2000, .int .i64 500, .string ⟨#[]⟩, .int .i64 0, .int .i64 0, .slice (some ⟨w.heap.size + 1, 0, none⟩) 3 3] 25)).alloc (.cells #[.int .i64 0, .int .i64 0, .int .i64 1000, .int .i64 50000, .int .i64 2000, .int .i64 60000] 48)).heap[w.heap.size + 1]? = some (.cells #[.int .i64 0, .int .i64 0, .int .i64 1000, .int .i64 50000, .int .i64 2000, .int .i64 60000] 48 (0, 0)) := by
    have h := heap_alloc_new (w.alloc (.cells #[.string ⟨#[112]⟩, .string ⟨#[97]⟩, .string ⟨#[98]⟩, .int .i64 4, .int .i64 0, .int .i64 2000, .int .i64 500, .string ⟨#[]⟩, .int .i64 0, .int .i64 0, .slice (some ⟨w.heap.size + 1, 0, none⟩) 3 3] 25)) (.cells #[.int .i64 0, .int .i64 0, .int .i64 1000, .int .i64 50000, .int .i64 2000, .int .i64 60000] 48)
    rw [show (w.alloc (.cells #[.string ⟨#[112]⟩, .string ⟨#[97]⟩, .string ⟨#[98]⟩, .int .i64 4, .int .i64 0, .int .i64 2000, .int .i64 500, .string ⟨#[]⟩, .int .i64 0, .int .i64 0, .slice (some ⟨w.heap.size + 1, 0, none⟩) 3 3] 25)).heap.size = w.heap.size + 1 from by simp] at h
    exact h
  have hK := isL_lit eKn 2 eKn_len _ (w.heap.size + 1) 48 _ exK 3 3 hb rfl rfl (by decide) (by decide)
  obtain ⟨_, _, e1, _, _, q1⟩ := hK
  simp only [Value.slice.injEq] at e1
  obtain ⟨rfl, _, rfl⟩ := e1
  refine bodyPost_ret (v := vLk (exP (w.heap.size + 1))) (by simp (maxDischargeDepth := 9) [results, Tryz.results15, go_sem, exP, vSl, exK]) rfl ⟨⟨w.heap.size + 1, rfl, ?_⟩, by repeat' (first | exact Below.refl _ _ | assumption | refine Below.more ?_ ?_ _ | refine Below.alloc ?_ ?_ _ | refine Below.drew ?_ | refine below_drewN ?_ _ | refine Below.setCell ?_ ?_ _ | exact Below.size (by assumption) | (simp [go_sem, size_more]; done) | (simp [go_sem, size_more]; omega))⟩
  refine ⟨by show (1 : Nat) ≤ maxLen; decide, by show (1 : Nat) ≤ maxLen; decide, by show (1 : Nat) ≤ maxLen; decide, rfl, rfl, rfl, rfl, by show (0 : Nat) ≤ maxLen; decide, rfl, rfl, ⟨by show (3 : Nat) ≤ 3; decide, by show (3 : Nat) ≤ 9223372036854775807; decide, q1, ?_⟩⟩
  intro k hk
  simp only [exP, exK, List.mem_cons, List.not_mem_nil, or_false] at hk
  rcases hk with rfl | rfl | rfl <;> exact ⟨rfl, rfl⟩

/-- The answer is a Bool. -/
def IsBool (e : Ending) : Prop := ∃ b, e = .returned (.bool b)
theorem isBool (b : Bool) : IsBool (.returned (.bool b)) := ⟨b, rfl⟩
set_option maxRecDepth 100000 in
set_option maxHeartbeats 1000000 in
theorem psmall_any (l : Lk) (w : World) : Calls Tryz.prog 5 #[vLk l] w fun e w' => IsBool e ∧ Below w.heap.size w w' := by
  have hb0 : Below w.heap.size w (w.alloc (.cells (eLk l).toArray 25)) := (Below.refl _ _).alloc (Nat.le_refl _) _
  cases h1 : decide ((l.Cu.xs.length : Int) ≤ 110)
  all_goals
    obtain ⟨nm, fr, tt, kd, ln, up, dn, sc, wi, he, cu⟩ := l
    simp only at h1
    go_enter Tryz.func5, Tryz.ntmps5
    go_wp2_with fail
    go_ret
    exact ⟨isBool _, by repeat' (first | exact Below.refl _ _ | assumption | refine Below.more ?_ ?_ _ | refine Below.alloc ?_ ?_ _ | refine Below.drew ?_ | refine below_drewN ?_ _ | refine Below.setCell ?_ ?_ _ | exact Below.size (by assumption) | (simp [go_sem, size_more]; done) | (simp [go_sem, size_more]; omega))⟩

set_option maxRecDepth 100000 in
set_option maxHeartbeats 8000000 in
theorem pawake_any (w : World) : Calls Tryz.prog 4 #[] w fun e w' => e = .returned (.bool true) ∧ Below w.heap.size w w' := by
  go_enter Tryz.func4, Tryz.ntmps4
  go_wp2_with fail
  refine Calls.to (pexample_any _) ?_
  rintro e w1 ⟨B, rfl, hg⟩ hb1
  have hf := pflow_any (exP B) 500 1500 w1 hg
  rw [exP_flow] at hf
  go_wp2_with fail
  refine Calls.go hb1 hf ?_
  rintro e w2 rfl _ hb2
  clear hf hg
  go_wp2_with fail
  refine Calls.go hb2 (pexample_any _) ?_
  rintro e w3 ⟨B2, rfl, hg⟩ _ hb3
  have hl := isL_lit eInt 1 (fun _ => rfl) (w3.alloc (.cells #[.int .i64 0, .int .i64 2000, .int .i64 700, .int .i64 2100, .int .i64 400, .int .i64 2000] 3)) w3.heap.size 3 _ [0, 2000, 700, 2100, 400, 2000] 6 6 (heap_alloc_new w3 _) rfl rfl (by decide) (by decide)
  have hA : Below w3.heap.size w3 (w3.alloc (.cells #[.int .i64 0, .int .i64 2000, .int .i64 700, .int .i64 2100, .int .i64 400, .int .i64 2000] 3)) := (Below.refl _ _).alloc (Nat.le_refl _) _
  have hst := pstarts_any (exP B2) [0, 2000, 700, 2100, 400, 2000] _ _ (rdLk.mono hg hA) hl
  rw [exP_starts] at hst
  have hb3 := hb3.trans (hA.mono hb3.size)
  clear hA hg
  go_wp2_with fail
  refine Calls.go hb3 hst ?_
  rintro e w4 ⟨v4, rfl, hown⟩ _ hb4
  have hs4 := hown.isL (fun _ => rfl)
  clear hst hown hl hb1 hb2 hb3
  have hen := fun W => penM_any 1000 5000 10 W
  rw [exP_en] at hen
  simp only [vEn] at hen
  go_wp2_with fail
  refine Calls.go hb4 (hen _) ?_
  rintro e w5 rfl hb5' hb5
  have hs5 := hs4.mono hb5'
  clear hb5' hb4 hs4 hen
  go_wp2_with fail
  have hbX : Below w5.heap.size w5 ((w5.alloc (.cells #[.int .i64 490500, .int .i64 490500] 42)).alloc (.cells #[.int .i64 1, .int .i64 5] 3)) := ((Below.refl _ _).alloc (Nat.le_refl _) _).alloc (by simp) _
  have hq := isL_lit eInt 1 (fun _ => rfl) ((w5.alloc (.cells #[.int .i64 490500, .int .i64 490500] 42)).alloc (.cells #[.int .i64 1, .int .i64 5] 3)) (w5.heap.size + 1) 3 _ [1, 5] 2 2 (by have h := heap_alloc_new (w5.alloc (.cells #[.int .i64 490500, .int .i64 490500] 42)) (.cells #[.int .i64 1, .int .i64 5] 3); rw [show (w5.alloc (.cells #[.int .i64 490500, .int .i64 490500] 42)).heap.size = w5.heap.size + 1 from by simp] at h; exact h) rfl rfl (by decide) (by decide)
  have hs6 := hs5.mono hbX
  have k0 : ((w5.alloc (.cells #[.int .i64 490500, .int .i64 490500] 42)).alloc (.cells #[.int .i64 1, .int .i64 5] 3)).cell? ⟨w5.heap.size, 0, none⟩ = some (.int .i64 490500) := by simp [go_sem]
  have k1 : ((w5.alloc (.cells #[.int .i64 490500, .int .i64 490500] 42)).alloc (.cells #[.int .i64 1, .int .i64 5] 3)).cell? ⟨w5.heap.size, 1, none⟩ = some (.int .i64 490500) := by simp [go_sem]
  have hb5 := hb5.trans (hbX.mono hb5.size)
  refine Calls.go hb5 (eqInts [1, 5] [1, 5] _ _ _ hs6 hq) ?_
  rintro e w6 rfl hb6' hb6
  have k0 := box_lt k0 hb6'
  have k1 := box_lt k1 hb6'
  rw [decide_eq_true (rfl : ([1, 5] : List Int) = [1, 5])]
  clear hq hs5 hs6 hb6' hb5 hbX
  go_wp2_with fail
  go_ret
  exact ⟨rfl, hb6⟩

set_option maxRecDepth 100000 in
theorem openLk {H : Type} {en : TypeId × Value → H} {W : World} {v : Value} {d : DataW H} {ps : List MemPlace} {r : Reach} {b0 : Nat} (hv : Value.okWide Tryz.prog W r b0 25 v) (h : DataW.Trod en Tryz.prog W 0 (fun _ => true) true 25 v d ps) :
    ∃ l : Lk, v = vLk l ∧ gLk W l := arg_struct (fs := flds Tryz.prog 25) rdLk (by kernel_rfl) hv h
set_option maxRecDepth 100000 in
theorem openInts {H : Type} {en : TypeId × Value → H} {W : World} {v : Value} {d : DataW H} {ps : List MemPlace} {r : Reach} {b0 : Nat} (hv : Value.okWide Tryz.prog W r b0 38 v) (h : DataW.Trod en Tryz.prog W 0 (fun _ => true) true 38 v d ps) :
    ∃ s : Sl Int, v = vSl s ∧ gSl eInt 1 gI64 W s := arg_slice rdI (by decide) (by kernel_rfl) (by kernel_rfl) hv h

end Go.Proofs.YtmpegbebjefkaaaGreat
