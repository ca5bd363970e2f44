/- The chapter's examples hold: awake returns true; few, short. Conditions: none. -/
import Derived.Test.YtdlaghjijfgncaaEvt
import Derived.Test.YtdlaghjijfgncaaEvq
namespace Go.Proofs.Ytdlaghjijfgncaa
open Go.RowKit
set_option linter.unusedVariables false
set_option linter.unusedSimpArgs false

def exs (a : Option Addr) (c : Nat) : Ser := ⟨0, 60, ⟨a, c, [3, 0, 2, 0, 0, 4]⟩⟩
def exA : List Ev := [⟨0, 3, 5, 3⟩, ⟨5, 6, 4, 4⟩]
def exB : List Ev := [⟨0, 6, 9, 4⟩]
def exL : List Ev := [⟨0, 1, 5, 5⟩, ⟨1, 2, 4, 4⟩, ⟨2, 3, 9, 9⟩]
theorem exA_is (a : Option Addr) (c : Nat) : splitM (exs a c) 2 0 = (exA, 0) := by
  have h1 : serB 0 60 [3, 0, 2, 0, 0, 4] = true := by decide +kernel
  have h2 : (splitGo 2 [3, 0, 2, 0, 0, 4] 0 []).filter (fun x => decide (0 ≤ x.Total)) = exA := by decide +kernel
  simp only [splitM, exs, h1, h2]
  simp [exA]
theorem exB_is (a : Option Addr) (c : Nat) : splitM (exs a c) 3 0 = (exB, 0) := by
  have h1 : serB 0 60 [3, 0, 2, 0, 0, 4] = true := by decide +kernel
  have h2 : (splitGo 3 [3, 0, 2, 0, 0, 4] 0 []).filter (fun x => decide (0 ≤ x.Total)) = exB := by decide +kernel
  simp only [splitM, exs, h1, h2]
  simp [exB]
theorem exL_right : validM exL = true := by decide +kernel
theorem exL_rank (S : List Int) (h : SortedOf (wR exL) (iota exL.length) S) : S = [2, 0, 1] := by
  have e : iota exL.length = [0, 1, 2] := by decide
  rw [e] at h
  refine sorted_unique (wR_asymm exL) S [2, 0, 1] (h.1.trans ?_) h.2 ?_
  · decide
  · simp [wR, totalAt, exL]
theorem exL_sorted : sortedT exL = [4, 5, 9] := by
  simp [sortedT, totalsM, exL, List.mergeSort, List.MergeSort.Internal.splitInTwo, List.merge]
theorem exL_quant : quantM exL 1 2 = (5, 0) := by
  have h : validM exL = true := exL_right
  simp only [quantM, h, exL_sorted]
  decide +kernel
theorem exL_per : perM exL 1 10 = ((11, 3), 0) := by decide +kernel

set_option maxRecDepth 100000 in
set_option maxHeartbeats 4000000 in
theorem eawake_any (w : World) : Calls Try.prog 11 #[] w fun e w' => e = .returned (.bool true) ∧ Below w.heap.size w w' := by
  go_enter Try.func11, Try.ntmps11
  go_wp2_with fail
  have hl := isL_lit eInt 1 (fun _ => rfl) ((w.alloc (.cells #[.int .i64 3, .int .i64 0, .int .i64 2, .int .i64 0, .int .i64 0, .int .i64 4] 3)).alloc (.cells #[.int .i64 0, .int .i64 60, .slice (some ⟨w.heap.size, 0, none⟩) 6 6] 24)) w.heap.size 3 _ [3, 0, 2, 0, 0, 4] 6 6 ((heap_alloc_old _ _ (by simp)).trans (heap_alloc_new w _)) rfl rfl (by decide) (by decide)
  have hb0 : Below w.heap.size w ((w.alloc (.cells #[.int .i64 3, .int .i64 0, .int .i64 2, .int .i64 0, .int .i64 0, .int .i64 4] 3)).alloc (.cells #[.int .i64 0, .int .i64 60, .slice (some ⟨w.heap.size, 0, none⟩) 6 6] 24)) := ((Below.refl _ _).alloc (Nat.le_refl _) _).alloc (by simp) _
  refine Calls.to (split_any (exs (some ⟨w.heap.size, 0, none⟩) 6) 2 0 _ hl) ?_
  rintro e w1 ⟨v1, rfl, hown1⟩ hb1
  rw [exA_is] at hown1 ⊢
  have hs1 := hown1.isL eEv_len
  have hl1 := hl.mono hb1
  have hbb1 := hb0.trans (hb1.mono hb0.size)
  have g0 : w1.cell? ⟨w.heap.size + 1, 0, none⟩ = some (.int .i64 0) := (hb1.cell (p := ⟨w.heap.size + 1, 0, none⟩) (by simp)).trans (by simp [go_sem])
  have g1 : w1.cell? ⟨w.heap.size + 1, 1, none⟩ = some (.int .i64 60) := (hb1.cell (p := ⟨w.heap.size + 1, 1, none⟩) (by simp)).trans (by simp [go_sem])
  have g2 : w1.cell? ⟨w.heap.size + 1, 2, none⟩ = some (.slice (some ⟨w.heap.size, 0, none⟩) 6 6) := (hb1.cell (p := ⟨w.heap.size + 1, 2, none⟩) (by simp)).trans (by simp [go_sem])
  clear hown1 hb1
  go_wp2_with fail
  refine Calls.to (split_any (exs (some ⟨w.heap.size, 0, none⟩) 6) 3 0 _ hl1) ?_
  rintro e w2 ⟨v2, rfl, hown2⟩ hb2
  rw [exB_is] at hown2 ⊢
  have hs2 := hown2.isL eEv_len
  have hs1 := hs1.mono hb2
  have hbb2 := hbb1.trans (hb2.mono hbb1.size)
  clear hown2 g0 g1 g2 hb2
  go_wp2_with fail
  have hq1 := isL_lit eEv 4 eEv_len (w2.alloc (.cells #[.int .i64 0, .int .i64 1, .int .i64 5, .int .i64 5, .int .i64 1, .int .i64 2, .int .i64 4, .int .i64 4, .int .i64 2, .int .i64 3, .int .i64 9, .int .i64 9] 34)) w2.heap.size 34 _ exL 3 3 (heap_alloc_new w2 _) rfl rfl (by decide) (by decide)
  have hb2' : Below w2.heap.size w2 (w2.alloc (.cells #[.int .i64 0, .int .i64 1, .int .i64 5, .int .i64 5, .int .i64 1, .int .i64 2, .int .i64 4, .int .i64 4, .int .i64 2, .int .i64 3, .int .i64 9, .int .i64 9] 34)) := (Below.refl _ _).alloc (Nat.le_refl _) _
  refine Calls.to (rank_any exL _ _ hq1) ?_
  rintro e w3 ⟨v3, code, rfl, hout⟩ hb3
  have hb3' := hb2'.trans (hb3.mono hb2'.size)
  have hq1 := hq1.mono hb3
  have hs1 := hs1.mono hb3'
  have hs2 := hs2.mono hb3'
  have hbb3 := hbb2.trans (hb3'.mono hbb2.size)
  have hw3 : code = 0 ∧ IsInts w3 v3 [2, 0, 1] := by
    rcases hout with ⟨h, _⟩ | ⟨_, h, S, hS, hI⟩
    · rw [exL_right] at h; cases h
    · rw [exL_rank S hS] at hI; exact ⟨h, hI.isL (fun _ => rfl)⟩
  obtain ⟨rfl, hs3⟩ := hw3
  clear hout hb3 hb3' hb2'
  go_wp2_with fail
  refine Calls.to (quant_any exL _ 1 2 _ hq1) ?_
  rintro e w4 rfl hb4
  rw [exL_quant]
  have hq1 := hq1.mono hb4
  have hs1 := hs1.mono hb4
  have hs2 := hs2.mono hb4
  have hs3 := hs3.mono hb4
  have hbb4 := hbb3.trans (hb4.mono hbb3.size)
  clear hb4
  go_wp2_with fail
  refine Calls.to (period_any exL _ 1 10 _ hq1) ?_
  rintro e w5 rfl hb5
  rw [exL_per]
  have hs1 := hs1.mono hb5
  have hs2 := hs2.mono hb5
  have hs3 := hs3.mono hb5
  have hbb5 := hbb4.trans (hb5.mono hbb4.size)
  clear hb5 hq1
  go_wp2_with fail
  have hbX : Below w5.heap.size w5 ((w5.alloc (.cells #[.int .i64 11, .int .i64 3] 40)).alloc (.cells #[.int .i64 0, .int .i64 3, .int .i64 5, .int .i64 3, .int .i64 5, .int .i64 6, .int .i64 4, .int .i64 4] 34)) := ((Below.refl _ _).alloc (Nat.le_refl _) _).alloc (by simp) _
  have hqA := isL_lit eEv 4 eEv_len ((w5.alloc (.cells #[.int .i64 11, .int .i64 3] 40)).alloc (.cells #[.int .i64 0, .int .i64 3, .int .i64 5, .int .i64 3, .int .i64 5, .int .i64 6, .int .i64 4, .int .i64 4] 34)) (w5.heap.size + 1) 34 _ exA 2 2 (by have h := heap_alloc_new (w5.alloc (.cells #[.int .i64 11, .int .i64 3] 40)) (.cells #[.int .i64 0, .int .i64 3, .int .i64 5, .int .i64 3, .int .i64 5, .int .i64 6, .int .i64 4, .int .i64 4] 34); rw [show (w5.alloc (.cells #[.int .i64 11, .int .i64 3] 40)).heap.size = w5.heap.size + 1 from by simp] at h; exact h) rfl rfl (by decide) (by decide)
  refine Calls.to (eqEvs exA exA _ _ _ (hs1.mono hbX) hqA) ?_
  rintro e w6 rfl hb6
  have hb6' := hbX.trans (hb6.mono hbX.size)
  have k0 : w6.cell? ⟨w5.heap.size, 0, none⟩ = some (.int .i64 11) := (hb6.cell (p := ⟨w5.heap.size, 0, none⟩) (by simp; omega)).trans (by simp [go_sem])
  have k1 : w6.cell? ⟨w5.heap.size, 1, none⟩ = some (.int .i64 3) := (hb6.cell (p := ⟨w5.heap.size, 1, none⟩) (by simp; omega)).trans (by simp [go_sem])
  have hs2 := hs2.mono hb6'
  have hs3 := hs3.mono hb6'
  have hbb6 := hbb5.trans (hb6'.mono hbb5.size)
  rw [decide_eq_true (rfl : exA = exA)]
  clear hqA hbX hb6 hs1
  go_wp2_with fail
  have hq2 := isL_lit eEv 4 eEv_len (w6.alloc (.cells #[.int .i64 0, .int .i64 6, .int .i64 9, .int .i64 4] 34)) w6.heap.size 34 _ exB 1 1 (heap_alloc_new w6 _) rfl rfl (by decide) (by decide)
  have hb6'' : Below w6.heap.size w6 (w6.alloc (.cells #[.int .i64 0, .int .i64 6, .int .i64 9, .int .i64 4] 34)) := (Below.refl _ _).alloc (Nat.le_refl _) _
  refine Calls.to (eqEvs exB exB _ _ _ (hs2.mono hb6'') hq2) ?_
  rintro e w7 rfl hb7
  have hb7' := hb6''.trans (hb7.mono hb6''.size)
  have k0 := box_lt k0 hb7'
  have k1 := box_lt k1 hb7'
  have hs3 := hs3.mono hb7'
  have hbb7 := hbb6.trans (hb7'.mono hbb6.size)
  rw [decide_eq_true (rfl : exB = exB)]
  clear hq2 hb6'' hb7 hs2 hb6'
  go_wp2_with fail
  have hq3 := isL_lit eInt 1 (fun _ => rfl) (w7.alloc (.cells #[.int .i64 2, .int .i64 0, .int .i64 1] 3)) w7.heap.size 3 _ [2, 0, 1] 3 3 (heap_alloc_new w7 _) rfl rfl (by decide) (by decide)
  have hb7'' : Below w7.heap.size w7 (w7.alloc (.cells #[.int .i64 2, .int .i64 0, .int .i64 1] 3)) := (Below.refl _ _).alloc (Nat.le_refl _) _
  refine Calls.to (eqInts [2, 0, 1] [2, 0, 1] _ _ _ (hs3.mono hb7'') hq3) ?_
  rintro e w8 rfl hb8
  have hb8' := hb7''.trans (hb8.mono hb7''.size)
  have k0 := box_lt k0 hb8'
  have k1 := box_lt k1 hb8'
  have hbb8 := hbb7.trans (hb8'.mono hbb7.size)
  rw [decide_eq_true (rfl : ([2, 0, 1] : List Int) = [2, 0, 1])]
  clear hq3 hb7'' hb8 hs3 hb7'
  go_wp2_with fail
  go_ret
  exact ⟨rfl, hbb8⟩

theorem splitGo_ok (dry : Int) : ∀ (ds : List Int) (k : Nat) (out : List Ev), out.length ≤ k → (splitGo dry ds k out).length ≤ k + ds.length
  | [], k, out, h => by simpa [splitGo] using h
  | d :: r, k, out, h => by
    by_cases hd : d ≤ 0
    · rw [splitGo_dry hd]
      have := splitGo_ok dry r (k + 1) out (by omega)
      simp only [List.length_cons]; omega
    · rw [splitGo_wet hd]
      have h2 : (addEv dry k d out).length ≤ k + 1 := by
        simp only [addEv]
        split
        · simp; omega
        · simp; omega
      have := splitGo_ok dry r (k + 1) _ h2
      simp only [List.length_cons]; omega
theorem splitGo_len (dry : Int) (ds : List Int) : (splitGo dry ds 0 []).length ≤ ds.length := by
  have := splitGo_ok dry ds 0 [] (by simp)
  omega

theorem IsL.isSl {α : Type} {enc : α → List Value} {k : Nat} {w : World} {v : Value} {xs : List α} (h : IsL enc k w v xs) : ∃ a c, v = .slice a xs.length c := by
  obtain ⟨a, c, e, _⟩ := h
  exact ⟨a, c, e⟩

def fewB (s : Ser) : Bool := decide ((s.Ds.xs.length : Int) ≤ 200)
theorem few_any (s : Ser) (w : World) : Calls Try.prog 12 #[vSer s] w fun e w' => e = .returned (.bool (fewB s)) ∧ Below w.heap.size w w' := by
  unfold fewB
  cases h : decide ((s.Ds.xs.length : Int) ≤ 200)
  all_goals
    go_enter Try.func12, Try.ntmps12
    go_wp2_with fail
    go_ret
    exact ⟨rfl, by repeat' (first | exact Below.refl _ _ | assumption | refine Below.more ?_ ?_ _ | refine Below.alloc ?_ ?_ _ | refine Below.drew ?_ | refine below_drewN ?_ _ | refine Below.setCell ?_ ?_ _ | exact Below.size (by assumption) | (simp [go_sem, size_more]; done) | (simp [go_sem, size_more]; omega))⟩
theorem short_any (l : List Ev) (v : Value) (w : World) (hv : IsEvs w v l) : Calls Try.prog 15 #[v] w fun e w' => e = .returned (.bool (decide ((l.length : Int) ≤ 60))) ∧ Below w.heap.size w w' := by
  obtain ⟨a, cap, rfl, hcap, hbig, hs⟩ := hv
  cases h : decide ((l.length : Int) ≤ 60)
  all_goals
    go_enter Try.func15, Try.ntmps15
    go_wp2_with fail
    go_ret
    exact ⟨rfl, by repeat' (first | exact Below.refl _ _ | assumption | refine Below.more ?_ ?_ _ | refine Below.alloc ?_ ?_ _ | refine Below.drew ?_ | refine below_drewN ?_ _ | refine Below.setCell ?_ ?_ _ | exact Below.size (by assumption) | (simp [go_sem, size_more]; done) | (simp [go_sem, size_more]; omega))⟩

end Go.Proofs.Ytdlaghjijfgncaa
