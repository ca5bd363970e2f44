/- What is reached: digraph.Reach, digraph.Closure. Conditions: the edges read as data. -/
import Derived.Test.YtlcfnbnpkcjjlaaGreatDgh
namespace Go.Proofs.YtlcfnbnpkcjjlaaGreat
open Go.RowKit
set_option linter.unusedVariables false
set_option linter.unusedSimpArgs false

set_option maxRecDepth 100000 in
set_option maxHeartbeats 2000000 in
theorem reach_bad (n : Int) (E : List (Int × Int)) (v fv : Value) (w : World) (hE : IsEis w v E) (hbad : validB n E = false) :
    Calls Tryz.prog 62 #[.int .i64 n, v, fv] w fun e w' => e = .returned (.tuple #[.slice none 0 0, .int .i64 1]) ∧ Below w.heap.size w w' := by
  have hb0 := alloc_below w (.cells #[.int .i64 n] 3)
  have hc := valid_any n E v _ (hE.mono hb0)
  rw [hbad] at hc
  go_enter Tryz.func62, Tryz.ntmps62
  go_wp2_with fail
  refine Calls.go hb0 hc ?_
  rintro e w1 rfl _ hb
  go_wp2_with fail
  go_ret2
  exact ⟨rfl, hb⟩

set_option maxRecDepth 100000 in
set_option maxHeartbeats 2000000 in
theorem reach_full (n : Int) (E : List (Int × Int)) (F : List Int) (v fv : Value) (w : World) (hE : IsEis w v E) (hok : validB n E = true) (hF : IsInts w fv F) (hl : 1000 < F.length) :
    Calls Tryz.prog 62 #[.int .i64 n, v, fv] w fun e w' => e = .returned (.tuple #[.slice none 0 0, .int .i64 4]) ∧ Below w.heap.size w w' := by
  have hb0 := alloc_below w (.cells #[.int .i64 n] 3)
  have hc := valid_any n E v _ (hE.mono hb0)
  rw [hok] at hc
  obtain ⟨fa, fc, rfl, _, _, _⟩ := hF
  have h1 : decide (1000 < F.length) = true := decide_eq_true hl
  have h2 : decide ((1000 : Int) < F.length) = true := decide_eq_true (by omega)
  go_enter Tryz.func62, Tryz.ntmps62
  go_wp2_with fail
  refine Calls.go hb0 hc ?_
  rintro e w1 rfl _ hb
  go_wp2_with fail
  go_ret2
  exact ⟨rfl, hb⟩

set_option maxHeartbeats 1000000 in
theorem reach1_any (n i : Int) (B : Nat) (w : World) (hc : w.cell? ⟨B, 0, none⟩ = some (.int .i64 n)) :
    Calls Tryz.prog 86 #[.int .i64 i, .pointer (some ⟨B, 0, none⟩)] w fun r w' => r = .returned (.bool (!isB n i)) ∧ Below w.heap.size w w' := by
  have hx := fun W => is_any n i W
  generalize isB n i = b at *
  cases b
  all_goals
    go_enter Tryz.func86, Tryz.ntmps86
    go_wp2_with fail
    refine (hx _).mono ?_
    rintro e w1 ⟨rfl, rfl⟩
    go_wp2_with fail
    go_ret
    exact ⟨rfl, by repeat' (first | exact Below.refl _ _ | assumption | refine Below.more ?_ ?_ _ | refine Below.alloc ?_ ?_ _ | refine Below.drew ?_ | refine below_drewN ?_ _ | refine Below.setCell ?_ ?_ _ | exact Below.size (by assumption) | (simp [go_sem, size_more]; done) | (simp [go_sem, size_more]; omega))⟩

set_option maxRecDepth 100000 in
set_option maxHeartbeats 2000000 in
theorem reach_rng (n : Int) (E : List (Int × Int)) (F : List Int) (v fv : Value) (w : World) (hE : IsEis w v E) (hok : validB n E = true) (hF : IsInts w fv F) (hl : F.length ≤ 1000) (ha : F.any (fun i => !isB n i) = true) :
    Calls Tryz.prog 62 #[.int .i64 n, v, fv] w fun e w' => e = .returned (.tuple #[.slice none 0 0, .int .i64 2]) ∧ Below w.heap.size w w' := by
  have hb0 := alloc_below w (.cells #[.int .i64 n] 3)
  have hc := valid_any n E v _ (hE.mono hb0)
  rw [hok] at hc
  have hF0 := hF
  obtain ⟨fa, fc, rfl, _, _, _⟩ := hF
  have h1 : decide (1000 < F.length) = false := decide_eq_false (by omega)
  have h2 : decide ((1000 : Int) < F.length) = false := decide_eq_false (by omega)
  have hcell : (w.alloc (.cells #[.int .i64 n] 3)).cell? ⟨w.heap.size, 0, none⟩ = some (.int .i64 n) := by simp [go_sem]
  go_enter Tryz.func62, Tryz.ntmps62
  go_wp2_with fail
  refine Calls.go hb0 hc ?_
  rintro e w1 rfl hb1 hb
  have hk := containsI 86 #[.pointer (some ⟨w.heap.size, 0, none⟩)] (fun _ _ => by kernel_rfl) (fun i => !isB n i) F _ w1 (hF0.mono hb) (fun X hX x hx => reach1_any n x w.heap.size X (cell_lt (cell_lt hcell hb1) hX))
  rw [ha] at hk
  go_wp2_with fail
  refine Calls.go hb hk ?_
  rintro e w2 rfl _ hb2
  go_wp2_with fail
  go_ret2
  exact ⟨rfl, hb2⟩

set_option maxRecDepth 100000 in
set_option maxHeartbeats 2000000 in
theorem reach_ok (n : Nat) (E : List (Nat × Nat)) (f : List Nat) (v fv : Value) (w : World) (hE : IsEds w v E) (hv : Gp.vtx n E) (hn : n ≤ 300) (hl : E.length ≤ 1000) (hF : IsNats w fv f) (hfl : f.length ≤ 1000) (hf : ∀ s ∈ f, s < n) :
    Calls Tryz.prog 62 #[.int .i64 n, v, fv] w fun e w' => (∃ u, e = .returned (.tuple #[u, .int .i64 0]) ∧ Own w.heap.size 4 eBool 1 w' u (Gp.reachL n E f)) ∧ Below w.heap.size w w' := by
  have hb0 := alloc_below w (.cells #[.int .i64 (n : Int)] 3)
  have hc := valid_any n (edI E) v _ (isL_edI.2 (hE.mono hb0))
  rw [validB_ok hv hn hl] at hc
  have hF0 := hF
  obtain ⟨fa, fc, rfl, _, _, _⟩ := hF
  have h1 : decide (1000 < f.length) = false := decide_eq_false (by omega)
  have h2 : decide ((1000 : Int) < f.length) = false := decide_eq_false (by omega)
  have hcell : (w.alloc (.cells #[.int .i64 (n : Int)] 3)).cell? ⟨w.heap.size, 0, none⟩ = some (.int .i64 (n : Int)) := by simp [go_sem]
  have hany : (nzs f).any (fun i => !isB n i) = false := by
    rw [List.any_eq_false]
    intro i hi
    obtain ⟨x, hx, rfl⟩ := List.mem_map.1 hi
    have := hf x hx
    simp [isB]; omega
  go_enter Tryz.func62, Tryz.ntmps62
  go_wp2_with fail
  refine Calls.go hb0 hc ?_
  rintro e w1 rfl hb1 hb
  have hk := containsI 86 #[.pointer (some ⟨w.heap.size, 0, none⟩)] (fun _ _ => by kernel_rfl) (fun i => !isB n i) (nzs f) _ w1 (isL_ints.2 (hF0.mono hb)) (fun X hX x hx => reach1_any n x w.heap.size X (cell_lt (cell_lt hcell hb1) hX))
  rw [hany] at hk
  have c1 := cell_lt hcell hb1
  go_wp2_with fail
  refine Calls.go hb hk ?_
  rintro e w2 rfl hb2 hbb2
  have c2 := cell_lt c1 hb2
  go_wp2_with fail
  refine Calls.go hbb2 (next_any n E v w2 (hE.mono hbb2) hv (by omega) (by omega)) ?_
  rintro e w3 ⟨ru, vs, rfl, hR⟩ hb3 hbb3
  go_wp2_with fail
  refine Calls.go hbb3 (reach0_any n E f _ ru _ vs w3 hR (hF0.mono hbb3) hv hn hf (by omega)) ?_
  rintro e w4 ⟨u, rfl, hO⟩ hb4 hbb4
  go_wp2_with fail
  go_ret2
  exact ⟨⟨_, rfl, hO.base hbb3.size⟩, hbb4⟩

noncomputable def cloL (n : Nat) (E : Gp.Gr) (k : Nat) : List (List Bool) := (List.range k).map fun i => Gp.reachL n E [i]
theorem cloL_succ (n : Nat) (E : Gp.Gr) (k : Nat) : cloL n E (k + 1) = cloL n E k ++ [Gp.reachL n E [k]] := by
  unfold cloL
  rw [List.range_succ, List.map_append]; rfl
theorem cloL_len (n : Nat) (E : Gp.Gr) (k : Nat) : (cloL n E k).length = k := by simp [cloL]

end Go.Proofs.YtlcfnbnpkcjjlaaGreat
