/- slices.Insert of one knot ahead of another. Conditions: the row is the call's own, the knot lies in a block of its own. -/
import Derived.Test.YtjgfgbiohbgcaaaGreatMcl
import Derived.Lib.Overlaps
import Derived.Lib.AppendZeros
import Derived.Lib.AppendZerosOnto
import Derived.Laws.Externs
import Derived.Shelf.RegionOpenPlain
namespace Go.Proofs.YtjgfgbiohbgcaaaGreat
open Go.RowKit
set_option linter.unusedVariables false
set_option linter.unusedSimpArgs false

theorem flat_take {α : Type} (enc : α → List Value) (k : Nat) (hk : ∀ x, (enc x).length = k) : ∀ (xs : List α) (i : Nat), (xs.take i).flatMap enc = (xs.flatMap enc).take (i * k)
  | [], i => by simp
  | x :: r, 0 => by simp
  | x :: r, i + 1 => by
    simp only [List.take_succ_cons, List.flatMap_cons]
    have e1 : (enc x).take (k + i * k) = enc x := List.take_of_length_le (by rw [hk]; omega)
    rw [flat_take enc k hk r i, show (i + 1) * k = k + i * k from by rw [Nat.add_mul]; omega, List.take_append, e1, hk, Nat.add_sub_cancel_left]
theorem flat_drop {α : Type} (enc : α → List Value) (k : Nat) (hk : ∀ x, (enc x).length = k) : ∀ (xs : List α) (i : Nat), (xs.drop i).flatMap enc = (xs.flatMap enc).drop (i * k)
  | [], i => by simp
  | x :: r, 0 => by simp
  | x :: r, i + 1 => by
    simp only [List.drop_succ_cons, List.flatMap_cons]
    have e2 : (enc x).drop (k + i * k) = [] := List.drop_eq_nil_of_le (by rw [hk]; omega)
    rw [flat_drop enc k hk r i, show (i + 1) * k = k + i * k from by rw [Nat.add_mul]; omega, List.drop_append, e2, hk, Nat.add_sub_cancel_left, List.nil_append]

/-- The row behind the two copies, where there is room. -/
theorem ins_room (L X Y : List Value) (p : Nat) (hY : Y.length = 2) (hp : p ≤ X.length) (hL : X.length + 2 ≤ L.length) (ht : L.take X.length = X) :
    (splice (splice L (p + 2) (X.drop p)) p Y).take (X.length + 2) = X.take p ++ Y ++ X.drop p := by
  have e1 : L.take p = X.take p := by rw [← ht, List.take_take, Nat.min_eq_left hp]
  unfold splice
  have h1 : (L.take (p + 2) ++ (X.drop p ++ L.drop (p + 2 + (X.drop p).length))).take p = X.take p := by
    rw [List.take_append_of_le_length (by simp; omega), List.take_take, Nat.min_eq_left (by omega), e1]
  have h2 : (L.take (p + 2) ++ (X.drop p ++ L.drop (p + 2 + (X.drop p).length))).drop (p + Y.length) = X.drop p ++ L.drop (p + 2 + (X.drop p).length) := by
    have e2 : (L.take (p + 2)).drop (p + 2) = [] := List.drop_eq_nil_of_le (by rw [List.length_take]; omega)
    rw [hY, List.drop_append, e2, List.nil_append]
    have : p + 2 - (L.take (p + 2)).length = 0 := by simp; omega
    rw [this, List.drop_zero]
  rw [h1, h2, ← List.append_assoc, ← List.append_assoc]
  rw [List.take_append_of_le_length (by simp; omega)]
  exact List.take_of_length_le (by simp; omega)
/-- The row behind the two copies, where a new one was made. -/
theorem ins_grow (Z X Y : List Value) (p : Nat) (hY : Y.length = 2) (hp : p ≤ X.length) (hL : X.length + 2 ≤ (X.take p ++ Z).length) :
    (splice (splice (X.take p ++ Z) p Y) (p + 2) (X.drop p)).take (X.length + 2) = X.take p ++ Y ++ X.drop p := by
  have hl : (X.take p).length = p := by simp; omega
  unfold splice
  have h0 : (X.take p ++ Z).take p = X.take p := by
    rw [List.take_append_of_le_length (by omega)]; exact List.take_of_length_le (by omega)
  rw [h0, hY]
  have h1 : (X.take p ++ (Y ++ (X.take p ++ Z).drop (p + 2))).take (p + 2) = X.take p ++ Y := by
    rw [← List.append_assoc, List.take_append_of_le_length (by simp; omega)]
    exact List.take_of_length_le (by simp; omega)
  rw [h1, ← List.append_assoc, List.take_append_of_le_length (by simp; omega)]
  exact List.take_of_length_le (by simp; omega)

theorem undRow : Tryz.prog.underlying 24 = some (.slice 71) := by kernel_rfl
theorem sizKn : (Tryz.prog.info? 71).map (·.size) = some 2 := by kernel_rfl
theorem one_flat (xs : List Kn) : ∀ u ∈ xs.flatMap eKn, u.oneCell' = true := by
  intro u hu
  rw [List.mem_flatMap] at hu
  obtain ⟨x, _, hx⟩ := hu
  simp at hx
  rcases hx with rfl | rfl <;> rfl
theorem row_cell {w : World} {g : Nat} {L : List Value} {T : TypeId} (hg : w.heap[g]? = some (.cells L.toArray T (0, 0))) (j : Nat) : w.cell? ⟨g, j, none⟩ = L[j]? := by
  simp [World.cell?, hg]

set_option maxRecDepth 100000 in
set_option maxHeartbeats 4000000 in
theorem insK_room (base i n p g cap vb vc : Nat) (L X Y : List Value) (w : World) (hg : w.heap[g]? = some (.cells L.toArray 71 (0, 0))) (hL : L.length = cap * 2) (hX : X.length = n * 2) (htake : L.take (n * 2) = X) (hY : Y.length = 2)
    (h1X : ∀ u ∈ X, u.oneCell' = true) (h1Y : ∀ u ∈ Y, u.oneCell' = true) (hp : p = i * 2) (hi : i < n) (hroom : n + 1 ≤ cap) (hcap : cap ≤ 9223372036854775807) (hn : n ≤ 100) (hv : w.heap[vb]? = some (.cells Y.toArray 71 (0, 0))) (hvb : vb ≠ g) (hbg : base ≤ g) :
    Calls Tryz.prog 70 #[.slice (some ⟨g, 0, none⟩) n cap, .int .i64 (i : Int), .slice (some ⟨vb, 0, none⟩) 1 vc] w fun e w' =>
      e = .returned (.slice (some ⟨g, 0, none⟩) (n + 1) cap) ∧ (w'.heap[g]? = some (.cells (splice (splice L (p + 2) (X.drop p)) p Y).toArray 71 (0, 0))) ∧ Below base w w' := by
  have hov : ∀ W lb cb, W.heap[vb]? = some (.cells Y.toArray 71 (0, 0)) → W.heap[g]? = some (.cells L.toArray 71 (0, 0)) → (callFunc 86 #[.slice (some ⟨vb, 0, none⟩) 1 vc, .slice (some ⟨g, (i + 1) * 2, none⟩) lb cb]).run Tryz.prog W = .ok (.value (.bool false)) W := fun W lb cb hv hg => by
    rw [run_callFunc_extern Tryz.func86 (by kernel_rfl) (by kernel_rfl) (by kernel_rfl) (e := Extern.SlicesOverlaps.overlaps #[24, 24] #[4]) (by kernel_rfl),
      Lib.run_overlaps_apart W 24 4 71 undRow 2 Tryz.sizeOf71 ⟨vb, 0, none⟩ ⟨g, (i + 1) * 2, none⟩ 1 vc lb cb hvb 71 71 2 (cap * 2) (by simp [World.shape?, hv, hY]) (by simp [World.shape?, hg, hL]) (by omega) (by simp [World.frozen?, hv]) (by simp [World.frozen?, hv])]
    rfl
  have hp' : p = i * 2 := hp
  have hz2 : ¬ ((i : Int) = (n : Int)) := by omega
  have hw1 : IntKind.i64.wrap ((i : Int) + 1) = (i : Int) + 1 := by rw [IntKind.wrap_i64]; omega
  have hw2 : IntKind.i64.wrap ((n : Int) + 1) = (n : Int) + 1 := by rw [IntKind.wrap_i64]; omega
  have hb1 : (0 : Int) ≤ (i : Int) + 1 := by omega
  have hin : i ≤ n := by omega
  have htn : ((i : Int) + 1).toNat = i + 1 := by omega
  have htm : ((n : Int) + 1).toNat = n + 1 := by omega
  have hb2 : ¬ (cap = i + 1) := by omega
  have hb3 : (i : Int) ≤ (n : Int) + 1 := by omega
  have hb4 : ¬ (cap = i) := by omega
  have hz3 : ((i : Int) == (n : Int)) = false := by rw [beq_eq_false_iff_ne]; exact hz2
  have hz4 : decide ((cap : Int) < (n : Int) + 1) = false := decide_eq_false (by omega)
  have hz5 : ¬ ((cap : Int) < (n : Int) + 1) := by omega
  have hrow : w.heap[vb]? = some (.cells Y.toArray 71 (0, 0)) := hv
  have hov0 := hov w
  go_enter Tryz.func70, Tryz.ntmps70
  go_wp2_with (simp only [hov w _ _ hv hg])
  have hgd : w.drew.heap[g]? = some (.cells L.toArray 71 (0, 0)) := hg
  have hsrc : ∀ j v, (X.drop p)[j]? = some v → w.drew.cell? ((⟨g, i * 2, none⟩ : Addr).add j) = some v := by
    intro j v hj
    rw [Addr.add_lit]
    show w.cell? ⟨g, i * 2 + j, none⟩ = some v
    rw [row_cell hg]
    rw [List.getElem?_drop, hp'] at hj
    rw [← hj, ← htake]
    rw [List.getElem?_take_of_lt]
    have := (List.getElem?_eq_some_iff.1 hj).1
    omega
  go_region_law (refine step_copy_k rfl _ _ 25 25 rfl 71 undKns 2 sizKn g (p + 2) (n + 1 - (i + 1)) (cap - (i + 1)) ⟨g, i * 2, none⟩ (n + 1 - i) (cap - i) (by simp [Act.eval, Act.put, hp'] <;> omega) (by simp [Act.eval, Act.put]) L 71 hgd (X.drop p) (n - i) (by show min _ _ = _; omega) (by rw [List.length_drop, hX]; omega) hsrc (by rw [List.length_drop, hX]; omega) (fun v hv => h1X v (List.mem_of_mem_drop hv)) base w (Below.drew (Below.refl _ _)) hbg ?_; intro w4 hg4 ho4 hb4)
  all_goals
    have hv4 : w4.heap[vb]? = some (.cells Y.toArray 71 (0, 0)) := (ho4 vb hvb).trans hv
    have hsrc2 : ∀ j v, Y[j]? = some v → w4.cell? ((⟨vb, 0, none⟩ : Addr).add j) = some v := by
      intro j v hj
      rw [Addr.add_lit, row_cell hv4, Nat.zero_add]; exact hj
    have hls : (splice L (p + 2) (X.drop p)).length = cap * 2 := by rw [length_splice _ _ _ (by rw [List.length_drop, hX]; omega)]; exact hL
    clear hsrc hgd hov hov0
    go_wp2_with (refine wpList_copy_k rfl _ _ 25 24 rfl 71 undKns 2 sizKn g p (n + 1 - i) (cap - i) ⟨vb, 0, none⟩ 1 vc (by simp [Act.eval, Act.put, hp'] <;> omega) (by simp [Act.eval, Act.put]) (splice L (p + 2) (X.drop p)) 71 hg4.out Y 1 (by show min _ _ = _; omega) (by omega) hsrc2 (by rw [hls, hY]; omega) h1Y base w hb4 hbg ?_; intro w5 hg5 ho5 hb5)
    go_ret
    exact ⟨rfl, hg5.out, hb5⟩

set_option maxRecDepth 100000 in
set_option maxHeartbeats 4000000 in
theorem insK_grow (base i n p g cap vb vc : Nat) (L X Y : List Value) (w : World) (hg : w.heap[g]? = some (.cells L.toArray 71 (0, 0))) (hL : L.length = cap * 2) (hX : X.length = n * 2) (htake : L.take (n * 2) = X) (hY : Y.length = 2)
    (h1X : ∀ u ∈ X, u.oneCell' = true) (h1Y : ∀ u ∈ Y, u.oneCell' = true) (hp : p = i * 2) (hi : i < n) (hnc : n ≤ cap) (hroom : cap < n + 1) (hn : n ≤ 100) (hv : w.heap[vb]? = some (.cells Y.toArray 71 (0, 0))) (hbw : base ≤ w.heap.size) :
    Calls Tryz.prog 70 #[.slice (some ⟨g, 0, none⟩) n cap, .int .i64 (i : Int), .slice (some ⟨vb, 0, none⟩) 1 vc] w fun e w' =>
      ∃ (G : Nat) (Z : List Value), e = .returned (.slice (some ⟨w.heap.size, 0, none⟩) (n + 1) G) ∧ (w'.heap[w.heap.size]? = some (.cells (splice (splice (X.take p ++ Z) p Y) (p + 2) (X.drop p)).toArray 71 (0, 0))) ∧ (X.take p ++ Z).length = G * 2 ∧ n + 1 ≤ G ∧ G ≤ maxLen ∧ Below base w w' := by
  subst hp
  obtain ⟨i0, hi0, hz0, hzs, hzb⟩ := info_parts infKn
  have hgw : g < w.heap.size := (Array.getElem?_eq_some_iff.1 hg).1
  have hvw : vb < w.heap.size := (Array.getElem?_eq_some_iff.1 hv).1
  have hkk : (n : Int) + 1 - (i : Int) = ((n + 1 - i : Nat) : Int) := by omega
  have hik : i + (n + 1 - i) = n + 1 := by omega
  have hsrc0 : ∀ j v, X[j]? = some v → w.cell? ⟨g, j, none⟩ = some v := by
    intro j v hj
    rw [row_cell hg, ← hj, ← htake, List.getElem?_take_of_lt]
    have := (List.getElem?_eq_some_iff.1 hj).1
    omega
  have hold : (Builtin.firstCells i0.size i (.slice (some ⟨g, 0, none⟩) i cap)).run Tryz.prog w.drew = .ok (X.take (i * 2)).toArray w.drew := by
    rw [hzs]
    exact run_firstCells_some w.drew 2 i ⟨g, 0, none⟩ i cap (X.take (i * 2)) (by rw [List.length_take]; omega) (fun j v hj => by
      rw [Addr.add_lit, Nat.zero_add]
      rw [List.getElem?_take] at hj
      split at hj
      · exact hsrc0 j v hj
      · cases hj)
  obtain ⟨G, hG⟩ : ∃ G, G = grownCap w (n + 1) cap 71 := ⟨_, rfl⟩
  obtain ⟨Z, hZ⟩ : ∃ Z : List Value, Z = (Builtin.zeroCells (Value.agg #[.int .i64 0, .int .i64 0]).cells (n + 1 - i)).toList ++ (Builtin.zeroCells (Value.agg #[.int .i64 0, .int .i64 0]).cells (G - (n + 1))).toList := ⟨_, rfl⟩
  have hrz : ∀ ty, (Builtin.append_ #[25, 3] ty #[.slice (some ⟨g, 0, none⟩) i cap, .int .i64 ((n : Int) + 1 - (i : Int))]).run Tryz.prog w =
      .ok (.slice (some ⟨w.heap.size, 0, none⟩) (n + 1) G) (w.drew.alloc (.cells (X.take (i * 2) ++ Z).toArray 71)) := fun ty => by
    have h := Lib.run_append_grow_zeros w 25 3 ty 71 i0 _ .i64 .i64 undKns (by kernel_rfl) hi0 hz0 (some ⟨g, 0, none⟩) i cap (X.take (i * 2)) hold (n + 1 - i) (by omega) (by omega) (by omega) (by omega) (by rw [hzb]; omega) (by rw [hzb, hik]; exact growslice_fits hroom (by omega))
    rw [hik] at h
    have ea : ∀ (A : List Value) (B C : Array Value), A.toArray ++ B ++ C = (A ++ (B.toList ++ C.toList)).toArray := by
      intro A B C; apply Array.toList_inj.1; simp
    rw [hkk, hG]
    rw [h, hZ, hG, ea]
  have hGn : n + 1 ≤ G := by rw [hG]; exact grownCap_ge w _ _ _
  have hGm : G ≤ maxLen := by rw [hG]; exact grownCap_le_maxLen w (n + 1) cap 71 (by unfold maxLen; omega)
  have hRl : (X.take (i * 2) ++ Z).length = G * 2 := by
    rw [hZ]
    simp [Builtin.zeroCells, Value.cells, hX]
    omega
  have hGm2 : G ≤ 9223372036854775807 := by simpa [maxLen] using hGm
  clear hkk hik hold hZ hG
  have hw1 : IntKind.i64.wrap ((i : Int) + 1) = (i : Int) + 1 := by rw [IntKind.wrap_i64]; omega
  have hw2 : IntKind.i64.wrap ((n : Int) + 1) = (n : Int) + 1 := by rw [IntKind.wrap_i64]; omega
  have hw3 : IntKind.i64.wrap ((n : Int) + 1 - (i : Int)) = (n : Int) + 1 - (i : Int) := by rw [IntKind.wrap_i64]; omega
  have hz2 : ¬ ((i : Int) = (n : Int)) := by omega
  have hz3 : ((i : Int) == (n : Int)) = false := by rw [beq_eq_false_iff_ne]; exact hz2
  have hz4 : decide ((cap : Int) < (n : Int) + 1) = true := decide_eq_true (by omega)
  have hz5 : (cap : Int) < (n : Int) + 1 := by omega
  have hb1 : (0 : Int) ≤ (i : Int) + 1 := by omega
  have hin : i ≤ n := by omega
  have htn : ((i : Int) + 1).toNat = i + 1 := by omega
  have hGi : ¬ (G = i) := by omega
  have hGim : ¬ (G = i + 1) := by omega
  have hci : ¬ (cap = i) := by omega
  have hb3 : (i : Int) ≤ (n : Int) := by omega
  have hb4 : (i : Int) ≤ (n : Int) + 1 := by omega
  go_enter Tryz.func70, Tryz.ntmps70
  have hls : (splice (X.take (i * 2) ++ Z) (i * 2) Y).length = G * 2 := by rw [length_splice _ _ _ (by rw [hRl, hY]; omega)]; exact hRl
  have hA : Below base w (w.alloc (.cells (X.take (i * 2) ++ Z).toArray 71)).drew := Below.drew ((Below.refl _ _).alloc hbw _)
  have hAg : (w.alloc (.cells (X.take (i * 2) ++ Z).toArray 71)).drew.heap[w.heap.size]? = some (.cells (X.take (i * 2) ++ Z).toArray 71 (0, 0)) := heap_alloc_new w _
  have hAv : (w.alloc (.cells (X.take (i * 2) ++ Z).toArray 71)).drew.heap[vb]? = some (.cells Y.toArray 71 (0, 0)) := (heap_alloc_old w _ hvw).trans hv
  have hAs : (w.alloc (.cells (X.take (i * 2) ++ Z).toArray 71)).drew.heap[g]? = some (.cells L.toArray 71 (0, 0)) := (heap_alloc_old w _ hgw).trans hg
  have hsrcA : ∀ j v, Y[j]? = some v → (w.alloc (.cells (X.take (i * 2) ++ Z).toArray 71)).drew.cell? ((⟨vb, 0, none⟩ : Addr).add j) = some v := by
    intro j v hj
    rw [Addr.add_lit, row_cell hAv, Nat.zero_add]; exact hj
  go_wp2_with (first
    | (at_builtin; refine Lib.wpList_append_run _ rfl _ _ _ _ rfl _ _ rfl rfl _ _ (hrz _) ?_)
    | (refine wpList_copy_k rfl _ _ 25 24 rfl 71 undKns 2 sizKn w.heap.size (i * 2) (n + 1 - i) (G - i) ⟨vb, 0, none⟩ 1 vc (by simp [Act.eval, Act.put] <;> omega) (by simp [Act.eval, Act.put]) (X.take (i * 2) ++ Z) 71 hAg Y 1 (by show min _ _ = _; omega) (by omega) hsrcA (by rw [hRl, hY]; omega) h1Y base w hA hbw ?_; intro w5 hg5 ho5 hb5))
  have hs5 : w5.drew.heap[g]? = some (.cells L.toArray 71 (0, 0)) := (ho5 g (by omega)).trans hAs
  have hg5d : w5.drew.heap[w.heap.size]? = some (.cells (splice (X.take (i * 2) ++ Z) (i * 2) Y).toArray 71 (0, 0)) := hg5.out
  have hsrcB : ∀ j v, (X.drop (i * 2))[j]? = some v → w5.drew.cell? ((⟨g, i * 2, none⟩ : Addr).add j) = some v := by
    intro j v hj
    rw [Addr.add_lit, row_cell hs5]
    rw [List.getElem?_drop] at hj
    rw [← hj, ← htake, List.getElem?_take_of_lt]
    have := (List.getElem?_eq_some_iff.1 hj).1
    omega
  clear hrz hsrcA hAs hAv hAg hA hsrc0
  go_region_law (refine step_copy_k rfl _ _ 25 25 rfl 71 undKns 2 sizKn w.heap.size (i * 2 + 2) (n + 1 - (i + 1)) (G - (i + 1)) ⟨g, i * 2, none⟩ (n - i) (cap - i) (by simp [Act.eval, Act.put] <;> omega) (by simp [Act.eval, Act.put]) (splice (X.take (i * 2) ++ Z) (i * 2) Y) 71 hg5d (X.drop (i * 2)) (n - i) (by show min _ _ = _; omega) (by rw [List.length_drop, hX]; omega) hsrcB (by rw [hls, List.length_drop, hX]; omega) (fun v hv => h1X v (List.mem_of_mem_drop hv)) base w (Below.drew hb5) hbw ?_; intro w6 hg6 ho6 hb6)
  all_goals
    clear hsrcB
    go_wp2_with fail
    go_ret
    exact ⟨G, Z, rfl, hg6.out, hRl, hGn, hGm, hb6⟩

/-- Insert of one knot into a row of the call's own. -/
theorem insK_any (base i : Nat) (xs : List Kn) (y : Kn) (v : Value) (vb vc : Nat) (w : World) (hown : Own base 71 eKn 2 w v xs) (hi : i < xs.length) (hn : xs.length ≤ 100) (hv : w.heap[vb]? = some (.cells (eKn y).toArray 71 (0, 0)))
    (hvb : ∀ g n cap, v = .slice (some ⟨g, 0, none⟩) n cap → vb ≠ g) (hbw : base ≤ w.heap.size) :
    Calls Tryz.prog 70 #[v, .int .i64 (i : Int), .slice (some ⟨vb, 0, none⟩) 1 vc] w fun e w' =>
      (∃ v', e = .returned v' ∧ Own base 71 eKn 2 w' v' (xs.take i ++ y :: xs.drop i)) ∧ Below base w w' := by
  have hX : (xs.flatMap eKn).length = xs.length * 2 := flat_len eKn 2 eKn_len xs
  have hlen : (xs.take i ++ y :: xs.drop i).length = xs.length + 1 := by simp; omega
  have hfl : (xs.take i ++ y :: xs.drop i).flatMap eKn = (xs.flatMap eKn).take (i * 2) ++ eKn y ++ (xs.flatMap eKn).drop (i * 2) := by
    rw [List.flatMap_append, List.flatMap_cons, flat_take eKn 2 eKn_len, flat_drop eKn 2 eKn_len, List.append_assoc]
  have hy1 : ∀ u ∈ eKn y, u.oneCell' = true := by
    intro u hu
    simp at hu
    rcases hu with rfl | rfl <;> rfl
  rcases hown.2 with ⟨_, h0⟩ | ⟨g, cap, cur, rfl, hbg, hg, hnc, hcm, hcs, htake⟩
  · omega
  · obtain ⟨L, rfl⟩ : ∃ L : List Value, cur = L.toArray := ⟨cur.toList, by simp⟩
    have hL : L.length = cap * 2 := by simpa using hcs
    have ht : L.take (xs.length * 2) = xs.flatMap eKn := by simpa using htake
    have hcm2 : cap ≤ 9223372036854775807 := by simpa [maxLen] using hcm
    by_cases hr : xs.length + 1 ≤ cap
    · refine (insK_room base i xs.length (i * 2) g cap vb vc L (xs.flatMap eKn) (eKn y) w hg hL hX ht rfl (one_flat xs) hy1 rfl hi hr hcm2 hn hv (hvb g _ _ rfl) hbg).mono ?_
      rintro e w' ⟨rfl, hh, hb⟩
      refine ⟨⟨_, rfl, ?_⟩, hb⟩
      unfold Own
      rw [hfl, hlen]
      refine ⟨by simp [hX]; omega, .inr ⟨g, cap, _, rfl, hbg, hh, hr, hcm, ?_, ?_⟩⟩
      · rw [List.size_toArray, length_splice _ _ _ (by rw [length_splice _ _ _ (by simp [hX]; omega)]; show i * 2 + 2 ≤ _; omega), length_splice _ _ _ (by simp [hX]; omega), hL]
      · rw [show (xs.length + 1) * 2 = (xs.flatMap eKn).length + 2 from by rw [hX]; omega]
        exact ins_room L (xs.flatMap eKn) (eKn y) (i * 2) rfl (by omega) (by omega) (by rw [hX]; exact ht)
    · refine (insK_grow base i xs.length (i * 2) g cap vb vc L (xs.flatMap eKn) (eKn y) w hg hL hX ht rfl (one_flat xs) hy1 rfl hi hnc (by omega) hn hv hbw).mono ?_
      rintro e w' ⟨G, Z, rfl, hh, hRl, hGn, hGm, hb⟩
      refine ⟨⟨_, rfl, ?_⟩, hb⟩
      unfold Own
      rw [hfl, hlen]
      refine ⟨by simp [hX]; omega, .inr ⟨w.heap.size, G, _, rfl, hbw, hh, hGn, hGm, ?_, ?_⟩⟩
      · rw [List.size_toArray, length_splice _ _ _ (by rw [length_splice _ _ _ (by rw [hRl]; show i * 2 + 2 ≤ _; omega), hRl]; simp [hX]; omega), length_splice _ _ _ (by rw [hRl]; show i * 2 + 2 ≤ _; omega), hRl]
      · rw [show (xs.length + 1) * 2 = (xs.flatMap eKn).length + 2 from by rw [hX]; omega]
        exact ins_grow Z (xs.flatMap eKn) (eKn y) (i * 2) rfl (by omega) (by rw [hRl]; omega)

end Go.Proofs.YtjgfgbiohbgcaaaGreat
