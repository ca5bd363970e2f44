/- A row of numbers at an offset of its block: slices.Insert and slices.BinarySearch at []int by the shelf, and its tail. Conditions: at most a million elements. -/
import Derived.Test.YtlcfnbnpkcjjlaaGreatDgs
import Derived.Shelf.Spec.SlicesInsert
import Derived.Shelf.Spec.SlicesInsertGrow
import Derived.Ground.Names2Prog
namespace Go.Proofs
open Go.Shelf
def Tryz.laysIns_ren : Go.Shelf.Ren := ⟨fun | 21 => 93 | 27 => 111 | 28 => 112 | 35 => 119 | 39 => 131 | n => n, fun | 22 => 26 | 3 => 3 | 4 => 4 | 0 => 0 | n => n, fun | n => n⟩
theorem Tryz.laysIns : Go.Proofs.Lays2.n21 Tryz.prog Tryz.laysIns_ren := {
  mixed := by kernel_rfl
  f21 := Tryz.func93.trans (congrArg some (by kernel_rfl))
  f27 := Tryz.func111.trans (congrArg some (by kernel_rfl))
  f28 := Tryz.func112.trans (congrArg some (by kernel_rfl))
  f35 := Tryz.func119.trans (congrArg some (by kernel_rfl))
  f39 := Tryz.func131.trans (congrArg some (by kernel_rfl))
  t0 := Tryz.underlying0
  a0 := Tryz.isAgg0
  z0 := Tryz.sizeOf0
  v0 := Tryz.zeroValue0
  t3 := Tryz.underlying3
  a3 := Tryz.isAgg3
  z3 := Tryz.sizeOf3
  v3 := Tryz.zeroValue3
  t4 := Tryz.underlying4
  a4 := Tryz.isAgg4
  z4 := Tryz.sizeOf4
  v4 := Tryz.zeroValue4
  t22 := Tryz.underlying26
  a22 := Tryz.isAgg26
  z22 := Tryz.sizeOf26
  v22 := Tryz.zeroValue26
  i3 := by kernel_rfl }

end Go.Proofs

namespace Go.Proofs.YtlcfnbnpkcjjlaaGreat
open Go.RowKit Go.Sort
set_option linter.unusedVariables false
set_option linter.unusedSimpArgs false

abbrev vN (x : Nat) : Value := .int .i64 (x : Int)
/-- A row of numbers that lies at an offset of a block of the call's own. -/
def OwnO (base : Nat) (w : World) (v : Value) (xs : List Nat) : Prop :=
  ∃ (g off c : Nat) (L : Array Value), v = .slice (some ⟨g, off, none⟩) xs.length c ∧ base ≤ g ∧ w.heap[g]? = some (.cells L 3 (0, 0)) ∧ L.size ≠ 0 ∧ xs.length ≤ c ∧ off + c ≤ L.size ∧ c ≤ 9223372036854775807 ∧
    ∀ j u, (xs.map vN)[j]? = some u → w.cell? ⟨g, off + j, none⟩ = some u
theorem OwnO.isSlice {base : Nat} {w : World} {v : Value} {xs : List Nat} (h : OwnO base w v xs) : ∃ g off c, v = .slice (some ⟨g, off, none⟩) xs.length c := by
  obtain ⟨g, off, c, L, e, _⟩ := h
  exact ⟨g, off, c, e⟩
theorem OwnO.cellAt {base : Nat} {w : World} {g off n c : Nat} {xs : List Nat} (h : OwnO base w (.slice (some ⟨g, off, none⟩) n c) xs) (j : Nat) (hj : j < xs.length) : w.cell? ⟨g, off + j, none⟩ = some (.int .i64 ((xs[j] : Nat) : Int)) := by
  obtain ⟨g', off', c', L, e, _, _, _, _, _, _, hc⟩ := h
  simp only [Value.slice.injEq, Option.some.injEq, Addr.mk.injEq] at e
  obtain ⟨⟨rfl, rfl, _⟩, _, _⟩ := e
  exact hc j _ (by simp [hj])
theorem OwnO.lt {base : Nat} {w : World} {v : Value} {xs : List Nat} (h : OwnO base w v xs) (g : Nat) (hg : v.ownBlock = some g) : base ≤ g ∧ g < w.heap.size := by
  obtain ⟨g', off, c, L, rfl, hb, hh, _⟩ := h
  simp only [Value.ownBlock, Option.some.injEq] at hg
  subst hg
  exact ⟨hb, (Array.getElem?_eq_some_iff.1 hh).1⟩
theorem OwnO.kept {base : Nat} {w w' : World} {v : Value} {xs : List Nat} (h : OwnO base w v xs) {row : Option Nat} (hg : w.grownBy w' row) (hne : ∀ g, v.ownBlock = some g → row ≠ some g) : OwnO base w' v xs := by
  obtain ⟨g, off, c, L, rfl, hb, hh, h1, h2, h3, h4, hc⟩ := h
  have hgl : g < w.heap.size := (Array.getElem?_eq_some_iff.1 hh).1
  have hbk := hg.block g hgl (fun e => hne g rfl e.symm)
  exact ⟨g, off, c, L, rfl, hb, hbk.trans hh, h1, h2, h3, h4, fun j u hu => (World.cell?_of_block hbk).trans (hc j u hu)⟩
theorem OwnO.set' {base : Nat} {w : World} {v : Value} {xs : List Nat} (h : OwnO base w v xs) (a : Addr) (u : Value) (hne : v.ownBlock ≠ some a.block) : OwnO base (w.setCell a u) v xs :=
  h.kept (grownBy_set w a u) (fun g hg e => hne (by rw [hg, ← e]))
theorem OwnO.below {base : Nat} {w w' : World} {v : Value} {xs : List Nat} (h : OwnO base w v xs) (hb : Below w.heap.size w w') : OwnO base w' v xs :=
  h.kept (row := none) ⟨hb.os, hb.tape, hb.output, hb.size, fun j hj _ => hb.block j hj⟩ (fun g _ e => by cases e)
/-- A row of the call's own that is not empty. -/
theorem OwnO.ofOwn {base : Nat} {w : World} {v : Value} {xs : List Nat} (h : Own base 3 eNat 1 w v xs) (hx : 0 < xs.length) : OwnO base w v xs := by
  have h0 := h
  rcases h.2 with ⟨rfl, hn⟩ | ⟨g, cap, cur, rfl, hb, hg, hnc, hcm, hcs, htake⟩
  · omega
  · refine ⟨g, 0, cap, cur, rfl, hb, hg, by omega, hnc, by omega, by simpa [maxLen] using hcm, fun j u hu => ?_⟩
    have hj : j < xs.length := by have := (List.getElem?_eq_some_iff.1 hu).1; simpa using this
    have := Own.cellAt (enc := eNat) (k := 1) (fun _ => rfl) h0 j 0 hj Nat.zero_lt_one
    rw [Nat.zero_add]
    rw [List.getElem?_map, List.getElem?_eq_getElem hj] at hu
    simp only [Option.map_some, Option.some.injEq] at hu
    rw [← hu]
    simpa using this
/-- 's[1:]'. -/
theorem OwnO.tail {base : Nat} {w : World} {g off n c x : Nat} {xs : List Nat} (h : OwnO base w (.slice (some ⟨g, off, none⟩) n c) (x :: xs)) :
    ∃ off' c', OwnO base w (.slice (some ⟨g, off', none⟩) xs.length c') xs ∧ ∀ W, (Instr.sliceAt 26 (.slice (some ⟨g, off, none⟩) (x :: xs).length c) (some (.int .i64 1)) none none).run Tryz.prog W = .ok (.slice (some ⟨g, off', none⟩) xs.length c') W := by
  obtain ⟨g', off', c', L, e, hb, hh, h1, h2, h3, h4, hc⟩ := h
  simp only [Value.slice.injEq, Option.some.injEq, Addr.mk.injEq] at e
  obtain ⟨⟨rfl, rfl, _⟩, rfl, rfl⟩ := e
  simp only [List.length_cons] at h2 ⊢
  have hel : Tryz.prog.elem 26 = 3 := by kernel_rfl
  have ht : Tryz.prog.underlying 26 = some (.slice (Tryz.prog.elem 26)) := by rw [hel]; exact undInts
  have hsz : ∀ W, (sizeOf (Tryz.prog.elem 26)).run Tryz.prog W = .ok 1 W := by rw [hel]; exact Tryz.sizeOf3
  have hrun : ∀ W, (Instr.sliceAt 26 (.slice (some ⟨g, off, none⟩) (xs.length + 1) c) (some (.int .i64 1)) none none).run Tryz.prog W = .ok (sliced (some ⟨g, off, none⟩) 1 (xs.length + 1) c 1) W := fun W => by
    rw [run_sliceAt_slice _ _ _ _ _ _ ht, run_slice_l W 26 _ _ _ ht .i64 1 (by omega) (by omega), hsz]
    rfl
  by_cases hc1 : c = 1
  · refine ⟨off, 0, ⟨g, off, 0, L, rfl, hb, hh, h1, by omega, by omega, by omega, fun j u hu => ?_⟩, fun W => ?_⟩
    · have hj : j < xs.length := by have := (List.getElem?_eq_some_iff.1 hu).1; simpa using this
      omega
    · rw [hrun W]
      simp [sliced, hc1]
  · refine ⟨off + 1, c - 1, ⟨g, off + 1, c - 1, L, rfl, hb, hh, h1, by omega, by omega, by omega, fun j u hu => ?_⟩, fun W => ?_⟩
    · rw [show off + 1 + j = off + (j + 1) by omega]
      exact hc (j + 1) u (by simpa using hu)
    · rw [hrun W]
      have e1 : (⟨g, off, none⟩ : Addr).add 1 = ⟨g, off + 1, none⟩ := Addr.add_lit ..
      simp [sliced, hc1, e1]

structure StepO (base : Nat) (w w' : World) (old new : Value) (ys : List Nat) : Prop where
  own : OwnO base w' new ys
  grown : w.grownBy w' old.ownBlock
  place : ∀ g, new.ownBlock = some g → old.ownBlock = some g ∨ w.heap.size ≤ g

theorem grownBy_setCells (b : Nat) : ∀ (vs : List Value) (o : Nat) (w : World), w.grownBy (w.setCells b o vs) (some b)
  | [], _, _ => World.grownBy.refl _ _
  | v :: r, o, w => by
    rw [World.setCells]
    exact (grownBy_set w ⟨b, o, none⟩ v).trans (grownBy_setCells b r (o + 1) _)
theorem block_setCells (b : Nat) (e : TypeId) : ∀ (vs : List Value) (o : Nat) (w : World) (L : Array Value), w.heap[b]? = some (.cells L e (0, 0)) → ∃ L', (w.setCells b o vs).heap[b]? = some (.cells L' e (0, 0)) ∧ L'.size = L.size
  | [], _, _, L, h => ⟨L, h, rfl⟩
  | v :: r, o, w, L, h => by
    rw [World.setCells]
    obtain ⟨L', h1, h2⟩ := block_setCells b e r (o + 1) (w.setCell ⟨b, o, none⟩ v) (L.setIfInBounds o v) (by
      simp [World.setCell, Array.getElem?_modify, h])
    exact ⟨L', h1, by rw [h2]; simp⟩
theorem ins_get {α : Type} (cs : List α) (y : α) (i j : Nat) (hi : i ≤ cs.length) : (cs.take i ++ y :: cs.drop i)[j]? = if j < i then cs[j]? else if j = i then some y else cs[j - 1]? := by
  have hl : (cs.take i).length = i := by simp; omega
  by_cases h1 : j < i
  · rw [if_pos h1, List.getElem?_append_left (by omega), List.getElem?_take_of_lt h1]
  · rw [if_neg h1, List.getElem?_append_right (by omega), hl]
    by_cases h2 : j = i
    · subst h2; simp
    · rw [if_neg h2]
      obtain ⟨k, hk⟩ : ∃ k, j - i = k + 1 := ⟨j - i - 1, by omega⟩
      rw [hk, List.getElem?_cons_succ, List.getElem?_drop]
      congr 1; omega
theorem shift_cells (W : World) (b o i : Nat) (cs : List Value) (y : Value) (hi : i ≤ cs.length) (hs : ∀ j, j < cs.length + 1 → (W.cell? ⟨b, o + j, none⟩).isSome = true) (h : ∀ j v, j < i → cs[j]? = some v → W.cell? ⟨b, o + j, none⟩ = some v) :
    ∀ j v, (cs.take i ++ y :: cs.drop i)[j]? = some v → ((W.setCells b (o + (i + 1)) (cs.drop i)).setCells b (o + i) [y]).cell? ⟨b, o + j, none⟩ = some v := by
  intro j v hv
  rw [ins_get cs y i j hi] at hv
  have hS : ∀ k, k < (cs.drop i).length → (W.cell? ⟨b, o + (i + 1) + k, none⟩).isSome = true := fun k hk => by
    have := hs (i + 1 + k) (by simp at hk; omega)
    rw [show o + (i + 1) + k = o + (i + 1 + k) by omega]; exact this
  by_cases h1 : j < i
  · rw [if_pos h1] at hv
    rw [World.cell?_setCells_out b _ _ _ _ (fun _ _ => .inl (by show o + j < o + i; omega)), World.cell?_setCells_out b _ _ _ _ (fun _ _ => .inl (by show o + j < o + (i + 1); omega))]
    exact h j v h1 hv
  · rw [if_neg h1] at hv
    by_cases h2 : j = i
    · subst h2
      rw [if_pos rfl] at hv
      injection hv with hv; subst hv
      have := World.cell?_setCells_in b [y] (o + j) (W.setCells b (o + (j + 1)) (cs.drop j)) (fun k hk => by
        have hk0 : k = 0 := by simpa using hk
        subst hk0
        rw [World.cell?_setCells_out b _ _ _ _ (fun _ _ => .inl (by show o + j + 0 < _; omega))]
        exact hs j (by omega)) 0 (by simp)
      simpa using this
    · rw [if_neg h2] at hv
      have hjl := (List.getElem?_eq_some_iff.1 hv).1
      rw [World.cell?_setCells_out b _ _ _ _ (fun _ _ => .inr (by show o + i + 1 ≤ o + j; omega))]
      have := World.cell?_setCells_in b (cs.drop i) (o + (i + 1)) W hS (j - 1 - i) (by simp; omega)
      rw [show o + (i + 1) + (j - 1 - i) = o + j by omega] at this
      rw [this, ← hv, List.getElem_drop, ← List.getElem?_eq_getElem (by omega)]
      congr 1; omega
theorem grow_cells (W W2 : World) (b o i : Nat) (cs : List Value) (y : Value) (hi : i ≤ cs.length) (hs : ∀ j, j < cs.length + 1 → (W.cell? ⟨b, o + j, none⟩).isSome = true) (h : ∀ j v, j < i → cs[j]? = some v → W.cell? ⟨b, o + j, none⟩ = some v)
    (hW2 : ∀ p, W2.cell? p = (W.setCells b (o + i) [y]).cell? p) :
    ∀ j v, (cs.take i ++ y :: cs.drop i)[j]? = some v → (W2.setCells b (o + (i + 1)) (cs.drop i)).cell? ⟨b, o + j, none⟩ = some v := by
  intro j v hv
  rw [ins_get cs y i j hi] at hv
  have hS : ∀ k, k < (cs.drop i).length → (W2.cell? ⟨b, o + (i + 1) + k, none⟩).isSome = true := fun k hk => by
    have := hs (i + 1 + k) (by simp at hk; omega)
    rw [hW2, World.cell?_setCells_out b _ _ _ _ (fun _ _ => .inr (by show o + i + 1 ≤ o + (i + 1) + k; omega)), show o + (i + 1) + k = o + (i + 1 + k) by omega]; exact this
  by_cases h1 : j < i
  · rw [if_pos h1] at hv
    rw [World.cell?_setCells_out b _ _ _ _ (fun _ _ => .inl (by show o + j < o + (i + 1); omega)), hW2, World.cell?_setCells_out b _ _ _ _ (fun _ _ => .inl (by show o + j < o + i; omega))]
    exact h j v h1 hv
  · rw [if_neg h1] at hv
    by_cases h2 : j = i
    · subst h2
      rw [if_pos rfl] at hv
      injection hv with hv; subst hv
      rw [World.cell?_setCells_out b _ _ _ _ (fun _ _ => .inl (by show o + j < o + (j + 1); omega)), hW2]
      have := World.cell?_setCells_in b [y] (o + j) W (fun k hk => by
        have hk0 : k = 0 := by simpa using hk
        subst hk0
        exact hs j (by omega)) 0 (by simp)
      simpa using this
    · rw [if_neg h2] at hv
      have hjl := (List.getElem?_eq_some_iff.1 hv).1
      have := World.cell?_setCells_in b (cs.drop i) (o + (i + 1)) W2 hS (j - 1 - i) (by simp; omega)
      rw [show o + (i + 1) + (j - 1 - i) = o + j by omega] at this
      rw [this, ← hv, List.getElem_drop, ← List.getElem?_eq_getElem (by omega)]
      congr 1; omega
theorem map_ins (xs : List Nat) (i y : Nat) : (xs.take i ++ y :: xs.drop i).map vN = (xs.map vN).take i ++ vN y :: (xs.map vN).drop i := by
  rw [List.map_append, List.map_cons, List.map_take, List.map_drop]
theorem len_ins (xs : List Nat) (i y : Nat) (hi : i ≤ xs.length) : (xs.take i ++ y :: xs.drop i).length = xs.length + 1 := by
  simp; omega
theorem blk_cell {w : World} {g : Nat} {L : Array Value} {T : TypeId} (hg : w.heap[g]? = some (.cells L T (0, 0))) (j : Nat) : w.cell? ⟨g, j, none⟩ = L[j]? := by
  simp [World.cell?, hg]
theorem one_vN (xs : List Nat) : ∀ u ∈ xs.map vN, u.oneCell' = true := by
  intro u hu
  obtain ⟨x, _, rfl⟩ := List.mem_map.1 hu
  rfl

theorem insO_any (xs : List Nat) (i y vb vc : Nat) (v : Value) (base : Nat) (w : World) (hown : OwnO base w v xs) (hi : i ≤ xs.length) (hl : xs.length ≤ 1000000) (hv : w.heap[vb]? = some (.cells #[.int .i64 (y : Int)] 3 (0, 0))) (hvb : v.ownBlock ≠ some vb) (hbw : base ≤ w.heap.size) :
    Calls Tryz.prog 93 #[v, .int .i64 (i : Int), .slice (some ⟨vb, 0, none⟩) 1 vc] w fun e w' => ∃ v', e = .returned v' ∧ StepO base w w' v v' (xs.take i ++ y :: xs.drop i) := by
  obtain ⟨g, off, c, L, rfl, hb, hh, h1, h2, h3, h4, hc⟩ := hown
  have hgl : g < w.heap.size := (Array.getElem?_eq_some_iff.1 hh).1
  have hne : vb ≠ g := fun e => hvb (by simp [Value.ownBlock, e])
  have hcl : (xs.map vN).length = xs.length := by simp
  have hvs : ∀ j u, ([vN y] : List Value)[j]? = some u → w.cell? ⟨vb, 0 + j, none⟩ = some u := by
    intro j u hu
    rw [blk_cell hv, Nat.zero_add]
    simpa using hu
  have h1v : ∀ u ∈ ([vN y] : List Value), u.oneCell' = true := by
    intro u hu
    rw [List.mem_singleton] at hu; subst hu; rfl
  have hsome : ∀ j, j < c → (w.cell? ⟨g, off + j, none⟩).isSome = true := fun j hj => by
    rw [blk_cell hh, Array.getElem?_eq_getElem (by omega)]; rfl
  have hfz : ∀ j, w.frozen? ⟨g, j, none⟩ = false := fun j => by simp [World.frozen?, hh]
  by_cases hin : i = xs.length
  · subst hin
    by_cases hr : xs.length + 1 ≤ c
    · have h := Any2.slices_Insert_int_end_room Tryz.laysIns g off xs.length c vb 0 1 vc [vN y] w (by omega) hr h4 rfl (fun j hj => by
        rw [show off + xs.length + j = off + (xs.length + j) by omega]; exact hsome _ (by omega)) (fun j _ => hfz _) hvs h1v
      refine Calls.mono (show Calls Tryz.prog 93 _ _ _ from h) ?_
      rintro e w' ⟨rfl, rfl⟩
      obtain ⟨L', q1, q2⟩ := block_setCells g 3 [vN y] (off + xs.length) w L hh
      refine ⟨_, rfl, ⟨g, off, c, L', by rw [len_ins xs _ y (Nat.le_refl _)], hb, q1, by omega, by rw [len_ins xs _ y (Nat.le_refl _)]; omega, by omega, h4, fun j u hu => ?_⟩, grownBy_setCells g _ _ _, fun g' hg' => .inl hg'⟩
      rw [map_ins] at hu
      have := shift_cells w g off xs.length (xs.map vN) (vN y) (by omega) (fun j hj => hsome j (by omega)) (fun j v _ hv => hc j v hv) j u hu
      rw [List.drop_of_length_le (by omega)] at this
      exact this
    · have h := Any2.slices_Insert_int_end_grow Tryz.laysIns (some ⟨g, off, none⟩) xs.length c vb 0 1 vc (xs.map vN) [vN y] w (by omega) h2 (by omega) (by omega) hcl rfl (fun e => by cases e) (fun a ha j u hu => by
        simp only [Option.some.injEq] at ha; subst ha; rw [Addr.add_lit]; exact hc j u hu) hvs h1v
      simp only [show Tryz.laysIns_ren.t 3 = 3 from rfl] at h
      refine Calls.mono (show Calls Tryz.prog 93 _ _ _ from h) ?_
      have hge := grownCap_ge w (xs.length + 1) c 3
      have hcm : grownCap w (xs.length + 1) c 3 ≤ maxLen := grownCap_le_maxLen w (xs.length + 1) c 3 (by simp only [maxLen]; omega)
      rintro e w' ⟨rfl, rfl⟩
      refine ⟨_, rfl, ⟨w.heap.size, 0, _, _, by rw [len_ins xs _ y (Nat.le_refl _)], hbw, heap_alloc_new w.drew _, ?_, by rw [len_ins xs _ y (Nat.le_refl _)]; exact hge, ?_, by simpa [maxLen] using hcm, fun j u hu => ?_⟩, ⟨rfl, rfl, rfl, by simp, fun k hk _ => heap_alloc_old w.drew _ hk⟩, fun g' hg' => .inr (by simp only [Value.ownBlock, Option.some.injEq] at hg'; omega)⟩
      · simp
      · simp only [Array.size_append, List.size_toArray, size_zeroCells, List.length_append, List.length_map, List.length_cons, List.length_nil, Value.cells]
        simp; omega
      · rw [blk_cell (g := w.heap.size) (heap_alloc_new w.drew _), Nat.zero_add]
        rw [map_ins, List.take_of_length_le (by omega), List.drop_of_length_le (by omega)] at hu
        have hj := (List.getElem?_eq_some_iff.1 hu).1
        rw [Array.getElem?_append_left (by simpa using hj)]
        simpa using hu
  · have hsb : w.shape? g = some (3, L.size) := by simp [World.shape?, hh]
    have hsa : w.shape? vb = some (3, 1) := by simp [World.shape?, hv]
    by_cases hr : xs.length + 1 ≤ c
    · have h := Any2.slices_Insert_int_shift Tryz.laysIns g off xs.length c i vb 0 1 vc (xs.map vN) [vN y] w (by omega) (by omega) hr h4 hne hcl rfl hc (fun j hj => hsome j (by omega)) (fun j _ => hfz _) hvs (one_vN xs) h1v 3 3 1 L.size hsa hsb h1 (by simp [World.frozen?, hv]) (by simp [World.frozen?, hv])
      refine Calls.mono (show Calls Tryz.prog 93 _ _ _ from h) ?_
      rintro e w' ⟨rfl, rfl⟩
      obtain ⟨L1, q1, q2⟩ := block_setCells g 3 ((xs.map vN).drop i) (off + (i + 1)) w.drew L hh
      obtain ⟨L2, q3, q4⟩ := block_setCells g 3 [vN y] (off + i) _ L1 q1
      refine ⟨_, rfl, ⟨g, off, c, L2, by rw [len_ins xs _ y hi], hb, q3, by omega, by rw [len_ins xs _ y hi]; omega, by omega, h4, fun j u hu => ?_⟩, ?_, fun g' hg' => .inl hg'⟩
      · rw [map_ins] at hu
        exact shift_cells w.drew g off i (xs.map vN) (vN y) (by omega) (fun j hj => hsome j (by omega)) (fun j v _ hv => hc j v hv) j u hu
      · have a0 : w.grownBy w.drew (some g) := ⟨rfl, rfl, rfl, Nat.le_refl _, fun _ _ _ => rfl⟩
        exact (a0.trans (grownBy_setCells g _ _ _)).trans (grownBy_setCells g _ _ _)
    · have h := Any2.slices_Insert_int_grow Tryz.laysIns g off xs.length c i vb 0 1 vc (xs.map vN) [vN y] w (by omega) (by omega) h2 (by omega) (by omega) hcl rfl hc hvs (one_vN xs) h1v
      simp only [show Tryz.laysIns_ren.t 3 = 3 from rfl] at h
      refine Calls.mono (show Calls Tryz.prog 93 _ _ _ from h) ?_
      have hge := grownCap_ge w (xs.length + 1) c 3
      have hcm : grownCap w (xs.length + 1) c 3 ≤ maxLen := grownCap_le_maxLen w (xs.length + 1) c 3 (by simp only [maxLen]; omega)
      rintro e w' ⟨rfl, rfl⟩
      obtain ⟨ROW, hROW⟩ : ∃ ROW : Array Value, ROW = ((xs.map vN).take i).toArray ++ Builtin.zeroCells (Value.int .i64 0).cells (xs.length + 1 - i) ++ Builtin.zeroCells (Value.int .i64 0).cells (grownCap w (xs.length + 1) c 3 - (xs.length + 1)) := ⟨_, rfl⟩
      have hRs : ROW.size = grownCap w (xs.length + 1) c 3 := by
        rw [hROW]
        simp only [Array.size_append, List.size_toArray, size_zeroCells, List.length_take, List.length_map, Value.cells]
        simp; omega
      have hR0 : ∀ j u, j < i → (xs.map vN)[j]? = some u → ROW[j]? = some u := by
        intro j u hj hu
        rw [hROW, Array.append_assoc, Array.getElem?_append_left (by simp; omega)]
        simp only [List.getElem?_toArray]
        rw [List.getElem?_take_of_lt hj]; exact hu
      have hnew := heap_alloc_new w (.cells ROW 3)
      have hnew' : (w.alloc (.cells ROW 3)).drew.heap[w.heap.size]? = some (.cells ROW 3 (0, 0)) := hnew
      obtain ⟨L1, q1, q2⟩ := block_setCells w.heap.size 3 [vN y] i (w.alloc (.cells ROW 3)).drew ROW hnew'
      obtain ⟨L2, q3, q4⟩ := block_setCells w.heap.size 3 ((xs.map vN).drop i) (i + 1) ((w.alloc (.cells ROW 3)).drew.setCells w.heap.size i [vN y]).drew L1 q1
      have hcells : ∀ j u, ((xs.map vN).take i ++ vN y :: (xs.map vN).drop i)[j]? = some u → ((((w.alloc (.cells ROW 3)).drew.setCells w.heap.size i [vN y]).drew).setCells w.heap.size (i + 1) ((xs.map vN).drop i)).cell? ⟨w.heap.size, 0 + j, none⟩ = some u := by
        intro j u hu
        have := grow_cells (w.alloc (.cells ROW 3)).drew ((w.alloc (.cells ROW 3)).drew.setCells w.heap.size i [vN y]).drew w.heap.size 0 i (xs.map vN) (vN y) (by omega) (fun j hj => by
          rw [blk_cell hnew', Nat.zero_add, Array.getElem?_eq_getElem (by omega)]; rfl) (fun j v hj hv => by
          rw [blk_cell hnew', Nat.zero_add]; exact hR0 j v hj hv) (fun p => by rw [Nat.zero_add]; rfl) j u hu
        rw [Nat.zero_add (i + 1)] at this
        exact this
      have hgr : w.grownBy ((((w.alloc (.cells ROW 3)).drew.setCells w.heap.size i [vN y]).drew).setCells w.heap.size (i + 1) ((xs.map vN).drop i)) (Value.slice (some ⟨g, off, none⟩) xs.length c).ownBlock := by
        have a1 := grownBy_setCells w.heap.size [vN y] i (w.alloc (.cells ROW 3)).drew
        have a2 := grownBy_setCells w.heap.size ((xs.map vN).drop i) (i + 1) ((w.alloc (.cells ROW 3)).drew.setCells w.heap.size i [vN y]).drew
        have hsz : (w.alloc (.cells ROW 3)).drew.heap.size = w.heap.size + 1 := by simp
        refine ⟨a2.os.trans a1.os, a2.tape.trans a1.tape, a2.output.trans a1.output, ?_, fun k hk _ => ?_⟩
        · have b1 := a1.size; have b2 := a2.size
          have b3 : ((w.alloc (.cells ROW 3)).drew.setCells w.heap.size i [vN y]).drew.heap.size = ((w.alloc (.cells ROW 3)).drew.setCells w.heap.size i [vN y]).heap.size := rfl
          omega
        · have b1 := a1.size
          have b3 : ((w.alloc (.cells ROW 3)).drew.setCells w.heap.size i [vN y]).drew.heap.size = ((w.alloc (.cells ROW 3)).drew.setCells w.heap.size i [vN y]).heap.size := rfl
          refine (a2.block k (by omega) (by simp; omega)).trans ((a1.block k (by omega) (by simp; omega)).trans ?_)
          exact heap_alloc_old w _ hk
      rw [← hROW]
      refine ⟨_, rfl, ⟨w.heap.size, 0, _, L2, by rw [len_ins xs _ y hi], hbw, q3, by omega, by rw [len_ins xs _ y hi]; exact hge, by omega, by simpa [maxLen] using hcm, fun j u hu => ?_⟩, hgr, fun g' hg' => .inr (by simp only [Value.ownBlock, Option.some.injEq] at hg'; omega)⟩
      rw [map_ins] at hu
      exact hcells j u hu

theorem count_nzs (xs : List Nat) (k : Nat) : (nzs xs).countP (fun z => decide (z < (k : Int))) = xs.countP (fun x => decide (x < k)) := by
  unfold nzs
  rw [List.countP_map]
  refine List.countP_congr (fun x _ => ?_)
  simp
theorem searchO_any (xs : List Nat) (k : Nat) (v : Value) (base : Nat) (w : World) (hown : OwnO base w v xs) (ha : xs.Pairwise (· < ·)) (hl : xs.length ≤ 1000000) :
    Calls Tryz.prog 92 #[v, .int .i64 (k : Int)] w fun e w' => (∃ b, e = .returned (.tuple #[.int .i64 ((xs.countP (fun x => decide (x < k)) : Nat) : Int), .bool b])) ∧ Below w.heap.size w w' := by
  obtain ⟨g, off, c, L, rfl, hb, hh, h1, h2, h3, h4, hc⟩ := hown
  have h := Any.slices_BinarySearch_int Tryz.laysSearch g off xs.length c (nzs xs) (k : Int) w (by rw [ints_len]; exact Nat.le_refl _) (by omega) (fun j hj => by
    have hj' : j < xs.length := by rw [ints_len] at hj; exact hj
    refine hc j _ ?_
    simp [nzs, List.getD, hj']) (by
    rw [List.take_of_length_le (by rw [ints_len]; exact Nat.le_refl _)]
    exact (asc_ints.2 ha).imp (fun q => by omega))
  refine Calls.mono (show Calls Tryz.prog 92 _ _ _ from h) ?_
  rintro e w' ⟨rfl, q, rfl⟩
  rw [List.take_of_length_le (by rw [ints_len]; exact Nat.le_refl _), count_nzs]
  exact ⟨⟨_, rfl⟩, below_drewN (Below.refl _ _) _⟩

end Go.Proofs.YtlcfnbnpkcjjlaaGreat
