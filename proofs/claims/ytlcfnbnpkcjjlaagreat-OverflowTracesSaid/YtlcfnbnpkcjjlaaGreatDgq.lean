/- Orders and depths: digraph.Order, digraph.Depths. Conditions: the edges read as data. -/
import Derived.Test.YtlcfnbnpkcjjlaaGreatDgr
import Derived.Test.YtlcfnbnpkcjjlaaGreatDgv
import Derived.Test.YtlcfnbnpkcjjlaaGreatMGp
namespace Go.Proofs.YtlcfnbnpkcjjlaaGreat
open Go.RowKit
set_option linter.unusedVariables false
set_option linter.unusedSimpArgs false

theorem validB_ok {n : Nat} {E : List (Nat × Nat)} (hv : Gp.vtx n E) (hn : n ≤ 300) (hl : E.length ≤ 1000) : validB (n : Int) (edI E) = true := by
  unfold validB
  simp only [Bool.and_eq_true, decide_eq_true_eq, List.all_eq_true, edI_len]
  refine ⟨by omega, by omega, hl, fun e he => ?_⟩
  obtain ⟨x, hx, rfl⟩ := List.mem_map.1 he
  have := hv x hx
  simp [okE, isB]; omega
theorem validB_nat {n : Int} {E : List (Int × Int)} (h : validB n E = true) : ∃ (N : Nat) (G : List (Nat × Nat)), n = (N : Int) ∧ E = edI G ∧ Gp.vtx N G ∧ N ≤ 300 ∧ G.length ≤ 1000 := by
  unfold validB at h
  simp only [Bool.and_eq_true, decide_eq_true_eq, List.all_eq_true] at h
  obtain ⟨h1, h2, h3, h4⟩ := h
  refine ⟨n.toNat, E.map fun e => (e.1.toNat, e.2.toNat), by omega, ?_, ?_, by omega, by simpa using h3⟩
  · unfold edI
    rw [List.map_map]
    refine ((List.map_congr_left (fun e he => ?_)).trans (List.map_id _)).symm
    have := h4 e he
    simp only [okE, isB, Bool.and_eq_true, decide_eq_true_eq] at this
    simp only [Function.comp_apply, id_eq]
    obtain ⟨x, y⟩ := e
    simp only at this ⊢
    rw [Int.toNat_of_nonneg (by omega), Int.toNat_of_nonneg (by omega)]
  · intro e he
    obtain ⟨x, hx, rfl⟩ := List.mem_map.1 he
    have := h4 x hx
    simp only [okE, isB, Bool.and_eq_true, decide_eq_true_eq] at this
    simp only
    omega

set_option maxRecDepth 100000 in
set_option maxHeartbeats 2000000 in
theorem order_bad (n : Int) (E : List (Int × Int)) (v : Value) (w : World) (hE : IsEis w v E) (hbad : validB n E = false) :
    Calls Tryz.prog 39 #[.int .i64 n, v] w fun e w' => e = .returned (.tuple #[.slice none 0 0, .int .i64 1]) ∧ Below w.heap.size w w' := by
  have hc := valid_any n E v w hE
  rw [hbad] at hc
  go_enter Tryz.func39, Tryz.ntmps39
  go_wp2_with fail
  refine Calls.to hc ?_
  rintro e w1 rfl hb
  go_wp2_with fail
  go_ret2
  exact ⟨rfl, hb⟩

set_option maxRecDepth 100000 in
set_option maxHeartbeats 2000000 in
theorem order_ok (n : Nat) (E : List (Nat × Nat)) (v : Value) (w : World) (hE : IsEds w v E) (hv : Gp.vtx n E) (hn : n ≤ 300) (hl : E.length ≤ 1000) :
    Calls Tryz.prog 39 #[.int .i64 n, v] w fun e w' => (∃ u c, e = .returned (.tuple #[u, .int .i64 c]) ∧ (((Gp.ordL n E).length = n ∧ c = 0 ∧ Own w.heap.size 3 eNat 1 w' u (Gp.ordL n E)) ∨ ((Gp.ordL n E).length < n ∧ c = 22 ∧ u = .slice none 0 0))) ∧ Below w.heap.size w w' := by
  have hc := valid_any n (edI E) v w (isL_edI.2 hE)
  rw [validB_ok hv hn hl] at hc
  go_enter Tryz.func39, Tryz.ntmps39
  go_wp2_with fail
  refine Calls.to hc ?_
  rintro e w1 rfl hb
  go_wp2_with fail
  refine Calls.to (order0_any n E v w1 (hE.mono hb) hv (by omega) (by omega)) ?_
  rintro e w2 ⟨u, rfl, hO⟩ hb2
  have hOb := hO.base hb.size
  have hbb := hb.trans (hb2.mono hb.size)
  obtain ⟨ua, uc, rfl⟩ := hO.isSlice
  have hle := (Gp.ordL_inv n E).len
  obtain ⟨L, hLe⟩ : ∃ L, L = Gp.ordL n E := ⟨_, rfl⟩
  rw [← hLe] at hO hOb hle ⊢
  have HLe := Lib.hid hLe
  clear hLe
  by_cases h : L.length = n
  · have h1 : decide (L.length < n) = false := decide_eq_false (by omega)
    have h2 : decide ((L.length : Int) < n) = false := decide_eq_false (by omega)
    have HH := Lib.hid h
    clear h
    go_wp2_with fail
    go_ret2
    rw [← HLe.out]
    exact ⟨⟨_, _, rfl, .inl ⟨HH.out, rfl, hOb⟩⟩, hbb⟩
  · have h1 : decide (L.length < n) = true := decide_eq_true (by omega)
    have h2 : decide ((L.length : Int) < n) = true := decide_eq_true (by omega)
    go_wp2_with fail
    go_ret2
    rw [← HLe.out]
    exact ⟨⟨_, _, rfl, .inr ⟨by omega, rfl, rfl⟩⟩, hbb⟩

/-- 'make([]int, n)', known by its run: where it may come at any step of a region. -/
theorem make_ints (n : Nat) (hn : n < 2147483648) : ∃ MC : Array Value, (∀ W, (Instr.makeSlice 26 (.int .i64 (n : Int)) (.int .i64 (n : Int))).run Tryz.prog W = .ok (.slice (some ⟨W.heap.size, 0, none⟩) n n) (W.alloc (.cells MC 3))) ∧
    ∀ (W : World) (base : Nat), base ≤ W.heap.size → Own base 3 eInt 1 (W.alloc (.cells MC 3)) (.slice (some ⟨W.heap.size, 0, none⟩) n n) (List.replicate n 0) := by
  obtain ⟨i, hi, hi0, hi1, hi2⟩ := info_parts infInt
  have hb' : (i.bytes : Int) * (n : Int) ≤ 281474976710656 := by rw [hi2]; omega
  refine ⟨madeCells (Value.int .i64 0).cells (n * i.size), fun W => ?_, fun W base hbase => ?_⟩
  · have hr := run_make (P := Tryz.prog) W 26 3 i (.int .i64 0) undInts hi hi0 .i64 .i64 n n (by omega) (Int.le_refl _) hb' (by omega)
    simp only [Int.toNat_natCast] at hr
    exact hr
  · have r1 := World.ownsRow_lit (base := base) (e := 3) (size := i.size) W (madeCells (Value.int .i64 0).cells (n * i.size)) n hbase (by simp only [maxLen]; omega) (size_madeCells _ _)
    rw [hi1, Nat.mul_one] at r1
    rw [hi1, Nat.mul_one]
    have hflat : (List.replicate n (0 : Int)).flatMap eInt = List.replicate n (Value.int .i64 0) := by
      clear r1 hb' hn
      induction n with
      | zero => rfl
      | succ n ih => simp only [List.replicate_succ, List.flatMap_cons, ih]; rfl
    have hm : (madeCells (Value.int .i64 0).cells n).toList = List.replicate n (Value.int .i64 0) := toList_madeCells_one _ _
    unfold Own
    rw [hflat, List.length_replicate, ← hm]
    exact r1

theorem OwnR.kept {α : Type} {base : Nat} {et e : TypeId} {enc : α → List Value} {k : Nat} {w w' : World} {v : Value} {vs : List Value} {xss : List (List α)} (h : OwnR base et e enc k w v vs xss) {OB : Nat} (hg : w.grownBy w' (some OB))
    (h1 : v.ownBlock ≠ some OB) (h2 : ∀ (i : Nat) (hi : i < vs.length), vs[i].ownBlock ≠ some OB) : OwnR base et e enc k w' v vs xss :=
  ⟨Own.kept h.out hg (fun g hg' e => h1 (by rw [hg', e])), h.len, fun i h3 h4 => Own.kept (h.row i h3 h4) hg (fun g hg' e => h2 i h3 (by rw [hg', e])), h.apart, h.off⟩
theorem grownBy_drew (w : World) (r : Option Nat) : w.grownBy w.drew r := ⟨rfl, rfl, rfl, Nat.le_refl _, fun _ _ _ => rfl⟩
theorem grownBy_alloc' (w : World) (o : Obj) (r : Option Nat) : w.grownBy (w.alloc o) r := ⟨rfl, rfl, rfl, by simp, fun j hj _ => heap_alloc_old w _ hj⟩
theorem below_grown {w w1 w2 : World} {B OB : Nat} (h : Below B w w1) (hg : w1.grownBy w2 (some OB)) (hB : B ≤ w1.heap.size) (hO : B ≤ OB) : Below B w w2 :=
  h.grown hg hB (fun k hk => by injection hk with hk; omega)

/-- What stands ahead of the loops: the rows, and the lengths in a block of their own. -/
structure DepZ (n : Nat) (E : List (Nat × Nat)) (w1 : World) (OB : Nat) (wz : World) (u5 : Value) (vs : List Value) : Prop where
  bel : Below w1.heap.size w1 wz
  ob : w1.heap.size ≤ OB
  out : Own w1.heap.size 3 eInt 1 wz (.slice (some ⟨OB, 0, none⟩) n n) (List.replicate n 0)
  rows : OwnR w1.heap.size 26 3 eNat 1 wz u5 vs ((List.range n).map (Gp.nxt n E))
  off : u5.ownBlock ≠ some OB
  offs : ∀ (i : Nat) (hi : i < vs.length), vs[i].ownBlock ≠ some OB

end Go.Proofs.YtlcfnbnpkcjjlaaGreat
