/- Lists of nodes, of edges and of marks in memory; sorting and compacting, in plain words. No function of the program is named. Conditions: none. -/
import Derived.Test.YtlcfnbnpkcjjlaaGreatRows
import Derived.Test.YtlcfnbnpkcjjlaaGreatSta
import Derived.Test.YtlcfnbnpkcjjlaaGreatOv5
import Derived.Test.YtlcfnbnpkcjjlaaGreatMGp
import Derived.Test.YtlcfnbnpkcjjlaaGreatOrw
import Derived.Lib.SlicesCompact
import Derived.BigRegion
import Derived.Deep.RegionHeld3
import Derived.Deep.DeepMust
import Derived.Deep.QuietTactic
import Derived.BigQuiet
import Derived.Lib.Hide
namespace Go.Proofs.YtlcfnbnpkcjjlaaGreat
open Go.RowKit
set_option linter.unusedVariables false
set_option linter.unusedSimpArgs false

abbrev eNat (x : Nat) : List Value := [.int .i64 (x : Int)]
abbrev eEd (e : Nat × Nat) : List Value := [.int .i64 (e.1 : Int), .int .i64 (e.2 : Int)]
abbrev vEd (e : Nat × Nat) : Value := .agg #[.int .i64 (e.1 : Int), .int .i64 (e.2 : Int)]
abbrev eEi (e : Int × Int) : List Value := [.int .i64 e.1, .int .i64 e.2]
abbrev vEi (e : Int × Int) : Value := .agg #[.int .i64 e.1, .int .i64 e.2]
theorem eEd_len (e : Nat × Nat) : (eEd e).length = 2 := rfl
theorem eEi_len (e : Int × Int) : (eEi e).length = 2 := rfl

theorem undBools : Tryz.prog.underlying 27 = some (.slice 4) := by kernel_rfl
theorem infBool : (Tryz.prog.info? 4).map (fun i => (i.zero, i.size, i.bytes)) = some (some (.bool false), 1, 1) := by kernel_rfl
theorem undEds : Tryz.prog.underlying 67 = some (.slice 73) := by kernel_rfl
theorem infEd : (Tryz.prog.info? 73).map (fun i => (i.zero, i.size, i.bytes)) = some (some (.agg #[.int .i64 0, .int .i64 0]), 2, 16) := by kernel_rfl
theorem undRows : Tryz.prog.underlying 112 = some (.slice 26) := by kernel_rfl
theorem infRow : (Tryz.prog.info? 26).map (fun i => (i.zero, i.size, i.bytes)) = some (some (.slice none 0 0), 1, 24) := by kernel_rfl

theorem alloc_below (w : World) (o : Obj) : Below w.heap.size w (w.alloc o) := (Below.refl _ _).alloc (Nat.le_refl _) _
theorem cell_lt {w w' : World} {B j : Nat} {v : Value} (h : w.cell? ⟨B, j, none⟩ = some v) (hb : Below w.heap.size w w') : w'.cell? ⟨B, j, none⟩ = some v :=
  (hb.cell (p := ⟨B, j, none⟩) (lt_of_isSome (a := ⟨B, j, none⟩) (by rw [h]; rfl))).trans h
theorem heap_new2 (w : World) (o1 o2 : Obj) : ((w.alloc o1).alloc o2).drew.heap[w.heap.size + 1]? = some o2 := by
  have h := heap_alloc_new (w.alloc o1) o2
  rw [show (w.alloc o1).heap.size = w.heap.size + 1 from by simp] at h
  exact h
abbrev IsNats (w : World) (v : Value) (xs : List Nat) : Prop := IsL eNat 1 w v xs
abbrev IsEds (w : World) (v : Value) (xs : List (Nat × Nat)) : Prop := IsL eEd 2 w v xs
abbrev IsEis (w : World) (v : Value) (xs : List (Int × Int)) : Prop := IsL eEi 2 w v xs
abbrev IsBools (w : World) (v : Value) (xs : List Bool) : Prop := IsL eBool 1 w v xs

theorem IsC.nat {w : World} {a : Option Addr} {xs : List Nat} (h : IsC eNat 1 w a xs) (i : Nat) (hi : i < xs.length) :
    ∃ b off, a = some ⟨b, off, none⟩ ∧ w.cell? ⟨b, off + i, none⟩ = some (.int .i64 ((xs[i] : Nat) : Int)) := by
  obtain ⟨b, off, e, hc⟩ := h i hi
  refine ⟨b, off, e, ?_⟩
  have := hc 0 (by omega)
  simpa using this
theorem IsC.boolc {w : World} {a : Option Addr} {xs : List Bool} (h : IsC eBool 1 w a xs) (i : Nat) (hi : i < xs.length) :
    ∃ b off, a = some ⟨b, off, none⟩ ∧ w.cell? ⟨b, off + i, none⟩ = some (.bool xs[i]) := by
  obtain ⟨b, off, e, hc⟩ := h i hi
  refine ⟨b, off, e, ?_⟩
  have := hc 0 (by omega)
  simpa using this
theorem IsC.ed {w : World} {a : Option Addr} {xs : List (Nat × Nat)} (h : IsC eEd 2 w a xs) (i : Nat) (hi : i < xs.length) :
    ∃ b off, a = some ⟨b, off, none⟩ ∧ w.cell? ⟨b, off + i * 2, none⟩ = some (.int .i64 ((xs[i].1 : Nat) : Int)) ∧ w.cell? ⟨b, off + i * 2 + 1, none⟩ = some (.int .i64 ((xs[i].2 : Nat) : Int)) := by
  obtain ⟨b, off, e, hc⟩ := h i hi
  refine ⟨b, off, e, ?_, ?_⟩
  · simpa using hc 0 (by omega)
  · simpa using hc 1 (by omega)
theorem IsC.ei {w : World} {a : Option Addr} {xs : List (Int × Int)} (h : IsC eEi 2 w a xs) (i : Nat) (hi : i < xs.length) :
    ∃ b off, a = some ⟨b, off, none⟩ ∧ w.cell? ⟨b, off + i * 2, none⟩ = some (.int .i64 xs[i].1) ∧ w.cell? ⟨b, off + i * 2 + 1, none⟩ = some (.int .i64 xs[i].2) := by
  obtain ⟨b, off, e, hc⟩ := h i hi
  refine ⟨b, off, e, ?_, ?_⟩
  · simpa using hc 0 (by omega)
  · simpa using hc 1 (by omega)

/-! Numbers below and above. -/
def nzs (xs : List Nat) : List Int := xs.map fun x : Nat => (x : Int)
theorem ints_len (xs : List Nat) : (nzs xs).length = xs.length := by simp [nzs]
theorem flat_nat (xs : List Nat) : xs.flatMap eNat = (nzs xs).map (Value.int .i64) := by
  induction xs with
  | nil => rfl
  | cons x r ih => simp only [List.flatMap_cons, ih, nzs]; rfl
theorem flat_ints (xs : List Nat) : (nzs xs).flatMap eInt = xs.flatMap eNat := by
  induction xs with
  | nil => rfl
  | cons x r ih =>
    simp only [nzs, List.map_cons, List.flatMap_cons] at ih ⊢
    rw [ih]
theorem isC_ints {w : World} {a : Option Addr} {xs : List Nat} : IsC eInt 1 w a (nzs xs) ↔ IsC eNat 1 w a xs := by
  constructor
  · intro h i hi
    obtain ⟨b, off, e, hc⟩ := h i (by rw [ints_len]; exact hi)
    refine ⟨b, off, e, fun j hj => ?_⟩
    rw [hc j hj]; simp [nzs]
  · intro h i hi
    obtain ⟨b, off, e, hc⟩ := h i (by rw [ints_len] at hi; exact hi)
    refine ⟨b, off, e, fun j hj => ?_⟩
    rw [hc j hj]; simp [nzs]
theorem isL_ints {w : World} {v : Value} {xs : List Nat} : IsL eInt 1 w v (nzs xs) ↔ IsL eNat 1 w v xs := by
  unfold IsL
  simp only [ints_len, isC_ints]
theorem own_ints {base : Nat} {e : TypeId} {w : World} {v : Value} {xs : List Nat} : Own base e eInt 1 w v (nzs xs) ↔ Own base e eNat 1 w v xs := by
  unfold Own
  rw [flat_ints, ints_len]
/-- Edges of plain numbers. -/
def edI (E : List (Nat × Nat)) : List (Int × Int) := E.map fun e => ((e.1 : Int), (e.2 : Int))
theorem edI_len (E : List (Nat × Nat)) : (edI E).length = E.length := by simp [edI]
theorem isC_edI {w : World} {a : Option Addr} {E : List (Nat × Nat)} : IsC eEi 2 w a (edI E) ↔ IsC eEd 2 w a E := by
  constructor
  · intro h i hi
    obtain ⟨b, off, e, hc⟩ := h i (by rw [edI_len]; exact hi)
    refine ⟨b, off, e, fun j hj => ?_⟩
    rw [hc j hj]; simp [edI]
  · intro h i hi
    obtain ⟨b, off, e, hc⟩ := h i (by rw [edI_len] at hi; exact hi)
    refine ⟨b, off, e, fun j hj => ?_⟩
    rw [hc j hj]; simp [edI]
theorem isL_edI {w : World} {v : Value} {E : List (Nat × Nat)} : IsL eEi 2 w v (edI E) ↔ IsL eEd 2 w v E := by
  unfold IsL
  simp only [edI_len, isC_edI]

/-! Sorting and compacting. -/
theorem perm_ints {zs : List Int} {xs : List Nat} (h : zs.Perm (nzs xs)) : ∃ ys : List Nat, zs = nzs ys ∧ ys.Perm xs := by
  refine ⟨zs.map Int.toNat, ?_, ?_⟩
  · unfold nzs
    rw [List.map_map]
    have hz : ∀ z ∈ zs, ((fun x : Nat => (x : Int)) ∘ Int.toNat) z = z := by
      intro z hz
      have := h.mem_iff.1 hz
      obtain ⟨x, _, rfl⟩ := List.mem_map.1 this
      simp
    exact (List.map_congr_left hz |>.trans (List.map_id _)).symm
  · have := h.map Int.toNat
    unfold nzs at this
    rw [List.map_map] at this
    have e : (Int.toNat ∘ fun x : Nat => (x : Int)) = id := by funext x; simp
    rw [e, List.map_id] at this
    exact this
theorem asc_ints {xs : List Nat} : (nzs xs).Pairwise (· < ·) ↔ xs.Pairwise (· < ·) := by
  unfold nzs
  rw [List.pairwise_map]
  exact ⟨fun h => h.imp (fun q => by omega), fun h => h.imp (fun q => by omega)⟩
theorem sorted_get {zs : List Int} (h : zs.Pairwise (· ≤ ·)) {i j : Nat} (hij : i ≤ j) (hj : j < zs.length) : zs[i]'(by omega) ≤ zs[j] := by
  rcases Nat.lt_or_ge i j with h1 | h1
  · exact List.pairwise_iff_getElem.1 h i j (by omega) hj h1
  · have : i = j := by omega
    subst this; exact Int.le_refl _
theorem bang_get {zs : List Int} {j : Nat} (hj : j < zs.length) : zs.toArray[j]! = zs[j] := by simp [hj]
theorem compact_asc {zs : List Int} (h : zs.Pairwise (· ≤ ·)) : (Lib.compact zs).Pairwise (· < ·) := by
  unfold Lib.compact Lib.compactUpTo
  rw [List.pairwise_map]
  refine List.Pairwise.imp_of_mem ?_ (List.Pairwise.filter _ (List.pairwise_lt_range (n := zs.length)))
  intro a b ha hb hab
  obtain ⟨hb1, hb2⟩ := List.mem_filter.1 hb
  have hbl := List.mem_range.1 hb1
  unfold Lib.keeps at hb2
  simp only [decide_eq_true_eq] at hb2
  have hne := hb2.resolve_left (by omega)
  rw [bang_get hbl, bang_get (show b - 1 < zs.length by omega)] at hne
  rw [bang_get hbl, bang_get (show a < zs.length by omega)]
  have h1 := sorted_get h (show a ≤ b - 1 by omega) (by omega)
  have h2 := sorted_get h (show b - 1 ≤ b by omega) hbl
  omega
theorem compact_mem {zs : List Int} {x : Int} : x ∈ Lib.compact zs ↔ x ∈ zs := by
  unfold Lib.compact Lib.compactUpTo
  rw [List.mem_map]
  constructor
  · rintro ⟨j, hj, rfl⟩
    have hjl := List.mem_range.1 (List.mem_filter.1 hj).1
    rw [bang_get hjl]
    exact List.getElem_mem hjl
  · intro hx
    obtain ⟨j, hj, rfl⟩ := List.mem_iff_getElem.1 hx
    clear hx
    induction j using Nat.strongRecOn with
    | _ j ih =>
      by_cases hk : Lib.keeps zs.toArray j = true
      · exact ⟨j, List.mem_filter.2 ⟨List.mem_range.2 hj, hk⟩, bang_get hj⟩
      · unfold Lib.keeps at hk
        simp only [decide_eq_true_eq, not_or, Classical.not_not] at hk
        obtain ⟨h0, h1⟩ := hk
        rw [bang_get hj, bang_get (show j - 1 < zs.length by omega)] at h1
        obtain ⟨i, hi, e⟩ := ih (j - 1) (by omega) (by omega)
        exact ⟨i, hi, by rw [e, h1]⟩
theorem compact_len (zs : List Int) : (Lib.compact zs).length ≤ zs.length := by
  unfold Lib.compact Lib.compactUpTo
  rw [List.length_map]
  exact Nat.le_trans (List.length_filter_le _ _) (by simp)
/-- The ends of the edges from a node, in the order of the edges. -/
def tgt (E : List (Nat × Nat)) (v : Nat) : List Nat := (E.filter fun e => e.1 == v).map (·.2)
theorem mem_tgt {E : List (Nat × Nat)} {v x : Nat} : x ∈ tgt E v ↔ (v, x) ∈ E := by
  unfold tgt
  rw [List.mem_map]
  constructor
  · rintro ⟨e, he, rfl⟩
    obtain ⟨h1, h2⟩ := List.mem_filter.1 he
    rw [beq_iff_eq] at h2
    rw [← h2]; exact h1
  · intro h
    exact ⟨(v, x), List.mem_filter.2 ⟨h, by simp⟩, rfl⟩
theorem tgt_snoc (E : List (Nat × Nat)) (e : Nat × Nat) (v : Nat) : tgt (E ++ [e]) v = if e.1 = v then tgt E v ++ [e.2] else tgt E v := by
  unfold tgt
  rw [List.filter_append, List.map_append]
  by_cases h : e.1 = v
  · rw [if_pos h, List.filter_cons_of_pos (by simpa using h)]; rfl
  · rw [if_neg h, List.filter_cons_of_neg (by simpa using h)]; simp
theorem tgt_len (E : List (Nat × Nat)) (v : Nat) : (tgt E v).length ≤ E.length := by
  unfold tgt; rw [List.length_map]; exact List.length_filter_le _ _
/-- Sorted and compacted they are the nodes next to it. -/
theorem nxt_of {n : Nat} {E : List (Nat × Nat)} (hv : Gp.vtx n E) {v : Nat} {ys zs : List Nat} (hp : ys.Perm (tgt E v)) (hs : ys.Pairwise (· ≤ ·)) (hz : Lib.compact (nzs ys) = nzs zs) : zs = Gp.nxt n E v := by
  have hsi : (nzs ys).Pairwise (· ≤ ·) := by
    unfold nzs; rw [List.pairwise_map]; exact hs.imp (fun q => by omega)
  refine Gp.asc_ext (asc_ints.1 (by rw [← hz]; exact compact_asc hsi)) (Gp.nxt_asc n E v) (fun x => ?_)
  have h1 : x ∈ zs ↔ (x : Int) ∈ nzs zs := by
    unfold nzs; rw [List.mem_map]
    exact ⟨fun h => ⟨x, h, rfl⟩, fun ⟨y, hy, e⟩ => by rw [show x = y by omega]; exact hy⟩
  have h2 : x ∈ ys ↔ (x : Int) ∈ nzs ys := by
    unfold nzs; rw [List.mem_map]
    exact ⟨fun h => ⟨x, h, rfl⟩, fun ⟨y, hy, e⟩ => by rw [show x = y by omega]; exact hy⟩
  rw [h1, ← hz, compact_mem, ← h2, hp.mem_iff, mem_tgt, Gp.mem_nxt, Gp.inE_iff]
  exact ⟨fun h => ⟨(hv _ h).2, h⟩, fun h => h.2⟩
theorem compact_ints (ys : List Nat) : ∃ zs : List Nat, Lib.compact (nzs ys) = nzs zs := by
  refine ⟨(Lib.compact (nzs ys)).map Int.toNat, ?_⟩
  unfold nzs
  rw [List.map_map]
  refine (List.map_congr_left (fun z hz => ?_) |>.trans (List.map_id _)).symm
  have := compact_mem.1 hz
  obtain ⟨x, _, rfl⟩ := List.mem_map.1 this
  simp

end Go.Proofs.YtlcfnbnpkcjjlaaGreat
