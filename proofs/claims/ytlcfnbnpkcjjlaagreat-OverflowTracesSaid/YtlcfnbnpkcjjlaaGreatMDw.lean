/- The least path by the distances: digraph.walk. Conditions: the distances are the shortest lengths. | Least paths and loops: digraph.Path, digraph.Loop. Conditions: the edges read as data. | The example of chapter 08 holds; which graphs are large. Conditions: none. | The reference's least order and depths. Conditions: the edges lie among the nodes. -/
import Derived.Test.YtlcfnbnpkcjjlaaGreatDgq
namespace Go.Proofs.YtlcfnbnpkcjjlaaGreat
open Go.RowKit
set_option linter.unusedVariables false
set_option linter.unusedSimpArgs false

theorem idxFrom_at8 {α : Type} (p : α → Bool) : ∀ (xs : List α) (i q : Nat) (hq : q < xs.length), p xs[q] = true → (∀ (j : Nat) (_ : j < q) (hj : j < xs.length), p xs[j] = false) → idxFrom p xs i = ((i + q : Nat) : Int)
  | x :: r, i, 0, _, hp, _ => by
    simp only [List.getElem_cons_zero] at hp
    simp [idxFrom, hp]
  | x :: r, i, q + 1, hq, hp, hn => by
    have h0 := hn 0 (by omega) (by simp)
    simp only [List.getElem_cons_zero] at h0
    have := idxFrom_at8 p r (i + 1) q (by simpa using hq) (by simpa using hp) (fun j hj hjl => by
      have h1 := hn (j + 1) (by omega) (by simpa using hjl)
      rw [List.getElem_cons_succ] at h1
      exact h1)
    simp only [idxFrom, h0]
    rw [show i + (q + 1) = i + 1 + q by omega]
    simpa using this

theorem Wk_small {n : Nat} {E : Gp.Gr} {low b : Nat} {rd : Bool} {k x : Nat} (hv : Gp.vtx n E) (hb : b < n) (h : Gp.Dk E low b rd x k) : k ≤ n := by
  cases rd with
  | false => exact Nat.le_of_lt (h.small hv hb)
  | true =>
    by_cases hx : x = b
    · subst hx
      cases k with
      | zero => omega
      | succ k =>
        obtain ⟨y, h1, h2, h3, h4, h5⟩ := h.next
        rcases h5 with rfl | h5
        · omega
        · have hy : y ≠ x := fun e => by
            subst e
            exact h.2 k (by omega) h5.1
          have := ((Gp.dk_away hy).1 h5).small hv hb
          omega
    · exact Nat.le_of_lt (((Gp.dk_away hx).1 h).small hv hb)

end Go.Proofs.YtlcfnbnpkcjjlaaGreat

namespace Go.Proofs.YtlcfnbnpkcjjlaaGreat
open Go.RowKit
set_option linter.unusedVariables false
set_option linter.unusedSimpArgs false

theorem pthL_self {n : Nat} {E : Gp.Gr} {a : Nat} (hv : Gp.vtx n E) (ha : a < n) : Gp.pthL n E a a = some [a] := by
  unfold Gp.pthL
  rw [(Gp.stepsL_is (low := 0) hv ha).self ha]
  simp [Gp.lpR]
theorem pthL_none {n : Nat} {E : Gp.Gr} {a b : Nat} {D : List Int} (hv : Gp.vtx n E) (hb : b < n) (hI : Gp.IsD n E 0 b false D) (h : D.getD a (-1) < 0) : Gp.pthL n E a b = none := by
  rw [hI.uniq (Gp.stepsL_is (low := 0) hv hb)] at h
  unfold Gp.pthL
  rw [if_pos h]
theorem pthL_some {n : Nat} {E : Gp.Gr} {a b m : Nat} {D : List Int} (hv : Gp.vtx n E) (ha : a < n) (hb : b < n) (hab : a ≠ b) (hI : Gp.IsD n E 0 b false D) (h : D.getD a (-1) = ((m + 1 : Nat) : Int)) : Gp.pthL n E a b = some ((a :: Gp.wlkG n E D b 0 m a) ++ [b]) := by
  have hS := Gp.stepsL_is (low := 0) hv hb
  have hw := Gp.wlk_lp hv hI hS hb m a ha hab (by rw [← hI.uniq hS]; exact h)
  rw [hw]
  unfold Gp.pthL
  rw [← hI.uniq hS, h, if_neg (by omega), Int.toNat_natCast]

def lopK (n : Nat) (E : Gp.Gr) (k : Nat) : List Nat := (List.range k).foldl (Gp.lopS n E) []
theorem lopK_succ (n : Nat) (E : Gp.Gr) (k : Nat) : lopK n E (k + 1) = Gp.lopS n E (lopK n E k) k := by
  unfold lopK
  rw [List.range_succ, List.foldl_append]; rfl
theorem lopK_len {n : Nat} {E : Gp.Gr} (hv : Gp.vtx n E) : ∀ k, k ≤ n → (lopK n E k).length ≤ n
  | 0, _ => by simp [lopK]
  | k + 1, h => by
    rw [lopK_succ]
    unfold Gp.lopS
    split
    · exact Gp.cycL_len_le hv (by omega)
    · exact lopK_len hv k (by omega)
/-- The best loop so far: none, or a row of the call's own. -/
def RowB (base : Nat) (w : World) (v : Value) (xs : List Nat) : Prop := (xs = [] ∧ v = .slice none 0 0) ∨ (0 < xs.length ∧ Own base 3 eNat 1 w v xs)
theorem RowB.below {base : Nat} {w w' : World} {v : Value} {xs : List Nat} (h : RowB base w v xs) (hb : Below w.heap.size w w') : RowB base w' v xs := by
  rcases h with h | ⟨h1, h2⟩
  · exact .inl h
  · exact .inr ⟨h1, h2.below hb⟩

end Go.Proofs.YtlcfnbnpkcjjlaaGreat

namespace Go.Proofs.YtlcfnbnpkcjjlaaGreat
open Go.RowKit
set_option linter.unusedVariables false
set_option linter.unusedSimpArgs false

theorem flat_edI (E : List (Nat × Nat)) : (edI E).flatMap eEi = E.flatMap eEd := by
  induction E with
  | nil => rfl
  | cons e r ih =>
    simp only [edI, List.map_cons, List.flatMap_cons] at ih ⊢
    rw [ih]
theorem own_edI {base : Nat} {e : TypeId} {w : World} {v : Value} {E : List (Nat × Nat)} : Own base e eEi 2 w v (edI E) ↔ Own base e eEd 2 w v E := by
  unfold Own
  rw [flat_edI, edI_len]
/-- A list that is laid down in one block. -/
theorem IsL.lit {α : Type} {enc : α → List Value} {k : Nat} (hk : ∀ x, (enc x).length = k) (w : World) (xs : List α) (cs : Array Value) (hcs : cs = (xs.flatMap enc).toArray) (e : TypeId) (hl : xs.length ≤ 1000) :
    IsL enc k (w.alloc (.cells cs e)) (.slice (some ⟨w.heap.size, 0, none⟩) xs.length xs.length) xs := by
  subst hcs
  refine ⟨_, _, rfl, Nat.le_refl _, by omega, fun i hi => ⟨w.heap.size, 0, rfl, fun j hj => ?_⟩⟩
  rw [Nat.zero_add, blk_cell (heap_alloc_new w _), List.getElem?_toArray]
  exact flat_get enc k hk xs i j hi hj
theorem eqN_same (xs : List Nat) (v v2 : Value) (w : World) (hv : IsNats w v xs) (hv2 : IsNats w v2 xs) : Calls Tryz.prog 18 #[v, v2] w fun e w' => e = .returned (.bool true) ∧ Below w.heap.size w w' := by
  have h := eqNats xs xs v v2 w hv hv2
  simpa using h
theorem eqI_same (xs : List Int) (v v2 : Value) (w : World) (hv : IsInts w v xs) (hv2 : IsInts w v2 xs) : Calls Tryz.prog 18 #[v, v2] w fun e w' => e = .returned (.bool true) ∧ Below w.heap.size w w' := by
  have h := eqInts xs xs v v2 w hv hv2
  simpa using h

abbrev exG : List (Nat × Nat) := [(3, 1), (1, 0), (3, 0)]
abbrev exH : List (Nat × Nat) := [(3, 1), (1, 0), (3, 0), (0, 3)]
theorem exG_v : Gp.vtx 4 exG := by unfold Gp.vtx; decide
theorem exH_v : Gp.vtx 4 exH := by unfold Gp.vtx; decide
theorem exG_ord : Gp.ordL 4 exG = [2, 3, 1, 0] := by decide
theorem exG_dep : Gp.depL 4 exG = [2, 1, 0, 0] := by decide
theorem exG_pth : Gp.pthL 4 exG 3 0 = some [3, 0] := by decide
theorem exH_lop : Gp.lopL 4 exH = [0, 3] := by decide

/-- Which graphs are large. -/
def d8largeB (n : Int) (len : Nat) : Bool := (decide (20 < n) && decide (n ≤ 300)) || (decide (60 < len) && decide (len ≤ 1000)) || decide (2000 < len)
end Go.Proofs.YtlcfnbnpkcjjlaaGreat

namespace Go.Proofs.YtlcfnbnpkcjjlaaGreat
open Go.RowKit
set_option linter.unusedVariables false
set_option linter.unusedSimpArgs false

theorem Own.setb {base : Nat} {e : TypeId} {w : World} {g n c : Nat} {xs : List Bool} (h : Own base e eBool 1 w (.slice (some ⟨g, 0, none⟩) n c) xs) (i : Nat) (hi : i < xs.length) (y : Bool) :
    Own base e eBool 1 (w.setCell ⟨g, i, none⟩ (.bool y)) (.slice (some ⟨g, 0, none⟩) n c) (xs.set i y) := by
  have := Own.store (enc := eBool) (k := 1) (fun _ => rfl) h i 0 hi Nat.zero_lt_one (.bool y) y rfl
  simpa using this
theorem Own.boolAt {base : Nat} {e : TypeId} {w : World} {g n c : Nat} {xs : List Bool} (h : Own base e eBool 1 w (.slice (some ⟨g, 0, none⟩) n c) xs) (i : Nat) (hi : i < xs.length) : w.cell? ⟨g, i, none⟩ = some (.bool xs[i]) := by
  have := Own.cellAt' (enc := eBool) (k := 1) (fun _ => rfl) h i 0 hi Nat.zero_lt_one
  simpa using this
/-- Which nodes are in the list. -/
def inL (n : Nat) (out : List Nat) : List Bool := (List.range n).map fun x => out.contains x
theorem inL_len (n : Nat) (out : List Nat) : (inL n out).length = n := by simp [inL]
theorem inL_get {n : Nat} {out : List Nat} {x : Nat} (hx : x < (inL n out).length) : (inL n out)[x] = out.contains x := by simp [inL]
theorem inL_nil (n : Nat) : inL n [] = List.replicate n false := by
  unfold inL
  apply List.ext_getElem
  · simp
  · intro i h1 h2; simp
theorem inL_snoc (n : Nat) (out : List Nat) (x : Nat) : (inL n out).set x true = inL n (out ++ [x]) := by
  apply List.ext_getElem
  · simp [inL]
  · intro i h1 h2
    by_cases hx : x = i
    · subst hx
      rw [List.getElem_set_self, inL_get]
      simp
    · rw [List.getElem_set_ne hx, inL_get, inL_get]
      have : ¬ i = x := fun e => hx e.symm
      simp [this]
/-- Whether the edges say that a node is next. -/
def rdyE (out : List Nat) (v : Nat) (E : Gp.Gr) : Bool := E.all fun e => !(e.2 == v) || out.contains e.1
theorem rdyE_snoc {out : List Nat} {v : Nat} {E : Gp.Gr} {k : Nat} (hk : k < E.length) : rdyE out v (E.take (k + 1)) = (rdyE out v (E.take k) && (!((E[k]).2 == v) || out.contains (E[k]).1)) := by
  unfold rdyE
  rw [List.take_succ_eq_append_getElem hk, List.all_append]
  simp
theorem nextV_of {n : Nat} {E : Gp.Gr} {out : List Nat} {v : Nat} (hv : v < n) (h1 : ∀ x, x < v → Gp.rdyB E out x = false) (h2 : Gp.rdyB E out v = true) : Gp.nextV n E out = some v := by
  refine Gp.find_least (Gp.range_asc n) (List.mem_range.2 hv) h2 (fun x _ hx => ?_)
  rcases Nat.lt_or_ge x v with h | h
  · rw [h1 x h] at hx; cases hx
  · exact h
theorem nextV_no {n : Nat} {E : Gp.Gr} {out : List Nat} (h1 : ∀ x, x < n → Gp.rdyB E out x = false) : Gp.nextV n E out = none := by
  unfold Gp.nextV
  rw [List.find?_eq_none]
  intro x hx hp
  rw [h1 x (List.mem_range.1 hx)] at hp; cases hp

end Go.Proofs.YtlcfnbnpkcjjlaaGreat
