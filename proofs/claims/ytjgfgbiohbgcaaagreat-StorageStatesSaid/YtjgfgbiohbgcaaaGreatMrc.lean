/- A region that draws its order, walked by an invariant: each operation that may come up keeps it. No function is named. Conditions: none. | append onto an empty slice of no room: no block turns; what comes back is empty, or lies in a block just made. No function of the program is named. Conditions: at most a million elements. | A copy of a state: the reference's Copy. Conditions: the argument reads as data, its lists have at most a million elements. -/
import Derived.Test.YtjgfgbiohbgcaaaGreatMBase
import Derived.Orders
import Derived.Test.YtjgfgbiohbgcaaaGreatSfc
import Derived.Deep.RegionHeld3
namespace Go.Proofs.YtjgfgbiohbgcaaaGreat
open Go.RowKit
set_option linter.unusedVariables false
set_option linter.unusedSimpArgs false

section
variable {P : Program} {ops : Array Oper} {Q : Exit → Act → World → Prop} {md : Region.Mode}

def remL (n : Nat) (l : Array Bool) : Nat := (List.range n).countP fun i => !(l.getD i true)
theorem countP_lt {p q : Nat → Bool} : ∀ (xs : List Nat), (∀ x ∈ xs, q x = true → p x = true) → (∃ x ∈ xs, p x = true ∧ q x = false) → xs.countP q < xs.countP p
  | [], _, h => by obtain ⟨x, hx, _⟩ := h; cases hx
  | x :: r, h1, h2 => by
    have hr : r.countP q ≤ r.countP p := List.countP_mono_left (fun y hy => h1 y (List.mem_cons_of_mem _ hy))
    by_cases hx : p x = true ∧ q x = false
    · rw [List.countP_cons_of_pos hx.1, List.countP_cons_of_neg (by rw [hx.2]; simp)]; omega
    · obtain ⟨y, hy, hpy⟩ := h2
      have hyr : y ∈ r := by
        rcases List.mem_cons.1 hy with e | e
        · subst e; exact absurd hpy hx
        · exact e
      have ih := countP_lt r (fun z hz => h1 z (List.mem_cons_of_mem _ hz)) ⟨y, hyr, hpy⟩
      have hqx := h1 x (List.mem_cons_self ..)
      cases hq : q x
      · rw [List.countP_cons_of_neg (by rw [hq]; simp)]
        exact Nat.lt_of_lt_of_le ih (by cases hp : p x <;> simp [hp])
      · rw [List.countP_cons_of_pos hq, List.countP_cons_of_pos (hqx hq)]; omega

/-- No operation waits for a later one. -/
def backB (ops : Array Oper) : Bool := (List.range ops.size).all fun i => match ops[i]? with | some o => o.after.all fun e => decide (e.on < i) | none => true
theorem backB_spec (h : backB ops = true) {i : Nat} {o : Oper} (ho : ops[i]? = some o) (e : _) (he : e ∈ o.after) : e.on < i := by
  have hi : i < ops.size := (Array.getElem?_eq_some_iff.1 ho).1
  have h1 := List.all_eq_true.1 h i (List.mem_range.2 hi)
  rw [ho] at h1
  simp only at h1
  have h2 := Array.all_eq_true_iff_forall_mem.1 h1 e he
  simpa using h2

theorem ready_none (hb : backB ops = true) {l : Array Bool} (hs : l.size = ops.size) (h : Region.ready md ops l = []) : ∀ i, i < ops.size → l.getD i false = true := by
  intro i
  induction i using Nat.strongRecOn with
  | _ i ih =>
    intro hi
    cases hl : l.getD i false with
    | true => rfl
    | false =>
      exfalso
      have hi' : i < l.size := by omega
      have hm : i ∈ Region.ready md ops l := mem_ready.2 ⟨by simp only [Array.getD, hi', dite_true] at hl ⊢; exact hl, ops[i], by simp [hi], fun e he _ => ih e.on (backB_spec hb (by simp [hi]) e he) (by have := backB_spec hb (i := i) (o := ops[i]) (by simp [hi]) e he; omega)⟩
      rw [h] at hm
      cases hm

theorem wpAny_inv (I : Array Bool → Act → World → Prop) (hb : backB ops = true) (hs : ∀ l a w, I l a w → l.size = ops.size)
    (step : ∀ l a w i o, I l a w → ops[i]? = some o → l.getD i true = false → (∀ e ∈ o.after, Region.binds md e = true → l.getD e.on false = true) → wpOp P ops Q i (fun a' w' => I (l.setIfInBounds i true) a' w') a w)
    (fin : ∀ l a w, I l a w → (∀ i, i < ops.size → l.getD i false = true) → Q .normal a w) :
    ∀ (fuel : Nat) (l : Array Bool) (a : Act) (w : World), remL ops.size l ≤ fuel → I l a w → wpAny P md ops Q fuel l a w
  | 0, l, a, w, hr, hI => by
    have hz := hs l a w hI
    have hall : ∀ i, i < ops.size → l.getD i false = true := by
      intro i hi
      have h0 : remL ops.size l = 0 := by omega
      unfold remL at h0
      have h1 := List.countP_eq_zero.1 h0 i (List.mem_range.2 hi)
      have hi' : i < l.size := by omega
      simp only [Array.getD, hi', dite_true] at h1 ⊢
      simpa using h1
    refine ⟨?_, fin l a w hI hall⟩
    cases hrd : Region.ready md ops l with
    | nil => rfl
    | cons i r =>
      exfalso
      have hm : i ∈ Region.ready md ops l := by rw [hrd]; exact List.mem_cons_self ..
      obtain ⟨h1, o, ho, _⟩ := mem_ready.1 hm
      have hi : i < ops.size := (Array.getElem?_eq_some_iff.1 ho).1
      have h2 := hall i hi
      have hi' : i < l.size := by omega
      simp only [Array.getD, hi', dite_true] at h1 h2
      rw [h1] at h2; cases h2
  | fuel + 1, l, a, w, hr, hI => by
    have hz := hs l a w hI
    refine ⟨fun h => fin l a w hI (ready_none hb hz h), fun i hi => ?_⟩
    obtain ⟨h1, o, ho, h2⟩ := mem_ready.1 hi
    refine wpOp_mono (fun a' w' h' => wpAny_inv I hb hs step fin fuel _ a' w' ?_ h') (step l a w i o hI ho h1 h2)
    have hil : i < ops.size := (Array.getElem?_eq_some_iff.1 ho).1
    have hi' : i < l.size := by omega
    have : remL ops.size (l.setIfInBounds i true) < remL ops.size l := by
      refine countP_lt _ (fun x _ hx => ?_) ⟨i, List.mem_range.2 hil, by rw [h1]; rfl, ?_⟩
      · by_cases hxi : i = x
        · subst hxi
          simp [Array.getD, hi'] at hx
        · rw [getD_set_ne true hxi] at hx; exact hx
      · simp [Array.getD, hi']
    omega

/-- The same at the region. -/
theorem wp_region_inv {id : Nat} {a : Act} {w : World} (I : Array Bool → Act → World → Prop) (hm : P.follows .mixedOrders = true) (hb : backB ops = true) (hs : ∀ l a w, I l a w → l.size = ops.size)
    (step : ∀ l a w i o, I l a w → ops[i]? = some o → l.getD i true = false → (∀ e ∈ o.after, Region.binds .any e = true → l.getD e.on false = true) → wpOp P ops Q i (fun a' w' => I (l.setIfInBounds i true) a' w') a w)
    (fin : ∀ l a w, I l a w → (∀ i, i < ops.size → l.getD i false = true) → Q .normal a w)
    (h0 : I (Array.replicate ops.size false) a { w with drawn := w.drawn + 1 }) : (Code.region id ops true).wp P Q a w := by
  refine wp_region_any hm (wpAny_inv I hb hs step fin _ _ _ _ ?_ h0)
  unfold remL
  exact Nat.le_trans List.countP_le_length (by simp)
end

end Go.Proofs.YtjgfgbiohbgcaaaGreat

namespace Go.Proofs.YtjgfgbiohbgcaaaGreat
open Go.RowKit
set_option linter.unusedVariables false
set_option linter.unusedSimpArgs false

/-- Empty, or a row of the call's own between lo and hi. -/
def RowN {α : Type} (W : World) (lo hi : Nat) (e : TypeId) (enc : α → List Value) (k : Nat) (v : Value) (xs : List α) : Prop :=
  (xs = [] ∧ ∃ a, v = .slice a 0 0) ∨ (0 < xs.length ∧ RowAt W lo hi e enc k v xs)
theorem RowN.mono {α : Type} {W W' : World} {lo hi : Nat} {e : TypeId} {enc : α → List Value} {k : Nat} {v : Value} {xs : List α} (h : RowN W lo hi e enc k v xs) (hb : Below W.heap.size W W') : RowN W' lo hi e enc k v xs := by
  rcases h with h | ⟨h0, h1, h2, h3⟩
  · exact .inl h
  · exact .inr ⟨h0, h1.below hb, Nat.le_trans h2 hb.size, h3⟩
theorem RowN.isSlice {α : Type} {W : World} {lo hi : Nat} {e : TypeId} {enc : α → List Value} {k : Nat} {v : Value} {xs : List α} (h : RowN W lo hi e enc k v xs) : ∃ a c, v = .slice a xs.length c := by
  rcases h with ⟨rfl, a, rfl⟩ | ⟨_, h1, _⟩
  · exact ⟨a, 0, rfl⟩
  · exact h1.isSlice
theorem RowN.gSl {α : Type} {W : World} {lo hi : Nat} {e : TypeId} {enc : α → List Value} {k : Nat} {v : Value} {xs : List α} {good : World → α → Prop} (h : RowN W lo hi e enc k v xs) (hk : ∀ x, (enc x).length = k) (hg : ∀ x ∈ xs, good W x) :
    ∃ s : Sl α, v = vSl s ∧ s.xs = xs ∧ gSl enc k good W s := by
  rcases h with ⟨rfl, a, rfl⟩ | ⟨_, h1, _⟩
  · exact ⟨⟨a, 0, []⟩, rfl, rfl, Nat.le_refl _, by simp, fun i hi => absurd hi (Nat.not_lt_zero _), by simp⟩
  · exact h1.gSl hk hg
theorem RowN.set {α : Type} {W : World} {lo hi : Nat} {e : TypeId} {enc : α → List Value} {k : Nat} {v : Value} {xs : List α} (h : RowN W lo hi e enc k v xs) (a : Addr) (u : Value) (ha : a.block < lo ∨ hi ≤ a.block) : RowN (W.setCell a u) lo hi e enc k v xs := by
  rcases h with h | ⟨h0, h1⟩
  · exact .inl h
  · exact .inr ⟨h0, h1.set a u ha⟩

section
variable {P : Program} (w : World)
theorem run_append_empty {α : Type} {enc : α → List Value} (t ty e : TypeId) (z : Value) (size bytes : Nat) (ht : P.underlying t = some (.slice e))
    (hinfo : (P.info? e).map (fun i => (i.zero, i.size, i.bytes)) = some (some z, size, bytes)) (hzs : z.cells.size = size) (hsz : 0 < size) (hby : bytes ≤ 4096)
    (g : Nat) (hg : w.heap[g]? = some (.cells #[] e (0, 0))) (hk : ∀ x, (enc x).length = size) (h1 : ∀ x, ∀ u ∈ enc x, u.oneCell' = true) (ao : Option Addr) (c : Nat) (xs : List α) (hc : IsC enc size w ao xs) (hlen : xs.length ≤ 1000000) :
    ∃ v' w', (Builtin.append_ #[t, t] ty #[.slice (some ⟨g, 0, none⟩) 0 0, .slice ao xs.length c]).run P w = .ok v' w' ∧ Below w.heap.size w w' ∧ RowN w' w.heap.size w'.heap.size e enc size v' xs := by
  obtain ⟨i, hi, hz0, hz1, hz2⟩ := info_parts hinfo
  subst hz1
  subst hz2
  by_cases h0 : xs = []
  · subst h0
    refine ⟨.slice (some ⟨g, 0, none⟩) 0 0, ?_⟩
    cases ao with
    | none =>
      refine ⟨w, ?_, Below.refl _ _, .inl ⟨rfl, _, rfl⟩⟩
      simp [Builtin.append_, run_underlying ht, sizeOf, typeInfo, hi, Builtin.lenOf, Builtin.firstCells, storeCells]
    | some a =>
      have hr := run_append_room (P := P) w t ty e i ht hi g 0 0 #[] hg a 0 c [] (by simp) (fun j u hu => by simp at hu) (by simp) (Nat.le_refl _) (by simp)
      refine ⟨_, hr, ⟨rfl, rfl, rfl, by simp, fun k hk => ?_⟩, .inl ⟨rfl, _, rfl⟩⟩
      by_cases hkg : k = g
      · subst hkg
        rw [setRow_heap w k #[] _ e _ hg, hg]; simp
      · exact setRow_other w g k _ hkg
  · have hpos : 0 < xs.length := by cases xs with | nil => exact absurd rfl h0 | cons _ _ => simp
    obtain ⟨b, off, rfl, _⟩ := hc 0 hpos
    have hn := IsC.newsK hk hc
    have hb32 : (0 + xs.length) * i.bytes ≤ 1000000 * 4096 := Nat.mul_le_mul (by omega) hby
    have hr := run_append_grow (P := P) w t ty e i z ht hi hz0 ⟨g, 0, none⟩ 0 0 [] (by simp) (fun j u hu => by simp at hu) ⟨b, off, none⟩ xs.length c (xs.flatMap enc) (flat_len enc i.size hk xs) hn (by omega) (by omega) (growslice_fits (by omega) (by omega))
    have hge := grownCap_ge w (0 + xs.length) 0 e
    have hcm : grownCap w (0 + xs.length) 0 e ≤ maxLen := grownCap_le_maxLen w (0 + xs.length) 0 e (by simp only [maxLen]; omega)
    refine ⟨_, _, hr, ((Below.refl _ _).drew).alloc (Nat.le_refl _) _, .inr ⟨hpos, ⟨?_, Nat.le_refl _, ?_⟩⟩⟩
    · simp only [Nat.zero_add] at hge hcm ⊢
      refine ⟨flat_len enc i.size hk xs, .inr ⟨w.heap.size, _, _, rfl, Nat.le_refl _, heap_alloc_new w.drew _, hge, hcm, ?_, ?_⟩⟩
      · simp only [Array.size_append, List.size_toArray, size_zeroCells, hzs, flat_len enc i.size hk xs, List.length_nil, Nat.zero_add, ← Nat.add_mul]
        congr 1
        omega
      · simp only [Array.toList_append, List.nil_append]
        rw [← flat_len enc i.size hk xs]
        exact List.take_left
    · intro g' hg'
      simp only [Value.ownBlock, Option.some.injEq] at hg'
      subst hg'
      simp

theorem wp_append_empty {α : Type} {enc : α → List Value} {o : Oper} {a : Act} {K : Act → World → Prop} {Q : Exit → Act → World → Prop} (s x : Operand) (t : TypeId)
    (hop : o.op = .call { callee := .builtin .append, args := #[s, x], argTypes := #[t, t] }) (e : TypeId) (z : Value) (size bytes : Nat) (ht : P.underlying t = some (.slice e))
    (hinfo : (P.info? e).map (fun i => (i.zero, i.size, i.bytes)) = some (some z, size, bytes)) (hzs : z.cells.size = size) (hsz : 0 < size) (hby : bytes ≤ 4096)
    (g : Nat) (hg : w.heap[g]? = some (.cells #[] e (0, 0))) (hk : ∀ x, (enc x).length = size) (h1 : ∀ x, ∀ u ∈ enc x, u.oneCell' = true) (ao : Option Addr) (c : Nat) (xs : List α) (hc : IsC enc size w ao xs) (hlen : xs.length ≤ 1000000)
    (hs : a.eval s = .slice (some ⟨g, 0, none⟩) 0 0) (hx : a.eval x = .slice ao xs.length c)
    (h : ∀ v' w', Below w.heap.size w w' → RowN w' w.heap.size w'.heap.size e enc size v' xs → K (a.put o.dst v') w') : o.wp P a w K Q := by
  obtain ⟨v', w', hr, h2, h3⟩ := run_append_empty (P := P) w t o.type e z size bytes ht hinfo hzs hsz hby g hg hk h1 ao c xs hc hlen
  unfold Oper.wp execOp
  simp only [hop, resolve, invoke, builtin, Sem.run_bind, Sem.run_pure, Result.andThen_ok, List.map_toArray, List.map_cons, List.map_nil, hs, hx, hr]
  exact h v' w' h2 h3
end

end Go.Proofs.YtjgfgbiohbgcaaaGreat

namespace Go.Proofs.YtjgfgbiohbgcaaaGreat
open Go.RowKit
set_option linter.unusedVariables false
set_option linter.unusedSimpArgs false

abbrev updV {β : Type} (y : Nat → β) (d : Nat) (v : β) : Nat → β := fun j => if j = d then v else y j
def Emp (W : World) (e : TypeId) (v : Value) : Prop := ∃ g, v = .slice (some ⟨g, 0, none⟩) 0 0 ∧ W.heap[g]? = some (.cells #[] e (0, 0))
theorem Emp.mono {W W' : World} {e : TypeId} {v : Value} (h : Emp W e v) (hb : Below W.heap.size W W') : Emp W' e v := by
  obtain ⟨g, h1, h2⟩ := h
  exact ⟨g, h1, (hb.block g (Array.getElem?_eq_some_iff.1 h2).1).trans h2⟩
theorem Emp.new (W : World) (e : TypeId) : Emp (W.alloc (.cells #[] e)) e (.slice (some ⟨W.heap.size, 0, none⟩) 0 0) := ⟨_, rfl, heap_alloc_new W _⟩

/-- What operation j of the region has left (in slot j + 3). -/
def cpF (n0 B : Nat) (s : St) (l : Array Bool) (y : Nat → Value) (lo hi : Nat → Nat) (W : World) : Nat → Prop
  | 0 => Emp W 3 (y 3)
  | 1 => y 4 = .pointer (some ⟨B, 0, none⟩)
  | 2 => y 5 = vSl s.V
  | 3 => RowN W (lo 0) (hi 0) 3 eInt 1 (y 6) s.V.xs ∧ n0 ≤ lo 0 ∧ lo 0 ≤ hi 0 ∧ hi 0 ≤ W.heap.size
  | 4 => Emp W 3 (y 7)
  | 5 => y 8 = .pointer (some ⟨B, 1, none⟩)
  | 6 => y 9 = vSl s.P
  | 7 => l.getD 3 false = true ∧ RowN W (lo 1) (hi 1) 3 eInt 1 (y 10) s.P.xs ∧ hi 0 ≤ lo 1 ∧ lo 1 ≤ hi 1 ∧ hi 1 ≤ W.heap.size
  | 8 => Emp W 3 (y 11)
  | 9 => y 12 = .pointer (some ⟨B, 2, none⟩)
  | 10 => y 13 = vSl s.S
  | 11 => l.getD 7 false = true ∧ RowN W (lo 2) (hi 2) 3 eInt 1 (y 14) s.S.xs ∧ hi 1 ≤ lo 2 ∧ lo 2 ≤ hi 2 ∧ hi 2 ≤ W.heap.size
  | 12 => Emp W 4 (y 15)
  | 13 => y 16 = .pointer (some ⟨B, 3, none⟩)
  | 14 => y 17 = vSl s.O
  | 15 => l.getD 11 false = true ∧ RowN W (lo 3) (hi 3) 4 eBool 1 (y 18) s.O.xs ∧ hi 2 ≤ lo 3 ∧ lo 3 ≤ hi 3 ∧ hi 3 ≤ W.heap.size
  | 16 => (l.getD 3 false = true ∧ l.getD 7 false = true ∧ l.getD 11 false = true ∧ l.getD 15 false = true) ∧ y 19 = .agg #[y 6, y 10, y 14, y 18]
  | _ => True

theorem cpF_keep {n0 B : Nat} {s : St} {l l' : Array Bool} {y y' : Nat → Value} {lo hi lo' hi' : Nat → Nat} {W W' : World} {i : Nat} (hb : Below W.heap.size W W') (hun : l.getD i false = false)
    (hy : ∀ j, j ≠ i → y' (j + 3) = y (j + 3)) (hlh : ∀ r, i ≠ 4 * r + 3 → lo' r = lo r ∧ hi' r = hi r) (hl : ∀ j, j ≠ i → l'.getD j false = l.getD j false) :
    ∀ j, j ≠ i → cpF n0 B s l y lo hi W j → cpF n0 B s l' y' lo' hi' W' j := by
  have hno : ∀ j, l.getD j false = true → j ≠ i := fun j h e => by subst e; rw [hun] at h; cases h
  have hs := hb.size
  intro j hj h
  match j, hj, h with
  | 0, hj, h =>
    have e : y' 3 = y 3 := hy 0 hj
    show Emp W' 3 (y' 3)
    rw [e]
    exact Emp.mono h hb
  | 1, hj, h => exact (hy 1 hj).trans h
  | 2, hj, h => exact (hy 2 hj).trans h
  | 3, hj, h =>
    obtain ⟨e1, e2⟩ := hlh 0 (by omega)
    have e3 : y' 6 = y 6 := hy 3 hj
    show RowN W' (lo' 0) (hi' 0) _ _ _ (y' 6) _ ∧ _
    rw [e1, e2, e3]
    exact ⟨h.1.mono hb, h.2.1, h.2.2.1, Nat.le_trans h.2.2.2 hs⟩
  | 4, hj, h =>
    have e : y' 7 = y 7 := hy 4 hj
    show Emp W' 3 (y' 7)
    rw [e]
    exact Emp.mono h hb
  | 5, hj, h => exact (hy 5 hj).trans h
  | 6, hj, h => exact (hy 6 hj).trans h
  | 7, hj, h =>
    obtain ⟨h0, h1, h2, h3, h4⟩ := h
    have n3 := hno 3 h0
    obtain ⟨e1, e2⟩ := hlh 1 (by omega)
    obtain ⟨_, e5⟩ := hlh 0 (by omega)
    have e3 : y' 10 = y 10 := hy 7 hj
    show _ ∧ RowN W' (lo' 1) (hi' 1) _ _ _ (y' 10) _ ∧ hi' 0 ≤ lo' 1 ∧ lo' 1 ≤ hi' 1 ∧ _
    rw [e1, e2, e3, e5, hl 3 n3]
    exact ⟨h0, h1.mono hb, h2, h3, Nat.le_trans h4 hs⟩
  | 8, hj, h =>
    have e : y' 11 = y 11 := hy 8 hj
    show Emp W' 3 (y' 11)
    rw [e]
    exact Emp.mono h hb
  | 9, hj, h => exact (hy 9 hj).trans h
  | 10, hj, h => exact (hy 10 hj).trans h
  | 11, hj, h =>
    obtain ⟨h0, h1, h2, h3, h4⟩ := h
    have n3 := hno 7 h0
    obtain ⟨e1, e2⟩ := hlh 2 (by omega)
    obtain ⟨_, e5⟩ := hlh 1 (by omega)
    have e3 : y' 14 = y 14 := hy 11 hj
    show _ ∧ RowN W' (lo' 2) (hi' 2) _ _ _ (y' 14) _ ∧ hi' 1 ≤ lo' 2 ∧ lo' 2 ≤ hi' 2 ∧ _
    rw [e1, e2, e3, e5, hl 7 n3]
    exact ⟨h0, h1.mono hb, h2, h3, Nat.le_trans h4 hs⟩
  | 12, hj, h =>
    have e : y' 15 = y 15 := hy 12 hj
    show Emp W' 4 (y' 15)
    rw [e]
    exact Emp.mono h hb
  | 13, hj, h => exact (hy 13 hj).trans h
  | 14, hj, h => exact (hy 14 hj).trans h
  | 15, hj, h =>
    obtain ⟨h0, h1, h2, h3, h4⟩ := h
    have n3 := hno 11 h0
    obtain ⟨e1, e2⟩ := hlh 3 (by omega)
    obtain ⟨_, e5⟩ := hlh 2 (by omega)
    have e3 : y' 18 = y 18 := hy 15 hj
    show _ ∧ RowN W' (lo' 3) (hi' 3) _ _ _ (y' 18) _ ∧ hi' 2 ≤ lo' 3 ∧ lo' 3 ≤ hi' 3 ∧ _
    rw [e1, e2, e3, e5, hl 11 n3]
    exact ⟨h0, h1.mono hb, h2, h3, Nat.le_trans h4 hs⟩
  | 16, hj, h =>
    obtain ⟨⟨h0, h1, h2, h3⟩, h4⟩ := h
    have e3 : y' 6 = y 6 := hy 3 (hno 3 h0)
    have e7 : y' 10 = y 10 := hy 7 (hno 7 h1)
    have e11 : y' 14 = y 14 := hy 11 (hno 11 h2)
    have e15 : y' 18 = y 18 := hy 15 (hno 15 h3)
    have e16 : y' 19 = y 19 := hy 16 hj
    show _ ∧ y' 19 = .agg #[y' 6, y' 10, y' 14, y' 18]
    rw [e3, e7, e11, e15, e16, hl 3 (hno 3 h0), hl 7 (hno 7 h1), hl 11 (hno 11 h2), hl 15 (hno 15 h3)]
    exact ⟨⟨h0, h1, h2, h3⟩, h4⟩
  | n + 17, hj, h => exact trivial

abbrev cpA (p0 : Value) (B B2 : Nat) (y : Nat → Value) : Act := ⟨#[p0, .pointer (some ⟨B, 0, none⟩), .pointer (some ⟨B2, 0, none⟩), y 3, y 4, y 5, y 6, y 7, y 8, y 9, y 10, y 11, y 12, y 13, y 14, y 15, y 16, y 17, y 18, y 19], []⟩
def set4 (W : World) (B : Nat) (u0 u1 u2 u3 : Value) : World := (((W.setCell ⟨B, 0, none⟩ u0).setCell ⟨B, 1, none⟩ u1).setCell ⟨B, 2, none⟩ u2).setCell ⟨B, 3, none⟩ u3
def cpI (wm : World) (p0 : Value) (B B2 : Nat) (s : St) (l : Array Bool) (a : Act) (W : World) : Prop :=
  l.size = 18 ∧ ∃ (y : Nat → Value) (lo hi : Nat → Nat) (W0 : World), a = cpA p0 B B2 y ∧ Below wm.heap.size wm W0 ∧ (∀ j, j < 17 → l.getD j false = true → cpF wm.heap.size B s l y lo hi W0 j) ∧
    ((l.getD 17 false = false ∧ W = W0) ∨ (l.getD 17 false = true ∧ (∀ j, j < 17 → l.getD j false = true) ∧ W = set4 W0 B2 (y 6) (y 10) (y 14) (y 18)))
theorem getD_tf {l : Array Bool} {i : Nat} (h : i < l.size) : l.getD i true = l.getD i false := by simp [Array.getD, h]
theorem getD_setF {l : Array Bool} {i j : Nat} (h : j ≠ i) : (l.setIfInBounds i true).getD j false = l.getD j false := by
  simp only [Array.getD, Array.size_setIfInBounds]
  split
  · rename_i hj
    simp only [Array.getInternal_eq_getElem]
    rw [Array.getElem_setIfInBounds_ne _ (Ne.symm h)]
  · rfl
theorem getD_setT {l : Array Bool} {i : Nat} (h : i < l.size) : (l.setIfInBounds i true).getD i false = true := by simp [Array.getD, h]
theorem cp_next {wm : World} {p0 : Value} {B B2 : Nat} {s : St} {l : Array Bool} {y : Nat → Value} {lo hi : Nat → Nat} {W0 : World} (hz : l.size = 18) (hb : Below wm.heap.size wm W0)
    (hF : ∀ j, j < 17 → l.getD j false = true → cpF wm.heap.size B s l y lo hi W0 j) (h17 : l.getD 17 false = false) {i : Nat} (hi17 : i < 17) (hun : l.getD i true = false)
    (v : Value) (lo' hi' : Nat → Nat) {a : Act} {W' : World} (ha : a = cpA p0 B B2 (updV y (i + 3) v)) (hbW : Below W0.heap.size W0 W') (hlh : ∀ r, i ≠ 4 * r + 3 → lo' r = lo r ∧ hi' r = hi r)
    (hN : cpF wm.heap.size B s (l.setIfInBounds i true) (updV y (i + 3) v) lo' hi' W' i) : cpI wm p0 B B2 s (l.setIfInBounds i true) a W' := by
  have hun' : l.getD i false = false := by rw [← getD_tf (by omega)]; exact hun
  refine ⟨by simpa using hz, updV y (i + 3) v, lo', hi', W', ha, hb.trans (hbW.mono hb.size), ?_, .inl ⟨by rw [getD_setF (by omega)]; exact h17, rfl⟩⟩
  intro j hj hl
  by_cases hji : j = i
  · subst hji; exact hN
  · rw [getD_setF hji] at hl
    exact cpF_keep hbW hun' (fun j hj => by simp only [updV]; rw [if_neg (by omega)]) hlh (fun j hj => getD_setF hj) j hji (hF j hj hl)

end Go.Proofs.YtjgfgbiohbgcaaaGreat
