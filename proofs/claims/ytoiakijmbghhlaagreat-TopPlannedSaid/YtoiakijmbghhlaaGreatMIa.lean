/- A region that draws its order, walked by an invariant: each operation that may come up keeps it. No function is named. Conditions: none. | A region that reads, makes a row of one, appends it to an empty row and lays it into a cell: walked by an invariant. No function is named. Conditions: none. -/
import Derived.Test.YtoiakijmbghhlaaGreatMBase
import Derived.Orders
import Derived.Test.YtoiakijmbghhlaaGreatOrw
namespace Go.Proofs.YtoiakijmbghhlaaGreat
open Go.RowKit
set_option linter.unusedVariables false
set_option linter.unusedSimpArgs false

section
variable {P : Program} {ops : Array Oper} {Q : Exit → Act → World → Prop} {md : Region.Mode}

def remL (n : Nat) (l : Array Bool) : Nat := (List.range n).countP fun i => !(l.getD i true)
theorem countP_lt {p q : Nat → Bool} : ∀ (xs : List Nat), (∀ x ∈ xs, q x = true → p x = true) → (∃ x ∈ xs, p x = true ∧ q x = false) → xs.countP q < xs.countP p
  | [], _, h => by obtain ⟨x, hx, _⟩ := h; cases hx
  | x :: r, h1, h2 => by
    have hr : r.countP q ≤ r.countP p := List.countP_mono_left (fun y hy => h1 y (List.mem_cons_of_mem _ hy))
    by_cases hx : p x = true ∧ q x = false
    · rw [List.countP_cons_of_pos hx.1, List.countP_cons_of_neg (by rw [hx.2]; simp)]; omega
    · obtain ⟨y, hy, hpy⟩ := h2
      have hyr : y ∈ r := by
        rcases List.mem_cons.1 hy with e | e
        · subst e; exact absurd hpy hx
        · exact e
      have ih := countP_lt r (fun z hz => h1 z (List.mem_cons_of_mem _ hz)) ⟨y, hyr, hpy⟩
      have hqx := h1 x (List.mem_cons_self ..)
      cases hq : q x
      · rw [List.countP_cons_of_neg (by rw [hq]; simp)]
        exact Nat.lt_of_lt_of_le ih (by cases hp : p x <;> simp [hp])
      · rw [List.countP_cons_of_pos hq, List.countP_cons_of_pos (hqx hq)]; omega

/-- No operation waits for a later one. -/
def backB (ops : Array Oper) : Bool := (List.range ops.size).all fun i => match ops[i]? with | some o => o.after.all fun e => decide (e.on < i) | none => true
theorem backB_spec (h : backB ops = true) {i : Nat} {o : Oper} (ho : ops[i]? = some o) (e : _) (he : e ∈ o.after) : e.on < i := by
  have hi : i < ops.size := (Array.getElem?_eq_some_iff.1 ho).1
  have h1 := List.all_eq_true.1 h i (List.mem_range.2 hi)
  rw [ho] at h1
  simp only at h1
  have h2 := Array.all_eq_true_iff_forall_mem.1 h1 e he
  simpa using h2

theorem ready_none (hb : backB ops = true) {l : Array Bool} (hs : l.size = ops.size) (h : Region.ready md ops l = []) : ∀ i, i < ops.size → l.getD i false = true := by
  intro i
  induction i using Nat.strongRecOn with
  | _ i ih =>
    intro hi
    cases hl : l.getD i false with
    | true => rfl
    | false =>
      exfalso
      have hi' : i < l.size := by omega
      have hm : i ∈ Region.ready md ops l := mem_ready.2 ⟨by simp only [Array.getD, hi', dite_true] at hl ⊢; exact hl, ops[i], by simp [hi], fun e he _ => ih e.on (backB_spec hb (by simp [hi]) e he) (by have := backB_spec hb (i := i) (o := ops[i]) (by simp [hi]) e he; omega)⟩
      rw [h] at hm
      cases hm

theorem wpAny_inv (I : Array Bool → Act → World → Prop) (hb : backB ops = true) (hs : ∀ l a w, I l a w → l.size = ops.size)
    (step : ∀ l a w i o, I l a w → ops[i]? = some o → l.getD i true = false → (∀ e ∈ o.after, Region.binds md e = true → l.getD e.on false = true) → wpOp P ops Q i (fun a' w' => I (l.setIfInBounds i true) a' w') a w)
    (fin : ∀ l a w, I l a w → (∀ i, i < ops.size → l.getD i false = true) → Q .normal a w) :
    ∀ (fuel : Nat) (l : Array Bool) (a : Act) (w : World), remL ops.size l ≤ fuel → I l a w → wpAny P md ops Q fuel l a w
  | 0, l, a, w, hr, hI => by
    have hz := hs l a w hI
    have hall : ∀ i, i < ops.size → l.getD i false = true := by
      intro i hi
      have h0 : remL ops.size l = 0 := by omega
      unfold remL at h0
      have h1 := List.countP_eq_zero.1 h0 i (List.mem_range.2 hi)
      have hi' : i < l.size := by omega
      simp only [Array.getD, hi', dite_true] at h1 ⊢
      simpa using h1
    refine ⟨?_, fin l a w hI hall⟩
    cases hrd : Region.ready md ops l with
    | nil => rfl
    | cons i r =>
      exfalso
      have hm : i ∈ Region.ready md ops l := by rw [hrd]; exact List.mem_cons_self ..
      obtain ⟨h1, o, ho, _⟩ := mem_ready.1 hm
      have hi : i < ops.size := (Array.getElem?_eq_some_iff.1 ho).1
      have h2 := hall i hi
      have hi' : i < l.size := by omega
      simp only [Array.getD, hi', dite_true] at h1 h2
      rw [h1] at h2; cases h2
  | fuel + 1, l, a, w, hr, hI => by
    have hz := hs l a w hI
    refine ⟨fun h => fin l a w hI (ready_none hb hz h), fun i hi => ?_⟩
    obtain ⟨h1, o, ho, h2⟩ := mem_ready.1 hi
    refine wpOp_mono (fun a' w' h' => wpAny_inv I hb hs step fin fuel _ a' w' ?_ h') (step l a w i o hI ho h1 h2)
    have hil : i < ops.size := (Array.getElem?_eq_some_iff.1 ho).1
    have hi' : i < l.size := by omega
    have : remL ops.size (l.setIfInBounds i true) < remL ops.size l := by
      refine countP_lt _ (fun x _ hx => ?_) ⟨i, List.mem_range.2 hil, by rw [h1]; rfl, ?_⟩
      · by_cases hxi : i = x
        · subst hxi
          simp [Array.getD, hi'] at hx
        · rw [getD_set_ne true hxi] at hx; exact hx
      · simp [Array.getD, hi']
    omega

/-- The same at the region. -/
theorem wp_region_inv {id : Nat} {a : Act} {w : World} (I : Array Bool → Act → World → Prop) (hm : P.follows .mixedOrders = true) (hb : backB ops = true) (hs : ∀ l a w, I l a w → l.size = ops.size)
    (step : ∀ l a w i o, I l a w → ops[i]? = some o → l.getD i true = false → (∀ e ∈ o.after, Region.binds .any e = true → l.getD e.on false = true) → wpOp P ops Q i (fun a' w' => I (l.setIfInBounds i true) a' w') a w)
    (fin : ∀ l a w, I l a w → (∀ i, i < ops.size → l.getD i false = true) → Q .normal a w)
    (h0 : I (Array.replicate ops.size false) a { w with drawn := w.drawn + 1 }) : (Code.region id ops true).wp P Q a w := by
  refine wp_region_any hm (wpAny_inv I hb hs step fin _ _ _ _ ?_ h0)
  unfold remL
  exact Nat.le_trans List.countP_le_length (by simp)
end

end Go.Proofs.YtoiakijmbghhlaaGreat

namespace Go.Proofs.YtoiakijmbghhlaaGreat
open Go.RowKit
set_option linter.unusedVariables false
set_option linter.unusedSimpArgs false

theorem gD_tf {l : Array Bool} {i : Nat} (h : i < l.size) : l.getD i true = l.getD i false := by simp [Array.getD, h]
theorem gD_setF {l : Array Bool} {i j : Nat} (h : j ≠ i) : (l.setIfInBounds i true).getD j false = l.getD j false := by
  simp only [Array.getD, Array.size_setIfInBounds]
  split
  · rename_i hj
    simp only [Array.getInternal_eq_getElem]
    rw [Array.getElem_setIfInBounds_ne _ (Ne.symm h)]
  · rfl
theorem gD_setT {l : Array Bool} {i : Nat} (h : i < l.size) : (l.setIfInBounds i true).getD i false = true := by simp [Array.getD, h]
def upY (y : Nat → Value) (i : Nat) (v : Value) : Nat → Value := fun j => if j = i then v else y j
/-- The appended row. -/
def PApp (enc : Value) (W6 W : World) (u : Value) : Prop := ∃ g c, u = .slice (some ⟨g, 0, none⟩) 1 c ∧ W6.heap.size ≤ g ∧ W.cell? ⟨g, 0, none⟩ = some enc
theorem PApp.mono {enc : Value} {W6 W W' : World} {u : Value} (h : PApp enc W6 W u) (hb : Below W.heap.size W W') : PApp enc W6 W' u := by
  obtain ⟨g, c, e, h1, h2⟩ := h
  exact ⟨g, c, e, h1, by rw [hb.cell (World.block_lt_of_cell? _ _ h2)]; exact h2⟩

/-- n operations; number b makes the row of one, number k appends it, the last one (number n) stores. -/
def pJ (n b k : Nat) (fr : (Nat → Value) → Act) (c : Nat → Value) (enc : Value) (T : TypeId) (W6 : World) (p : Addr) (l : Array Bool) (a : Act) (W : World) : Prop :=
  l.size = n + 1 ∧ ∃ y, a = fr y ∧ (∀ j, j < n → j ≠ k → l.getD j false = true → y j = c j) ∧
    ((l.getD n false = false ∧ Below W6.heap.size W6 W ∧ (l.getD b false = false → W.heap.size = W6.heap.size) ∧ (l.getD b false = true → l.getD k false = false → W.heap[W6.heap.size]? = some (.cells #[enc] T (0, 0))) ∧ (l.getD k false = true → PApp enc W6 W (y k))) ∨
     (l.getD n false = true ∧ (∀ j, j < n → l.getD j false = true) ∧ ∃ V, W = V.setCell p (y k) ∧ Below W6.heap.size W6 V ∧ PApp enc W6 V (y k)))
theorem yielded_of {ops : Array Oper} {tmps : Array Value} {d t : Nat} {b : Bool} (h1 : (ops[d]?).bind (·.dst) = some t) (h2 : tmps[t]? = some (.bool b)) : yielded ops tmps d = some b := by
  simp [yielded, h1, h2]
theorem wanted_of {o : Oper} {f : Nat → Option Bool} {d : Nat} {b : Bool} (ho : o.guard = some (d, b)) (h : f d = some b) : Region.wanted o f = true := by
  simp [Region.wanted, ho, h]
section
variable {n b k : Nat} {fr : (Nat → Value) → Act} {c : Nat → Value} {enc : Value} {T : TypeId} {W6 W W' : World} {p : Addr} {l : Array Bool} {y : Nat → Value} {i : Nat}
theorem pJ_quiet (hz : l.size = n + 1) (hV : ∀ j, j < n → j ≠ k → l.getD j false = true → y j = c j) (hn : l.getD n false = false) (hb : Below W6.heap.size W6 W) (h1 : l.getD b false = false → W.heap.size = W6.heap.size)
    (h2 : l.getD b false = true → l.getD k false = false → W.heap[W6.heap.size]? = some (.cells #[enc] T (0, 0))) (h3 : l.getD k false = true → PApp enc W6 W (y k)) (hi : i < n) (hib : i ≠ b) (hik : i ≠ k) {a : Act} (ha : a = fr (upY y i (c i))) :
    pJ n b k fr c enc T W6 p (l.setIfInBounds i true) a W := by
  refine ⟨by simpa using hz, upY y i (c i), ha, fun j hj hjk hl => ?_, .inl ⟨by rw [gD_setF (by omega)]; exact hn, hb, fun h => h1 (by rwa [gD_setF (Ne.symm hib)] at h), fun h h' => h2 (by rwa [gD_setF (Ne.symm hib)] at h) (by rwa [gD_setF (Ne.symm hik)] at h'), fun h => ?_⟩⟩
  · unfold upY
    by_cases hji : j = i
    · rw [if_pos hji, hji]
    · rw [if_neg hji]
      rw [gD_setF hji] at hl
      exact hV j hj hjk hl
  · unfold upY
    rw [if_neg (Ne.symm hik)]
    exact h3 (by rwa [gD_setF (Ne.symm hik)] at h)
theorem pJ_build (hz : l.size = n + 1) (hV : ∀ j, j < n → j ≠ k → l.getD j false = true → y j = c j) (hn : l.getD n false = false) (hb : Below W6.heap.size W6 W) (h1 : W.heap.size = W6.heap.size)
    (hk : l.getD k false = false) (hbn : b < n) (hbk : b ≠ k) (hc : c b = .slice (some ⟨W6.heap.size, 0, none⟩) 1 1) {a : Act} (ha : a = fr (upY y b (.slice (some ⟨W.heap.size, 0, none⟩) 1 1))) :
    pJ n b k fr c enc T W6 p (l.setIfInBounds b true) a (W.alloc (.cells #[enc] T)) := by
  refine ⟨by simpa using hz, _, ha, fun j hj hjk hl => ?_, .inl ⟨by rw [gD_setF (by omega)]; exact hn, hb.alloc hb.size _, fun h => ?_, fun _ _ => ?_, fun h => ?_⟩⟩
  · unfold upY
    by_cases hji : j = b
    · rw [if_pos hji, hji, hc, h1]
    · rw [if_neg hji]
      rw [gD_setF hji] at hl
      exact hV j hj hjk hl
  · rw [gD_setT (by omega)] at h; cases h
  · rw [← h1]; exact heap_alloc_new W _
  · rw [gD_setF (Ne.symm hbk), hk] at h; cases h
theorem pJ_app (hz : l.size = n + 1) (hV : ∀ j, j < n → j ≠ k → l.getD j false = true → y j = c j) (hn : l.getD n false = false) (hb : Below W6.heap.size W6 W) (hbl : l.getD b false = true) (hkn : k < n) (hbk : b ≠ k)
    (hbW : Below W6.heap.size W W') {u : Value} (hu : PApp enc W6 W' u) {a : Act} (ha : a = fr (upY y k u)) :
    pJ n b k fr c enc T W6 p (l.setIfInBounds k true) a W' := by
  refine ⟨by simpa using hz, _, ha, fun j hj hjk hl => ?_, .inl ⟨by rw [gD_setF (by omega)]; exact hn, hb.trans hbW, fun h => ?_, fun _ h => ?_, fun _ => ?_⟩⟩
  · unfold upY
    rw [if_neg hjk]
    rw [gD_setF hjk] at hl
    exact hV j hj hjk hl
  · rw [gD_setF hbk, hbl] at h; cases h
  · rw [gD_setT (by omega)] at h; cases h
  · unfold upY
    rw [if_pos rfl]; exact hu
theorem pJ_store (hz : l.size = n + 1) (hV : ∀ j, j < n → j ≠ k → l.getD j false = true → y j = c j) (hb : Below W6.heap.size W6 W) (hu : PApp enc W6 W (y k)) (hall : ∀ j, j < n → l.getD j false = true) {a : Act} (ha : a = fr y) :
    pJ n b k fr c enc T W6 p (l.setIfInBounds n true) a (W.setCell p (y k)) := by
  refine ⟨by simpa using hz, y, ha, fun j hj hjk hl => ?_, .inr ⟨gD_setT (by omega), fun j hj => by rw [gD_setF (by omega)]; exact hall j hj, W, rfl, hb, hu⟩⟩
  rw [gD_setF (by omega)] at hl
  exact hV j hj hjk hl
theorem pJ_start (fr : (Nat → Value) → Act) (W6 : World) (hb : Below W6.heap.size W6 W) (hs : W.heap.size = W6.heap.size) (y : Nat → Value) : pJ n b k fr c enc T W6 p (Array.replicate (n + 1) false) (fr y) W := by
  have h0 : ∀ j, (Array.replicate (n + 1) false).getD j false = false := fun j => by
    simp only [Array.getD]
    split <;> simp
  refine ⟨by simp, y, rfl, fun j _ _ h => ?_, .inl ⟨h0 n, hb, fun _ => hs, fun h => ?_, fun h => ?_⟩⟩
  · rw [h0] at h; cases h
  · rw [h0] at h; cases h
  · rw [h0] at h; cases h
end

end Go.Proofs.YtoiakijmbghhlaaGreat
