/- The empty state of a network: what the region of storage.Empty that makes its lists leaves. Conditions: none. | The empty state of a network: storage.Empty. Conditions: the argument reads as data. -/
import Derived.Test.YtjgfgbiohbgcaaaGreatRfi
import Derived.Deep.CutRange
namespace Go.Proofs.YtjgfgbiohbgcaaaGreat
open Go.RowKit
set_option linter.unusedVariables false
set_option linter.unusedSimpArgs false

section
variable {α : Type} {P : Program} {o : Oper} {a : Act} {K : Act → World → Prop} {Q : Exit → Act → World → Prop}
/-- 'make([]T, n)', T of one cell, as a step of a region. -/
theorem wp_mk (w : World) (l c : Operand) (t : TypeId) (hop : o.op = Op.makeSlice t l c) (base : Nat) (e : TypeId) (z : Value) (bytes : Nat) (ht : P.underlying t = some (.slice e))
    (hinfo : (P.info? e).map (fun i => (i.zero, i.size, i.bytes)) = some (some z, 1, bytes)) (enc : α → List Value) (z0 : α) (hz0 : enc z0 = [z]) (hzc : z.cells = #[z])
    (n : Nat) (hl : a.eval l = .int .i64 n) (hc : a.eval c = .int .i64 n) (hn : n < 2147483648) (hby : bytes ≤ 4096) (hbase : base ≤ w.heap.size)
    (hK : ∀ w', Own base e enc 1 w' (.slice (some ⟨w.heap.size, 0, none⟩) n n) (List.replicate n z0) → Below w.heap.size w w' → w.heap.size < w'.heap.size → K (a.put o.dst (.slice (some ⟨w.heap.size, 0, none⟩) n n)) w') :
    o.wp P a w K Q := by
  obtain ⟨i, hi, hi0, hi1, hi2⟩ := info_parts hinfo
  have hb32 : bytes * n ≤ 4096 * 2147483648 := Nat.mul_le_mul hby (by omega)
  obtain ⟨w', hrun, hown, hgr⟩ := run_make_full (P := P) w base t e i z 1 ht hi hi0 hi1 .i64 .i64 n (by rw [hi2]; omega) (by simp only [maxLen]; omega) hbase
  rw [hzc, Nat.mul_one, toList_madeCells_one] at hown
  have hflat : (List.replicate n z0).flatMap enc = List.replicate n z := by
    clear hown hgr hK hl hc hn hb32 hrun
    induction n with
    | zero => rfl
    | succ n ih => simp only [List.replicate_succ, List.flatMap_cons, hz0, ih]; rfl
  have hO : Own base e enc 1 w' (.slice (some ⟨w.heap.size, 0, none⟩) n n) (List.replicate n z0) := by
    unfold Own
    rw [hflat, List.length_replicate]
    exact hown
  have hlt : w.heap.size < w'.heap.size := by
    rcases hown.2 with ⟨h0, _⟩ | ⟨g, cap, cur, h0, _, hg', _⟩
    · simp at h0
    · simp only [Value.slice.injEq, Option.some.injEq, Addr.mk.injEq] at h0
      obtain ⟨⟨rfl, _⟩, _⟩ := h0
      exact (Array.getElem?_eq_some_iff.1 hg').1
  unfold Oper.wp
  simp [execOp, hop, hl, hc, hrun, Result.andThen]
  exact hK w' hO ((Below.refl _ _).grown hgr (Nat.le_refl _) (fun k hk => by cases hk)) hlt
end

/-- What operation j of the region has left. -/
def eF (n0 B nn mm : Nat) (na la : Value) (l : Array Bool) (y : Nat → Value) (G : Nat → Nat) (W : World) : Nat → Prop
  | 0 => y 0 = .pointer (some ⟨B, 0, none⟩)
  | 1 => y 1 = na
  | 2 => y 2 = .int .i64 nn
  | 3 => y 3 = .slice (some ⟨G 3, 0, none⟩) nn nn ∧ Own n0 3 eInt 1 W (y 3) (List.replicate nn 0) ∧ n0 ≤ G 3 ∧ G 3 < W.heap.size
  | 4 => y 4 = .pointer (some ⟨B, 0, none⟩)
  | 5 => y 5 = na
  | 6 => y 6 = .int .i64 nn
  | 7 => y 7 = .slice (some ⟨G 7, 0, none⟩) nn nn ∧ Own n0 3 eInt 1 W (y 7) (List.replicate nn 0) ∧ n0 ≤ G 7 ∧ G 7 < W.heap.size
  | 8 => y 8 = .pointer (some ⟨B, 1, none⟩)
  | 9 => y 9 = la
  | 10 => y 10 = .int .i64 mm
  | 11 => y 11 = .slice (some ⟨G 11, 0, none⟩) mm mm ∧ Own n0 4 eBool 1 W (y 11) (List.replicate mm false) ∧ n0 ≤ G 11 ∧ G 11 < W.heap.size
  | 12 => (l.getD 3 false = true ∧ l.getD 7 false = true ∧ l.getD 11 false = true) ∧ y 12 = .agg #[y 3, y 7, .slice none 0 0, y 11]
  | 13 => y 13 = .pointer (some ⟨G 13, 0, none⟩) ∧ OutBx W (G 13) nilSt ∧ n0 ≤ G 13
  | _ => True

theorem eF_keep {n0 B nn mm : Nat} {na la : Value} {l l' : Array Bool} {y y' : Nat → Value} {G G' : Nat → Nat} {W W' : World} {i : Nat} (hb : Below W.heap.size W W') (hun : l.getD i false = false)
    (hy : ∀ j, j ≠ i → y' j = y j) (hG : ∀ j, j ≠ i → G' j = G j) (hl : ∀ j, j ≠ i → l'.getD j false = l.getD j false) :
    ∀ j, j ≠ i → eF n0 B nn mm na la l y G W j → eF n0 B nn mm na la l' y' G' W' j := by
  have hno : ∀ j, l.getD j false = true → j ≠ i := fun j h e => by subst e; rw [hun] at h; cases h
  have hs := hb.size
  intro j hj h
  match j, hj, h with
  | 0, hj, h => exact (hy 0 hj).trans h
  | 1, hj, h => exact (hy 1 hj).trans h
  | 2, hj, h => exact (hy 2 hj).trans h
  | 3, hj, h =>
    show y' 3 = _ ∧ Own _ _ _ _ W' (y' 3) _ ∧ n0 ≤ G' 3 ∧ G' 3 < _
    rw [hy 3 hj, hG 3 hj]
    exact ⟨h.1, h.2.1.below hb, h.2.2.1, Nat.lt_of_lt_of_le h.2.2.2 hs⟩
  | 4, hj, h => exact (hy 4 hj).trans h
  | 5, hj, h => exact (hy 5 hj).trans h
  | 6, hj, h => exact (hy 6 hj).trans h
  | 7, hj, h =>
    show y' 7 = _ ∧ Own _ _ _ _ W' (y' 7) _ ∧ n0 ≤ G' 7 ∧ G' 7 < _
    rw [hy 7 hj, hG 7 hj]
    exact ⟨h.1, h.2.1.below hb, h.2.2.1, Nat.lt_of_lt_of_le h.2.2.2 hs⟩
  | 8, hj, h => exact (hy 8 hj).trans h
  | 9, hj, h => exact (hy 9 hj).trans h
  | 10, hj, h => exact (hy 10 hj).trans h
  | 11, hj, h =>
    show y' 11 = _ ∧ Own _ _ _ _ W' (y' 11) _ ∧ n0 ≤ G' 11 ∧ G' 11 < _
    rw [hy 11 hj, hG 11 hj]
    exact ⟨h.1, h.2.1.below hb, h.2.2.1, Nat.lt_of_lt_of_le h.2.2.2 hs⟩
  | 12, hj, h =>
    obtain ⟨⟨h0, h1, h2⟩, h3⟩ := h
    show _ ∧ y' 12 = .agg #[y' 3, y' 7, .slice none 0 0, y' 11]
    rw [hy 3 (hno 3 h0), hy 7 (hno 7 h1), hy 11 (hno 11 h2), hy 12 hj, hl 3 (hno 3 h0), hl 7 (hno 7 h1), hl 11 (hno 11 h2)]
    exact ⟨⟨h0, h1, h2⟩, h3⟩
  | 13, hj, h =>
    show y' 13 = _ ∧ OutBx W' (G' 13) nilSt ∧ n0 ≤ G' 13
    rw [hy 13 hj, hG 13 hj]
    exact ⟨h.1, h.2.1.mono hb, h.2.2⟩
  | n + 14, hj, h => exact trivial

def mkB (i : Nat) : Bool := i == 3 || i == 7 || i == 11 || i == 13
theorem eF_G {n0 B nn mm : Nat} {na la : Value} {l : Array Bool} {y : Nat → Value} {G : Nat → Nat} {W : World} {i : Nat} (hi : mkB i = true) (h : eF n0 B nn mm na la l y G W i) : G i < W.heap.size := by
  simp only [mkB, Bool.or_eq_true, beq_iff_eq] at hi
  rcases hi with ((rfl | rfl) | rfl) | rfl
  · exact h.2.2.2
  · exact h.2.2.2
  · exact h.2.2.2
  · exact h.2.1.lt

/-- The frame. -/
abbrev eA (p0 : Value) (B B2 : Nat) (s3 s5 s6 s7 s8 : Value) (y : Nat → Value) : Act :=
  ⟨#[p0, .pointer (some ⟨B, 0, none⟩), .pointer (some ⟨B2, 0, none⟩), s3, y 13, s5, s6, s7, s8, y 0, y 1, y 2, y 3, y 4, y 5, y 6, y 7, y 8, y 9, y 10, y 11, y 12, undef, undef, undef, undef, undef, undef, undef, undef, undef, undef, undef, undef], []⟩

def eI (wm : World) (fr : (Nat → Value) → Act) (B nn mm : Nat) (na la : Value) (l : Array Bool) (a : Act) (W : World) : Prop :=
  l.size = 15 ∧ ∃ (y : Nat → Value) (G : Nat → Nat) (W0 : World), a = fr y ∧ Below wm.heap.size wm W0 ∧ (∀ j, j < 14 → l.getD j false = true → eF wm.heap.size B nn mm na la l y G W0 j) ∧
    (∀ i j, mkB i = true → mkB j = true → i ≠ j → l.getD i false = true → l.getD j false = true → G i ≠ G j) ∧
    ((l.getD 14 false = false ∧ W = W0) ∨ (l.getD 14 false = true ∧ (∀ j, j < 14 → l.getD j false = true) ∧ W = set4 W0 (G 13) (y 3) (y 7) (.slice none 0 0) (y 11)))

theorem e_next {wm : World} {fr : (Nat → Value) → Act} {B nn mm : Nat} {na la : Value} {l : Array Bool} {y : Nat → Value} {G : Nat → Nat} {W0 : World} (hz : l.size = 15) (hb : Below wm.heap.size wm W0)
    (hF : ∀ j, j < 14 → l.getD j false = true → eF wm.heap.size B nn mm na la l y G W0 j)
    (hD : ∀ i j, mkB i = true → mkB j = true → i ≠ j → l.getD i false = true → l.getD j false = true → G i ≠ G j)
    (h14 : l.getD 14 false = false) {i : Nat} (hi14 : i < 14) (hun : l.getD i true = false)
    (v : Value) (Gi : Nat) (hGi : mkB i = true → Gi = W0.heap.size) {a : Act} {W' : World} (ha : a = fr (updV y i v)) (hbW : Below W0.heap.size W0 W')
    (hN : eF wm.heap.size B nn mm na la (l.setIfInBounds i true) (updV y i v) (fun j => if j = i then Gi else G j) W' i) : eI wm fr B nn mm na la (l.setIfInBounds i true) a W' := by
  have hun' : l.getD i false = false := by rw [← getD_tf (by omega)]; exact hun
  refine ⟨by simpa using hz, updV y i v, fun j => if j = i then Gi else G j, W', ha, hb.trans (hbW.mono hb.size), ?_, ?_, .inl ⟨by rw [getD_setF (by omega)]; exact h14, rfl⟩⟩
  · intro j hj hl
    by_cases hji : j = i
    · subst hji; exact hN
    · rw [getD_setF hji] at hl
      exact eF_keep hbW hun' (fun j hj => by simp only [updV]; rw [if_neg hj]) (fun j hj => by rw [if_neg hj]) (fun j hj => getD_setF hj) j hji (hF j hj hl)
  · have hlt : ∀ j, mkB j = true → j < 14 := fun j h => by simp [mkB] at h; omega
    intro p q hp hq hpq lp lq
    show (if p = i then Gi else G p) ≠ (if q = i then Gi else G q)
    by_cases h1 : p = i
    · subst h1
      rw [if_pos rfl, if_neg (Ne.symm hpq), hGi hp]
      rw [getD_setF (Ne.symm hpq)] at lq
      have := eF_G hq (hF q (hlt q hq) lq)
      omega
    · rw [if_neg h1]
      rw [getD_setF h1] at lp
      by_cases h2 : q = i
      · subst h2
        rw [if_pos rfl, hGi hq]
        have := eF_G hp (hF p (hlt p hp) lp)
        omega
      · rw [if_neg h2]
        rw [getD_setF h2] at lq
        exact hD p q hp hq hpq lp lq

/-- Behind the region: a box with three rows of the call's own, all below n1. -/
structure EmpR (n0 n1 : Nat) (W : World) (B4 : Nat) (uV uP uS uO : Value) (nn mm : Nat) : Prop where
  V : Own n0 3 eInt 1 W uV (List.replicate nn 0)
  P : Own n0 3 eInt 1 W uP (List.replicate nn 0)
  O : Own n0 4 eBool 1 W uO (List.replicate mm false)
  oV : ∀ g, uV.ownBlock = some g → g ≠ B4 ∧ g < n1
  oP : ∀ g, uP.ownBlock = some g → g ≠ B4 ∧ g < n1
  oO : ∀ g, uO.ownBlock = some g → g ≠ B4 ∧ g < n1
  c0 : W.cell? ⟨B4, 0, none⟩ = some uV
  c1 : W.cell? ⟨B4, 1, none⟩ = some uP
  c2 : W.cell? ⟨B4, 2, none⟩ = some uS
  c3 : W.cell? ⟨B4, 3, none⟩ = some uO
  free : ∀ j, W.frozen? ⟨B4, j, none⟩ = false
  lo : n0 ≤ B4
  hi : B4 < n1
theorem own_low {α : Type} {base n1 : Nat} {e : TypeId} {enc : α → List Value} {k : Nat} {w w' : World} {v : Value} {xs : List α} (h : Own base e enc k w v xs) (hn : ∀ g, v.ownBlock = some g → g < n1) (hb : Below n1 w w') : Own base e enc k w' v xs := by
  refine ⟨h.1, ?_⟩
  rcases h.2 with h0 | ⟨g, cap, cur, rfl, hbg, hg, r⟩
  · exact .inl h0
  · exact .inr ⟨g, cap, cur, rfl, hbg, (hb.block g (hn g rfl)).trans hg, r⟩
theorem EmpR.mono {n0 n1 : Nat} {W W' : World} {B4 : Nat} {uV uP uS uO : Value} {nn mm : Nat} (h : EmpR n0 n1 W B4 uV uP uS uO nn mm) (hb : Below n1 W W') : EmpR n0 n1 W' B4 uV uP uS uO nn mm := by
  have hc : ∀ {j : Nat} {v : Value}, W.cell? ⟨B4, j, none⟩ = some v → W'.cell? ⟨B4, j, none⟩ = some v := fun h2 => (hb.cell (p := ⟨B4, _, none⟩) h.hi).trans h2
  exact ⟨own_low h.V (fun g hg => (h.oV g hg).2) hb, own_low h.P (fun g hg => (h.oP g hg).2) hb, own_low h.O (fun g hg => (h.oO g hg).2) hb, h.oV, h.oP, h.oO, hc h.c0, hc h.c1, hc h.c2, hc h.c3,
    fun j => (hb.frozen (p := ⟨B4, j, none⟩) h.hi).trans (h.free j), h.lo, h.hi⟩
theorem outbx_far {w : World} {B : Nat} {s : St} (h : OutBx w B s) (a : Addr) (u : Value) (ha : B ≠ a.block) : OutBx (w.setCell a u) B s :=
  ⟨⟨cell_far h.cells.c0 a u ha, cell_far h.cells.c1 a u ha, cell_far h.cells.c2 a u ha, cell_far h.cells.c3 a u ha⟩, fun j => (World.frozen?_of_block (w := w) (Below.heap_setCell _ _ _ _ ha)).trans (h.free j)⟩
theorem outbx_low {w w' : World} {B n1 : Nat} {s : St} (h : OutBx w B s) (hB : B < n1) (hb : Below n1 w w') : OutBx w' B s := by
  have hc : ∀ {j : Nat} {v : Value}, w.cell? ⟨B, j, none⟩ = some v → w'.cell? ⟨B, j, none⟩ = some v := fun h2 => (hb.cell (p := ⟨B, _, none⟩) hB).trans h2
  exact ⟨⟨hc h.cells.c0, hc h.cells.c1, hc h.cells.c2, hc h.cells.c3⟩, fun j => (hb.frozen (p := ⟨B, j, none⟩) hB).trans (h.free j)⟩
theorem own_kept {α : Type} {base : Nat} {e : TypeId} {enc : α → List Value} {k : Nat} {w w' : World} {v : Value} {xs : List α} (h : Own base e enc k w v xs) {row : Option Nat} (hg : w.grownBy w' row) (hne : ∀ g, v.ownBlock = some g → row ≠ some g) : Own base e enc k w' v xs := by
  refine World.ownsRow.kept h hg ?_
  cases hv : v.ownBlock with
  | none => exact .inl rfl
  | some g => exact .inr (fun e => hne g hv e.symm)
theorem grown_set (w : World) (a : Addr) (u : Value) : w.grownBy (w.setCell a u) (some a.block) :=
  ⟨rfl, rfl, rfl, by simp [World.setCell], fun j _ hne => Below.heap_setCell _ _ _ _ (fun e => hne (by rw [e]))⟩
theorem own_set {α : Type} {base : Nat} {e : TypeId} {enc : α → List Value} {k : Nat} {w : World} {v : Value} {xs : List α} (h : Own base e enc k w v xs) (a : Addr) (u : Value) (hne : v.ownBlock ≠ some a.block) : Own base e enc k (w.setCell a u) v xs :=
  own_kept h (grown_set w a u) (fun g hg e => hne (by rw [hg, ← e]))
theorem own_set4 {α : Type} {base n : Nat} {e : TypeId} {enc : α → List Value} {k : Nat} {w : World} {v : Value} {xs : List α} (h : Own base e enc k w v xs) (hn : n < base) (u0 u1 u2 u3 : Value) : Own base e enc k (set4 w n u0 u1 u2 u3) v xs := by
  have hx : v.ownBlock ≠ some n := fun e => by have := (h.lt _ e).1; omega
  exact own_set (own_set (own_set (own_set h ⟨n, 0, none⟩ u0 hx) ⟨n, 1, none⟩ u1 hx) ⟨n, 2, none⟩ u2 hx) ⟨n, 3, none⟩ u3 hx
theorem EmpR.store {n0 n1 : Nat} {W : World} {B4 : Nat} {uV uP uS uO : Value} {nn mm : Nat} (h : EmpR n0 n1 W B4 uV uP uS uO nn mm) (u : Value) : EmpR n0 n1 (W.setCell ⟨B4, 2, none⟩ u) B4 uV uP u uO nn mm :=
  ⟨own_set h.V _ _ (fun e => (h.oV _ e).1 rfl), own_set h.P _ _ (fun e => (h.oP _ e).1 rfl), own_set h.O _ _ (fun e => (h.oO _ e).1 rfl), h.oV, h.oP, h.oO, by simp [go_sem, h.c0], by simp [go_sem, h.c1], by simp [go_sem, h.c2], by simp [go_sem, h.c3],
    fun j => by rw [World.frozen?_setCell]; exact h.free j, h.lo, h.hi⟩
theorem e_done {wm : World} {B nn mm : Nat} {na la : Value} {l : Array Bool} {y : Nat → Value} {G : Nat → Nat} {W0 : World} (hb : Below wm.heap.size wm W0)
    (hF : ∀ j, j < 14 → l.getD j false = true → eF wm.heap.size B nn mm na la l y G W0 j)
    (hD : ∀ i j, mkB i = true → mkB j = true → i ≠ j → l.getD i false = true → l.getD j false = true → G i ≠ G j) (hall : ∀ j, j < 14 → l.getD j false = true) :
    EmpR wm.heap.size (set4 W0 (G 13) (y 3) (y 7) (.slice none 0 0) (y 11)).heap.size (set4 W0 (G 13) (y 3) (y 7) (.slice none 0 0) (y 11)) (G 13) (y 3) (y 7) (.slice none 0 0) (y 11) nn mm ∧ Below wm.heap.size wm (set4 W0 (G 13) (y 3) (y 7) (.slice none 0 0) (y 11)) := by
  have f3 := hF 3 (by omega) (hall 3 (by omega))
  have f7 := hF 7 (by omega) (hall 7 (by omega))
  have f11 := hF 11 (by omega) (hall 11 (by omega))
  have f13 := hF 13 (by omega) (hall 13 (by omega))
  have d3 := hD 3 13 rfl rfl (by omega) (hall 3 (by omega)) (hall 13 (by omega))
  have d7 := hD 7 13 rfl rfl (by omega) (hall 7 (by omega)) (hall 13 (by omega))
  have d11 := hD 11 13 rfl rfl (by omega) (hall 11 (by omega)) (hall 13 (by omega))
  obtain ⟨_, ⟨⟨o0, o1, o2, o3⟩, of⟩, hlo⟩ := f13
  have hlt := eF_G (i := 13) rfl (hF 13 (by omega) (hall 13 (by omega)))
  have n3 : (y 3).ownBlock ≠ some (G 13) := by rw [f3.1]; simpa [Value.ownBlock] using d3
  have n7 : (y 7).ownBlock ≠ some (G 13) := by rw [f7.1]; simpa [Value.ownBlock] using d7
  have n11 : (y 11).ownBlock ≠ some (G 13) := by rw [f11.1]; simpa [Value.ownBlock] using d11
  simp only [vSl, nilSt] at o0 o1 o2 o3
  have ks : ∀ {α : Type} {e : TypeId} {enc : α → List Value} {k : Nat} {v : Value} {xs : List α}, Own wm.heap.size e enc k W0 v xs → v.ownBlock ≠ some (G 13) → Own wm.heap.size e enc k (set4 W0 (G 13) (y 3) (y 7) (.slice none 0 0) (y 11)) v xs :=
    fun h hne => own_set (own_set (own_set (own_set h _ _ hne) _ _ hne) _ _ hne) _ _ hne
  have hsz : (set4 W0 (G 13) (y 3) (y 7) (.slice none 0 0) (y 11)).heap.size = W0.heap.size := by simp [set4, World.setCell]
  refine ⟨⟨ks f3.2.1 n3, ks f7.2.1 n7, ks f11.2.1 n11, fun g hg => ⟨fun e => n3 (by rw [hg, e]), by rw [hsz]; exact (f3.2.1.lt g hg).2⟩, fun g hg => ⟨fun e => n7 (by rw [hg, e]), by rw [hsz]; exact (f7.2.1.lt g hg).2⟩, fun g hg => ⟨fun e => n11 (by rw [hg, e]), by rw [hsz]; exact (f11.2.1.lt g hg).2⟩, ?_, ?_, ?_, ?_, fun j => ?_, hlo, by simpa [set4, World.setCell] using hlt⟩, set4_bel hb hlo _ _ _ _⟩
  · simp [set4, go_sem, o0]
  · simp [set4, go_sem, o1]
  · simp [set4, go_sem, o2]
  · simp [set4, go_sem, o3]
  · simp only [set4, World.frozen?_setCell]; exact of j

end Go.Proofs.YtjgfgbiohbgcaaaGreat

namespace Go.Proofs.YtjgfgbiohbgcaaaGreat
open Go.RowKit
set_option linter.unusedVariables false
set_option linter.unusedSimpArgs false

def emptyL (n : Net) : St4 := (List.replicate n.Ns.xs.length 0, List.replicate n.Ns.xs.length 0, List.replicate n.Ls.xs.length 1000, List.replicate n.Ls.xs.length false)
def emptyM (n : Net) : St4 × Int := if netB n = false then (noSt, 1) else (emptyL n, 0)

set_option maxRecDepth 100000 in
set_option maxHeartbeats 16000000 in
theorem sempty_any (n : Net) (w : World) (hg : gNet w n) : Calls Tryz.prog 26 #[vNet n] w fun e w' =>
    (∃ s', e = .returned (.tuple #[vSt s', .int .i64 (emptyM n).2]) ∧ gSt w' s' ∧ stL s' = (emptyM n).1) ∧ Below w.heap.size w w' := by
  obtain ⟨⟨na, nc, nxs⟩, ⟨la, lc, lxs⟩⟩ := n
  have hb0 : Below w.heap.size w ((w.alloc (.cells #[.slice na nxs.length nc, .slice la lxs.length lc] 42)).alloc (.cells #[.slice none 0 0, .slice none 0 0, .slice none 0 0, .slice none 0 0] 54)) := ((Below.refl _ _).alloc (Nat.le_refl _) _).alloc (by simp) _
  have HO : Hid (OutBx ((w.alloc (.cells #[.slice na nxs.length nc, .slice la lxs.length lc] 42)).alloc (.cells #[.slice none 0 0, .slice none 0 0, .slice none 0 0, .slice none 0 0] 54)) (w.heap.size + 1) nilSt) := by
    have h := OutBx.new (w.alloc (.cells #[.slice na nxs.length nc, .slice la lxs.length lc] 42)) nilSt 54
    rw [show (w.alloc (.cells #[.slice na nxs.length nc, .slice la lxs.length lc] 42)).heap.size = w.heap.size + 1 from by simp] at h
    exact Lib.hid h
  have hva := nvalid_any ⟨⟨na, nc, nxs⟩, ⟨la, lc, lxs⟩⟩ _ (rdNet.mono hg hb0)
  obtain ⟨⟨R, E⟩, hres⟩ : ∃ r, emptyM ⟨⟨na, nc, nxs⟩, ⟨la, lc, lxs⟩⟩ = r := ⟨_, rfl⟩
  rw [hres]
  unfold emptyM at hres
  cases hnv : netB ⟨⟨na, nc, nxs⟩, ⟨la, lc, lxs⟩⟩
  · rw [hnv] at hva hres
    rw [if_pos rfl] at hres
    simp only [noSt, Prod.mk.injEq] at hres
    obtain ⟨rfl, rfl⟩ := hres
    clear hg hnv
    simp only [vNet, vSl, vSt] at hva ⊢
    go_enter Tryz.func26, Tryz.ntmps26
    go_wp2_with fail
    refine Calls.go hb0 hva ?_
    rintro e w1 rfl hb1' hb1
    obtain ⟨⟨o0, o1, o2, o3⟩, of⟩ := HO.out.mono hb1'
    have of0 := of 0
    have of1 := of 1
    have of2 := of 2
    have of3 := of 3
    clear of
    simp only [vSl, nilSt] at o0 o1 o2 o3
    go_wp2_with fail
    refine bodyPost_ret (v := .tuple #[.agg #[.slice none 0 0, .slice none 0 0, .slice none 0 0, .slice none 0 0], .int .i64 1]) (by simp (maxDischargeDepth := 9) [results, Tryz.results26, go_sem, o0, o1, o2, o3]) rfl ⟨⟨nilSt, rfl, gSt_nil _, rfl⟩, by repeat' (first | exact Below.refl _ _ | assumption | refine Below.more ?_ ?_ _ | refine Below.alloc ?_ ?_ _ | refine Below.drew ?_ | refine below_drewN ?_ _ | refine Below.setCell ?_ ?_ _ | exact Below.size (by assumption) | (simp [go_sem, size_more]; done) | (simp [go_sem, size_more]; omega))⟩
  · rw [hnv] at hva hres
    rw [if_neg (by simp)] at hres
    simp only [emptyL, Prod.mk.injEq] at hres
    obtain ⟨rfl, rfl⟩ := hres
    have hln : nxs.length ≤ 300 ∧ lxs.length ≤ 400 := by simp [netB] at hnv; omega
    have HE := Lib.hid (boxNet w · 42 ⟨⟨na, nc, nxs⟩, ⟨la, lc, lxs⟩⟩ _ rfl _ rfl)
    clear hg hnv
    simp only [vNet, vSl, vSt] at hva ⊢
    go_enter Tryz.func26, Tryz.ntmps26
    go_wp2_with fail
    refine Calls.go hb0 hva ?_
    rintro e w1 rfl hb1' hb1
    go_wp2_with fail
    have HO1 := Lib.hid (HO.out.mono hb1')
    obtain ⟨q0, q1⟩ := HE.out w1 (((Below.refl _ _).alloc (by simp) _).trans (hb1'.mono (by simp)))
    simp only [vSl] at q0 q1
    clear hva hb1' HO HE hb0
    generalize w1 = wm at *
    refine wp_region_inv (eI wm (eA (.agg #[.slice na nxs.length nc, .slice la lxs.length lc]) w.heap.size (w.heap.size + 1) (.int .i64 0) (.agg #[.slice na nxs.length nc, .slice la lxs.length lc]) (.bool true) (.bool false) undef) w.heap.size nxs.length lxs.length (.slice na nxs.length nc) (.slice la lxs.length lc)) (by kernel_rfl) (by kernel_rfl) (fun l a W h => h.1) ?step ?fin ?start
    case start =>
      refine ⟨by simp, fun _ => undef, fun _ => 0, _, rfl, Below.drew (Below.refl _ _), fun j hj h => ?_, fun i j _ _ _ h => ?_, .inl ⟨by simp, rfl⟩⟩
      · exfalso
        simp [Array.getD] at h
      · exfalso
        simp [Array.getD] at h
    case fin =>
      intro l a W hI hall
      obtain ⟨hz, y, G, W0, rfl, hb, hF, hD, h14⟩ := hI
      have h14l := hall 14 (by decide)
      rcases h14 with ⟨h, _⟩ | ⟨_, h2, rfl⟩
      · rw [h14l] at h; cases h
      · obtain ⟨hE, hbW⟩ := e_done hb hF hD h2
        have e13 := (hF 13 (by omega) (h2 13 (by omega))).1
        have e3 := (hF 3 (by omega) (h2 3 (by omega))).1
        have e7 := (hF 7 (by omega) (h2 7 (by omega))).1
        have e11 := (hF 11 (by omega) (h2 11 (by omega))).1
        rw [e3, e7, e11] at hE hbW
        simp only [eA, e3, e7, e11, e13]
        have HO2 := Lib.hid (HO1.out.mono hbW)
        have hn0 := HO1.out.lt
        have r1 := stbx_lt q1 hbW
        have hb2 : Below w.heap.size w (set4 W0 (G 13) (.slice (some ⟨G 3, 0, none⟩) nxs.length nxs.length) (.slice (some ⟨G 7, 0, none⟩) nxs.length nxs.length) (.slice none 0 0) (.slice (some ⟨G 11, 0, none⟩) lxs.length lxs.length)) := hb1.trans (hbW.mono hb1.size)
        clear hF hD h2 e3 e7 e11 e13 hb hz h14l hall q0 q1 HO1
        generalize G 3 = G3 at *
        generalize G 7 = G7 at *
        generalize G 11 = G11 at *
        generalize G 13 = B4 at *
        generalize set4 W0 B4 (.slice (some ⟨G3, 0, none⟩) nxs.length nxs.length) (.slice (some ⟨G7, 0, none⟩) nxs.length nxs.length) (.slice none 0 0) (.slice (some ⟨G11, 0, none⟩) lxs.length lxs.length) = W1 at *
        have hlo := hE.lo
        have hhi := hE.hi
        have hw0 := hb1.size
        go_wp2_with fail
        go_loopw [25] (fun s25 wr => ∃ (k : Nat) (aS : Option Addr) (cS : Nat), k ≤ lxs.length ∧ s25 = .int .i64 k ∧ Below w.heap.size w wr ∧ Hid (EmpR wm.heap.size W1.heap.size wr B4 (.slice (some ⟨G3, 0, none⟩) nxs.length nxs.length) (.slice (some ⟨G7, 0, none⟩) nxs.length nxs.length) (.slice aS k cS) (.slice (some ⟨G11, 0, none⟩) lxs.length lxs.length) nxs.length lxs.length) ∧ Hid (Own W1.heap.size 3 eInt 1 wr (.slice aS k cS) (List.replicate k (1000 : Int))) ∧ Hid (OutBx wr (w.heap.size + 1) nilSt) ∧ W1.heap.size ≤ wr.heap.size) (fun i _ => lxs.length - (intOf i).toNat)
        case atStart => exact ⟨0, none, 0, Nat.zero_le _, rfl, hb2, Lib.hid hE, Lib.hid (World.ownsRow_nil _ _ _ _), HO2, Nat.le_refl _⟩
        clear hE hb2 HO2 hbW r1
        case round =>
          obtain ⟨k, aS, cS, hk, rfl, hb, HE, HS, HO, hsz⟩ := hrel
          have r2 := HE.out.c2
          have f2 := HE.out.free 2
          by_cases hlt : k < lxs.length
          · have x9 : IntKind.i64.wrap ((k : Int) + 1) = k + 1 := IntWalk.i64_in _ (by omega)
            have i2 : (k : Int) < lxs.length := by omega
            have hS := HS.out
            have hlk : (List.replicate k (1000 : Int)).length < 2147483648 := by rw [List.length_replicate]; omega
            go_wp2_with (at_builtin; go_must (refine wpList_push rfl _ _ 43 rfl 3 _ 1 8 undInts infInt rfl (by decide) (1000 : Int) (fun _ => rfl) (by simp [Value.oneCell']) _ (List.replicate k (1000 : Int)) rfl hS rfl hlk (by decide) hsz _ rfl ?_); intro g3 cap3 w3 hown1 hbg1 hgl1 hb3 hc11 hc21; have r3 := (HE.out.mono hb3).c2; have f3 := (HE.out.mono hb3).free 2; clear HS r2 f2)
            rw [List.length_replicate, ← List.replicate_succ'] at hown1
            have HE3 := HE.out.mono hb3
            have HO3 := outbx_low HO.out (show w.heap.size + 1 < W1.heap.size by omega) hb3
            have hb4 := hb.trans (hb3.mono (show w.heap.size ≤ W1.heap.size by omega))
            have HE4 := HE3.store (.slice (some ⟨g3, 0, none⟩) (k + 1) cap3)
            have HS4 := own_set hown1 ⟨B4, 2, none⟩ (.slice (some ⟨g3, 0, none⟩) (k + 1) cap3) (fun e => by simp only [Value.ownBlock, Option.some.injEq] at e; omega)
            have HO4 := outbx_far HO3 ⟨B4, 2, none⟩ (.slice (some ⟨g3, 0, none⟩) (k + 1) cap3) (show w.heap.size + 1 ≠ B4 by omega)
            have hb5 := hb4.setCell (p := ⟨B4, 2, none⟩) (show w.heap.size ≤ B4 by omega) (.slice (some ⟨g3, 0, none⟩) (k + 1) cap3)
            have hs5 : W1.heap.size ≤ (w3.setCell ⟨B4, 2, none⟩ (.slice (some ⟨g3, 0, none⟩) (k + 1) cap3)).heap.size := by have := hb3.size; simp [World.setCell]; omega
            replace HE4 := Lib.hid HE4
            replace HS4 := Lib.hid HS4
            replace HO4 := Lib.hid HO4
            clear HE HO HE3 HO3 hS hlk hown1
            go_roundw
            case measure => simp [intOf]; omega
            case rel => exact ⟨k + 1, _, _, by omega, by go_num, hb5, HE4, HS4, HO4, hs5⟩
          · have ek : k = lxs.length := by omega
            subst ek
            have r0 := HE.out.c0
            have r1 := HE.out.c1
            have r3 := HE.out.c3
            obtain ⟨⟨o0, o1, o2, o3⟩, of⟩ := HO.out
            have of0 := of 0
            have of1 := of 1
            have of2 := of 2
            have of3 := of 3
            clear of
            simp only [vSl, nilSt] at o0 o1 o2 o3
            have hE := HE.out
            have hS := HS.out
            go_wp2_with fail
            refine bodyPost_ret (v := .tuple #[.agg #[.slice (some ⟨G3, 0, none⟩) nxs.length nxs.length, .slice (some ⟨G7, 0, none⟩) nxs.length nxs.length, .slice aS lxs.length cS, .slice (some ⟨G11, 0, none⟩) lxs.length lxs.length], .int .i64 0]) (by simp (maxDischargeDepth := 9) [results, Tryz.results26, go_sem, o0, o1, o2, o3]) rfl ⟨?_, ?_⟩
            · obtain ⟨s, h1, h2, h3⟩ := gSt_of (own_set4 hE.V (by omega) (.slice (some ⟨G3, 0, none⟩) nxs.length nxs.length) (.slice (some ⟨G7, 0, none⟩) nxs.length nxs.length) (.slice aS lxs.length cS) (.slice (some ⟨G11, 0, none⟩) lxs.length lxs.length)) (own_set4 hE.P (by omega) _ _ _ _) ((own_set4 (n := w.heap.size + 1) hS (by omega) _ _ _ _).base (by omega)) (own_set4 hE.O (by omega) _ _ _ _)
                (fun x hx => by rw [(List.mem_replicate.1 hx).2]; exact gI64_of (by omega) (by omega)) (fun x hx => by rw [(List.mem_replicate.1 hx).2]; exact gI64_of (by omega) (by omega)) (fun x hx => by rw [(List.mem_replicate.1 hx).2]; exact gI64_of (by omega) (by omega))
              exact ⟨s, by rw [← h1], h2, h3⟩
            · exact set4_bel hb (by omega) _ _ _ _
    case step =>
    intro l a W i o hI ho hun hdeps
    obtain ⟨hz, y, G, W0, rfl, hb, hF, hD, h14o⟩ := hI
    have hi15 : i < 15 := (Array.getElem?_eq_some_iff.1 ho).1
    have h14' : l.getD 14 false = false ∧ W = W0 := by
      rcases h14o with h | ⟨h1, h2, _⟩
      · exact h
      · exfalso
        rw [getD_tf (by omega)] at hun
        by_cases h : i = 14
        · subst h; rw [h1] at hun; cases hun
        · rw [h2 i (by omega)] at hun; cases hun
    obtain ⟨h14, hWW⟩ := h14'
    subst W
    clear h14o
    have c0 := stbx_lt q0 hb
    have c1 := stbx_lt q1 hb
    rcases (show i = 0 ∨ i = 1 ∨ i = 2 ∨ i = 3 ∨ i = 4 ∨ i = 5 ∨ i = 6 ∨ i = 7 ∨ i = 8 ∨ i = 9 ∨ i = 10 ∨ i = 11 ∨ i = 12 ∨ i = 13 ∨ i = 14 by omega) with rfl | rfl | rfl | rfl | rfl | rfl | rfl | rfl | rfl | rfl | rfl | rfl | rfl | rfl | rfl
    · obtain rfl := Option.some.inj (show some _ = some o from ho)
      refine wpOp_step rfl (fun K hK => ?_)
      rw [if_pos (by rfl)]
      go_simp
      exact hK _ _ (e_next hz hb hF hD h14 (by omega) hun _ 0 (fun h => by cases h) rfl (Below.refl _ _) rfl)
    · obtain rfl := Option.some.inj (show some _ = some o from ho)
      have e := hF 0 (by omega) (hdeps ⟨0, .data⟩ (by simp) rfl)
      change y 0 = _ at e
      refine wpOp_step rfl (fun K hK => ?_)
      rw [if_pos (by rfl)]
      go_simp
      refine hK _ _ (e_next hz hb hF hD h14 (by omega) hun (.slice na nxs.length nc) 0 (fun h => by cases h) ?_ (Below.refl _ _) rfl)
      first | rfl | simp [eA, updV, e]
    · obtain rfl := Option.some.inj (show some _ = some o from ho)
      have e := hF 1 (by omega) (hdeps ⟨1, .data⟩ (by simp) rfl)
      change y 1 = _ at e
      refine wpOp_step rfl (fun K hK => ?_)
      rw [if_pos (by rfl)]
      go_simp
      refine hK _ _ (e_next hz hb hF hD h14 (by omega) hun (.int .i64 nxs.length) 0 (fun h => by cases h) ?_ (Below.refl _ _) rfl)
      first | rfl | simp [eA, updV, e]
    · obtain rfl := Option.some.inj (show some _ = some o from ho)
      have e := hF 2 (by omega) (hdeps ⟨2, .data⟩ (by simp) rfl)
      change y 2 = _ at e
      refine wpOp_step rfl (fun K hK => ?_)
      rw [if_pos (by rfl)]
      refine wp_mk W0 _ _ _ rfl wm.heap.size 3 _ 8 rfl (by kernel_rfl) eInt 0 rfl rfl nxs.length (by exact e) (by exact e) (by omega) (by decide) hb.size ?_
      intro w' hown hbel hlt
      exact hK _ _ (e_next hz hb hF hD h14 (by omega) hun _ W0.heap.size (fun _ => rfl) rfl hbel ⟨rfl, hown, hb.size, hlt⟩)
    · obtain rfl := Option.some.inj (show some _ = some o from ho)
      refine wpOp_step rfl (fun K hK => ?_)
      rw [if_pos (by rfl)]
      go_simp
      exact hK _ _ (e_next hz hb hF hD h14 (by omega) hun _ 0 (fun h => by cases h) rfl (Below.refl _ _) rfl)
    · obtain rfl := Option.some.inj (show some _ = some o from ho)
      have e := hF 4 (by omega) (hdeps ⟨4, .data⟩ (by simp) rfl)
      change y 4 = _ at e
      refine wpOp_step rfl (fun K hK => ?_)
      rw [if_pos (by rfl)]
      go_simp
      refine hK _ _ (e_next hz hb hF hD h14 (by omega) hun (.slice na nxs.length nc) 0 (fun h => by cases h) ?_ (Below.refl _ _) rfl)
      first | rfl | simp [eA, updV, e]
    · obtain rfl := Option.some.inj (show some _ = some o from ho)
      have e := hF 5 (by omega) (hdeps ⟨5, .data⟩ (by simp) rfl)
      change y 5 = _ at e
      refine wpOp_step rfl (fun K hK => ?_)
      rw [if_pos (by rfl)]
      go_simp
      refine hK _ _ (e_next hz hb hF hD h14 (by omega) hun (.int .i64 nxs.length) 0 (fun h => by cases h) ?_ (Below.refl _ _) rfl)
      first | rfl | simp [eA, updV, e]
    · obtain rfl := Option.some.inj (show some _ = some o from ho)
      have e := hF 6 (by omega) (hdeps ⟨6, .data⟩ (by simp) rfl)
      change y 6 = _ at e
      refine wpOp_step rfl (fun K hK => ?_)
      rw [if_pos (by rfl)]
      refine wp_mk W0 _ _ _ rfl wm.heap.size 3 _ 8 rfl (by kernel_rfl) eInt 0 rfl rfl nxs.length (by exact e) (by exact e) (by omega) (by decide) hb.size ?_
      intro w' hown hbel hlt
      exact hK _ _ (e_next hz hb hF hD h14 (by omega) hun _ W0.heap.size (fun _ => rfl) rfl hbel ⟨rfl, hown, hb.size, hlt⟩)
    · obtain rfl := Option.some.inj (show some _ = some o from ho)
      refine wpOp_step rfl (fun K hK => ?_)
      rw [if_pos (by rfl)]
      go_simp
      exact hK _ _ (e_next hz hb hF hD h14 (by omega) hun _ 0 (fun h => by cases h) rfl (Below.refl _ _) rfl)
    · obtain rfl := Option.some.inj (show some _ = some o from ho)
      have e := hF 8 (by omega) (hdeps ⟨8, .data⟩ (by simp) rfl)
      change y 8 = _ at e
      refine wpOp_step rfl (fun K hK => ?_)
      rw [if_pos (by rfl)]
      go_simp
      refine hK _ _ (e_next hz hb hF hD h14 (by omega) hun (.slice la lxs.length lc) 0 (fun h => by cases h) ?_ (Below.refl _ _) rfl)
      first | rfl | simp [eA, updV, e]
    · obtain rfl := Option.some.inj (show some _ = some o from ho)
      have e := hF 9 (by omega) (hdeps ⟨9, .data⟩ (by simp) rfl)
      change y 9 = _ at e
      refine wpOp_step rfl (fun K hK => ?_)
      rw [if_pos (by rfl)]
      go_simp
      refine hK _ _ (e_next hz hb hF hD h14 (by omega) hun (.int .i64 lxs.length) 0 (fun h => by cases h) ?_ (Below.refl _ _) rfl)
      first | rfl | simp [eA, updV, e]
    · obtain rfl := Option.some.inj (show some _ = some o from ho)
      have e := hF 10 (by omega) (hdeps ⟨10, .data⟩ (by simp) rfl)
      change y 10 = _ at e
      refine wpOp_step rfl (fun K hK => ?_)
      rw [if_pos (by rfl)]
      refine wp_mk W0 _ _ _ rfl wm.heap.size 4 _ 1 rfl (by kernel_rfl) eBool false rfl rfl lxs.length (by exact e) (by exact e) (by omega) (by decide) hb.size ?_
      intro w' hown hbel hlt
      exact hK _ _ (e_next hz hb hF hD h14 (by omega) hun _ W0.heap.size (fun _ => rfl) rfl hbel ⟨rfl, hown, hb.size, hlt⟩)
    · obtain rfl := Option.some.inj (show some _ = some o from ho)
      have d3 := hdeps ⟨3, .data⟩ (by simp) rfl
      have d7 := hdeps ⟨7, .data⟩ (by simp) rfl
      have d11 := hdeps ⟨11, .data⟩ (by simp) rfl
      have e0 := (hF 3 (by omega) d3).1
      have e1 := (hF 7 (by omega) d7).1
      have e2 := (hF 11 (by omega) d11).1
      refine wpOp_step rfl (fun K hK => ?_)
      rw [if_pos (by rfl)]
      go_simp
      refine hK _ _ (e_next hz hb hF hD h14 (by omega) hun (.agg #[y 3, y 7, .slice none 0 0, y 11]) 0 (fun h => by cases h) ?_ (Below.refl _ _) ⟨⟨by rw [getD_setF (by decide)]; exact d3, by rw [getD_setF (by decide)]; exact d7, by rw [getD_setF (by decide)]; exact d11⟩, rfl⟩)
      simp [eA, updV, e0, e1, e2]
    · obtain rfl := Option.some.inj (show some _ = some o from ho)
      refine wpOp_step rfl (fun K hK => ?_)
      rw [if_pos (by rfl)]
      go_simp
      exact hK _ _ (e_next hz hb hF hD h14 (by omega) hun _ W0.heap.size (fun _ => rfl) rfl (alloc_below _ _) ⟨rfl, OutBx.new W0 nilSt 54, hb.size⟩)
    · obtain rfl := Option.some.inj (show some _ = some o from ho)
      have hall : ∀ j, j < 14 → l.getD j false = true := by
        intro j hj
        rcases (show j = 0 ∨ j = 1 ∨ j = 2 ∨ j = 3 ∨ j = 4 ∨ j = 5 ∨ j = 6 ∨ j = 7 ∨ j = 8 ∨ j = 9 ∨ j = 10 ∨ j = 11 ∨ j = 12 ∨ j = 13 by omega) with rfl | rfl | rfl | rfl | rfl | rfl | rfl | rfl | rfl | rfl | rfl | rfl | rfl | rfl
        all_goals exact hdeps ⟨_, .phase⟩ (by simp) rfl
      have e := (hF 12 (by omega) (hall 12 (by omega))).2
      have e0 := (hF 3 (by omega) (hall 3 (by omega))).1
      have e1 := (hF 7 (by omega) (hall 7 (by omega))).1
      have e2 := (hF 11 (by omega) (hall 11 (by omega))).1
      obtain ⟨e13, ⟨⟨o0, o1, o2, o3⟩, of⟩, _⟩ := hF 13 (by omega) (hall 13 (by omega))
      have of0 := of 0
      have of1 := of 1
      have of2 := of 2
      have of3 := of 3
      clear of
      simp only [vSl, nilSt] at o0 o1 o2 o3
      refine wpOp_step rfl (fun K hK => ?_)
      rw [if_pos (by rfl)]
      go_simp
      refine hK _ _ ⟨by simpa using hz, y, G, W0, ?_, hb, ?_, fun i j hi hj hij li lj => ?_, .inr ⟨getD_setT (by omega), fun j hj => by rw [getD_setF (by omega)]; exact hall j hj, ?_⟩⟩
      · first | rfl | simp [eA, e, e0, e1, e2]
      · intro j hj hl
        rw [getD_setF (by omega)] at hl
        exact eF_keep (Below.refl _ _) h14 (fun _ _ => rfl) (fun _ _ => rfl) (fun j hj => getD_setF hj) j (by omega) (hF j hj hl)
      · have hlt : ∀ j, mkB j = true → j ≠ 14 := fun j h => by simp [mkB] at h; omega
        rw [getD_setF (hlt i hi)] at li
        rw [getD_setF (hlt j hj)] at lj
        exact hD i j hi hj hij li lj
      · first | rfl | simp [set4, e0, e1, e2]

end Go.Proofs.YtjgfgbiohbgcaaaGreat
