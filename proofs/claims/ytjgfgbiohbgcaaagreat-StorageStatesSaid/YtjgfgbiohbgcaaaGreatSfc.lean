/- A state's four slices cloned into a block of the call's own: what holds behind it, and behind stores into it. No function of the program is named. Conditions: none. -/
import Derived.Test.YtjgfgbiohbgcaaaGreatMfp
import Derived.Test.YtjgfgbiohbgcaaaGreatMcl
namespace Go.Proofs.YtjgfgbiohbgcaaaGreat
open Go.RowKit
set_option linter.unusedVariables false
set_option linter.unusedSimpArgs false

def nilSt : St := ⟨⟨none, 0, []⟩, ⟨none, 0, []⟩, ⟨none, 0, []⟩, ⟨none, 0, []⟩⟩
theorem gSt_nil (w : World) : gSt w nilSt := by
  have h : ∀ {α : Type} (enc : α → List Value) (k : Nat) (good : World → α → Prop), gSl enc k good w (⟨none, 0, []⟩ : Sl α) := fun enc k good =>
    ⟨Nat.le_refl _, by simp, fun i hi => absurd hi (Nat.not_lt_zero _), by simp⟩
  exact ⟨h .., h .., h .., h ..⟩

/-- A block that holds a state and may be written. -/
structure OutBx (w : World) (B : Nat) (s : St) : Prop where
  cells : StBx w B s
  free : ∀ j, w.frozen? ⟨B, j, none⟩ = false
theorem OutBx.lt {w : World} {B : Nat} {s : St} (h : OutBx w B s) : B < w.heap.size := lt_of_isSome (a := ⟨B, 0, none⟩) (by rw [h.cells.c0]; rfl)
theorem OutBx.mono {w w' : World} {B : Nat} {s : St} (h : OutBx w B s) (hb : Below w.heap.size w w') : OutBx w' B s :=
  ⟨h.cells.mono hb, fun j => (hb.frozen (p := ⟨B, j, none⟩) h.lt).trans (h.free j)⟩
theorem OutBx.new (w : World) (s : St) (T : TypeId) : OutBx (w.alloc (.cells (eSt s).toArray T)) w.heap.size s :=
  ⟨StBx.new w s T, fun j => by simp [go_sem]⟩
theorem OutBx.drew {w : World} {B : Nat} {s : St} (h : OutBx w B s) : OutBx w.drew B s := ⟨⟨h.cells.c0, h.cells.c1, h.cells.c2, h.cells.c3⟩, h.free⟩

/-- A row of the call's own that lies in a block from lo on, below hi. -/
def RowAt {α : Type} (W : World) (lo hi : Nat) (e : TypeId) (enc : α → List Value) (k : Nat) (v : Value) (xs : List α) : Prop :=
  Own lo e enc k W v xs ∧ hi ≤ W.heap.size ∧ ∀ g, v.ownBlock = some g → lo ≤ g ∧ g < hi
theorem RowAt.of {α : Type} {W W' : World} {e : TypeId} {enc : α → List Value} {k : Nat} {v : Value} {xs : List α} (h : Own W.heap.size e enc k W' v xs) (hb : Below W.heap.size W W') :
    ∃ lo hi, lo = W.heap.size ∧ hi = W'.heap.size ∧ lo ≤ hi ∧ Fut W' fun X => RowAt X lo hi e enc k v xs :=
  ⟨_, _, rfl, rfl, hb.size, fun _ hX => ⟨h.below hX, hX.size, h.lt⟩⟩
theorem RowAt.set {α : Type} {W : World} {lo hi : Nat} {e : TypeId} {enc : α → List Value} {k : Nat} {v : Value} {xs : List α} (h : RowAt W lo hi e enc k v xs) (a : Addr) (u : Value) (ha : a.block < lo ∨ hi ≤ a.block) : RowAt (W.setCell a u) lo hi e enc k v xs := by
  refine ⟨World.ownsRow.kept (row := some a.block) h.1 ⟨rfl, rfl, rfl, by simp [World.setCell], fun j _ hne => Below.heap_setCell _ _ _ _ (fun e => hne (by rw [e]))⟩ ?_, by simpa [World.setCell] using h.2.1, h.2.2⟩
  cases hv : v.ownBlock with
  | none => exact .inl rfl
  | some g =>
    right
    have := h.2.2 g hv
    intro he
    simp only [Option.some.injEq] at he
    omega
theorem RowAt.set4 {α : Type} {W : World} {lo hi : Nat} {e : TypeId} {enc : α → List Value} {k : Nat} {v : Value} {xs : List α} (h : RowAt W lo hi e enc k v xs) {B : Nat} (hB : B < lo ∨ hi ≤ B) (u0 u1 u2 u3 : Value) :
    RowAt ((((W.setCell ⟨B, 0, none⟩ u0).setCell ⟨B, 1, none⟩ u1).setCell ⟨B, 2, none⟩ u2).setCell ⟨B, 3, none⟩ u3) lo hi e enc k v xs :=
  (((h.set ⟨B, 0, none⟩ u0 hB).set ⟨B, 1, none⟩ u1 hB).set ⟨B, 2, none⟩ u2 hB).set ⟨B, 3, none⟩ u3 hB
theorem RowAt.alloc {α : Type} {W : World} {lo hi : Nat} {e : TypeId} {enc : α → List Value} {k : Nat} {v : Value} {xs : List α} (h : RowAt W lo hi e enc k v xs) (o : Obj) : RowAt (W.alloc o) lo hi e enc k v xs :=
  ⟨h.1.below (alloc_below _ _), by have := h.2.1; simp; omega, h.2.2⟩
theorem RowAt.drew {α : Type} {W : World} {lo hi : Nat} {e : TypeId} {enc : α → List Value} {k : Nat} {v : Value} {xs : List α} (h : RowAt W lo hi e enc k v xs) : RowAt W.drew lo hi e enc k v xs := h

/-- Four slices cloned, and a block that holds them. -/
structure Cloned (w W : World) (B : Nat) (uV uP uS uO : Value) (vs ps ss : List Int) (os : List Bool) : Prop where
  bel : Below w.heap.size w W
  base : w.heap.size ≤ B
  c0 : W.cell? ⟨B, 0, none⟩ = some uV
  c1 : W.cell? ⟨B, 1, none⟩ = some uP
  c2 : W.cell? ⟨B, 2, none⟩ = some uS
  c3 : W.cell? ⟨B, 3, none⟩ = some uO
  V : Own w.heap.size 3 eInt 1 W uV vs
  P : Own w.heap.size 3 eInt 1 W uP ps
  S : Own w.heap.size 3 eInt 1 W uS ss
  O : Own w.heap.size 4 eBool 1 W uO os
  aV : ∀ g, uV.ownBlock = some g → g ≠ B ∧ uP.ownBlock ≠ some g ∧ uS.ownBlock ≠ some g ∧ uO.ownBlock ≠ some g
  aP : ∀ g, uP.ownBlock = some g → g ≠ B ∧ uV.ownBlock ≠ some g ∧ uS.ownBlock ≠ some g ∧ uO.ownBlock ≠ some g
theorem Cloned.of {w W : World} {B : Nat} {uV uP uS uO : Value} {vs ps ss : List Int} {os : List Bool} {lV hV lP hP lS hS lO hO : Nat} (bel : Below w.heap.size w W) (hB : w.heap.size ≤ B)
    (c0 : W.cell? ⟨B, 0, none⟩ = some uV) (c1 : W.cell? ⟨B, 1, none⟩ = some uP) (c2 : W.cell? ⟨B, 2, none⟩ = some uS) (c3 : W.cell? ⟨B, 3, none⟩ = some uO)
    (rV : RowAt W lV hV 3 eInt 1 uV vs) (rP : RowAt W lP hP 3 eInt 1 uP ps) (rS : RowAt W lS hS 3 eInt 1 uS ss) (rO : RowAt W lO hO 4 eBool 1 uO os)
    (h1 : w.heap.size ≤ lV) (h2 : hV ≤ lP) (h3 : hP ≤ lS) (h4 : hS ≤ lO) (k1 : lV ≤ hV) (k2 : lP ≤ hP) (k3 : lS ≤ hS) (b1 : B < lV ∨ hV ≤ B) (b2 : B < lP ∨ hP ≤ B) : Cloned w W B uV uP uS uO vs ps ss os := by
  refine ⟨bel, hB, c0, c1, c2, c3, rV.1.base h1, rP.1.base (by omega), rS.1.base (by omega), rO.1.base (by omega), ?_, ?_⟩
  · intro g hg
    have q := rV.2.2 g hg
    refine ⟨by omega, fun h => ?_, fun h => ?_, fun h => ?_⟩
    · have := rP.2.2 g h; omega
    · have := rS.2.2 g h; omega
    · have := rO.2.2 g h; omega
  · intro g hg
    have q := rP.2.2 g hg
    refine ⟨by omega, fun h => ?_, fun h => ?_, fun h => ?_⟩
    · have := rV.2.2 g h; omega
    · have := rS.2.2 g h; omega
    · have := rO.2.2 g h; omega

/-- A row of the call's own is as it was behind a store into another block. -/
theorem Own.far {α : Type} {W : World} {base : Nat} {e : TypeId} {enc : α → List Value} {k : Nat} {v : Value} {xs : List α} (h : Own base e enc k W v xs) (a : Addr) (u : Value) (ha : v.ownBlock ≠ some a.block) : Own base e enc k (W.setCell a u) v xs :=
  World.ownsRow.kept (row := some a.block) h ⟨rfl, rfl, rfl, by simp [World.setCell], fun j _ hne => Below.heap_setCell _ _ _ _ (fun e => hne (by rw [e]))⟩ (.inr ha)
theorem cell_far {W : World} {B j : Nat} {v : Value} (h : W.cell? ⟨B, j, none⟩ = some v) (a : Addr) (u : Value) (ha : B ≠ a.block) : (W.setCell a u).cell? ⟨B, j, none⟩ = some v :=
  (World.cell?_of_block (w := W) (Below.heap_setCell _ _ _ _ ha)).trans h
theorem Own.put1 {W : World} {base : Nat} {e : TypeId} {g n c k : Nat} {xs : List Int} (h : Own base e eInt 1 W (.slice (some ⟨g, 0, none⟩) n c) xs) (hk : k < xs.length) (y : Int) : Own base e eInt 1 (W.setCell ⟨g, k, none⟩ (.int .i64 y)) (.slice (some ⟨g, 0, none⟩) n c) (xs.set k y) := by
  have := Own.store (k := 1) (enc := eInt) (fun _ => rfl) h k 0 hk Nat.zero_lt_one (.int .i64 y) y rfl
  simpa using this
theorem Cloned.storeV {w W : World} {B g n c k : Nat} {uP uS uO : Value} {vs ps ss : List Int} {os : List Bool} (h : Cloned w W B (.slice (some ⟨g, 0, none⟩) n c) uP uS uO vs ps ss os) (hk : k < vs.length) (y : Int) :
    Cloned w (W.setCell ⟨g, k, none⟩ (.int .i64 y)) B (.slice (some ⟨g, 0, none⟩) n c) uP uS uO (vs.set k y) ps ss os := by
  obtain ⟨d0, d1, d2, d3⟩ := h.aV g rfl
  have hg := (h.V.lt g rfl).1
  exact ⟨h.bel.setCell (p := ⟨g, k, none⟩) hg _, h.base, cell_far h.c0 _ _ (Ne.symm d0), cell_far h.c1 _ _ (Ne.symm d0), cell_far h.c2 _ _ (Ne.symm d0), cell_far h.c3 _ _ (Ne.symm d0), h.V.put1 hk y, h.P.far _ _ d1, h.S.far _ _ d2, h.O.far _ _ d3, h.aV, h.aP⟩
theorem Cloned.storeP {w W : World} {B g n c k : Nat} {uV uS uO : Value} {vs ps ss : List Int} {os : List Bool} (h : Cloned w W B uV (.slice (some ⟨g, 0, none⟩) n c) uS uO vs ps ss os) (hk : k < ps.length) (y : Int) :
    Cloned w (W.setCell ⟨g, k, none⟩ (.int .i64 y)) B uV (.slice (some ⟨g, 0, none⟩) n c) uS uO vs (ps.set k y) ss os := by
  obtain ⟨d0, d1, d2, d3⟩ := h.aP g rfl
  have hg := (h.P.lt g rfl).1
  exact ⟨h.bel.setCell (p := ⟨g, k, none⟩) hg _, h.base, cell_far h.c0 _ _ (Ne.symm d0), cell_far h.c1 _ _ (Ne.symm d0), cell_far h.c2 _ _ (Ne.symm d0), cell_far h.c3 _ _ (Ne.symm d0), h.V.far _ _ d1, h.P.put1 hk y, h.S.far _ _ d2, h.O.far _ _ d3, h.aV, h.aP⟩
theorem Own.int1 {W : World} {base : Nat} {e : TypeId} {g n c k : Nat} {xs : List Int} (h : Own base e eInt 1 W (.slice (some ⟨g, 0, none⟩) n c) xs) (hk : k < xs.length) {x : Int} (hx : xs[k] = x) : W.cell? ⟨g, k, none⟩ = some (.int .i64 x) := by
  have := Own.cellAt' (k := 1) (enc := eInt) (fun _ => rfl) h k 0 hk Nat.zero_lt_one
  rw [hx] at this
  simpa using this
theorem Own.under {α : Type} {W : World} {base : Nat} {e : TypeId} {enc : α → List Value} {k : Nat} {v : Value} {xs : List α} (h : Own base e enc k W v xs) {a : Addr} (ha : a.block < base) (u : Value) : Own base e enc k (W.setCell a u) v xs :=
  ownsRow_setCell_below h ha u
theorem Own.under4 {α : Type} {W : World} {base : Nat} {e : TypeId} {enc : α → List Value} {k : Nat} {v : Value} {xs : List α} (h : Own base e enc k W v xs) {B : Nat} (ha : B < base) (u0 u1 u2 u3 : Value) :
    Own base e enc k ((((W.setCell ⟨B, 0, none⟩ u0).setCell ⟨B, 1, none⟩ u1).setCell ⟨B, 2, none⟩ u2).setCell ⟨B, 3, none⟩ u3) v xs :=
  (((h.under (a := ⟨B, 0, none⟩) ha u0).under (a := ⟨B, 1, none⟩) ha u1).under (a := ⟨B, 2, none⟩) ha u2).under (a := ⟨B, 3, none⟩) ha u3
theorem mem_set_int {l : List Int} {k : Nat} {y x : Int} {p : Int → Prop} (hl : ∀ x ∈ l, p x) (hy : p y) (h : x ∈ l.set k y) : p x := by
  rcases List.mem_or_eq_of_mem_set h with h | rfl
  · exact hl x h
  · exact hy
/-- What is read, at its place. -/
theorem Own.first {α : Type} {W : World} {base : Nat} {e : TypeId} {enc : α → List Value} {v : Value} {xs : List α} (h : Own base e enc 1 W v xs) (k : Nat) (hk : k < xs.length) :
    ∃ g c, v = .slice (some ⟨g, 0, none⟩) xs.length c ∧ base ≤ g ∧ (∀ j, W.frozen? ⟨g, j, none⟩ = false) := by
  obtain ⟨g, c, rfl, hg, _⟩ := h.place (by omega)
  exact ⟨g, c, rfl, hg, fun j => h.free j⟩

theorem gI64_of {w : World} {n : Int} (h1 : -9223372036854775808 ≤ n) (h2 : n ≤ 9223372036854775807) : gI64 w n := by
  simp [gI64, Lit.wf, IntKind.min, IntKind.max, IntKind.signed, IntKind.bits]; omega
theorem Own.gSl {α : Type} {W : World} {base : Nat} {e : TypeId} {enc : α → List Value} {k : Nat} {v : Value} {xs : List α} {good : World → α → Prop} (h : Own base e enc k W v xs) (hk : ∀ x, (enc x).length = k) (hg : ∀ x ∈ xs, good W x) :
    ∃ s : Sl α, v = vSl s ∧ s.xs = xs ∧ gSl enc k good W s := by
  obtain ⟨a, c, rfl, h1, h2, h3⟩ := h.isL hk
  exact ⟨⟨a, c, xs⟩, rfl, rfl, h1, h2, h3, hg⟩
/-- The four rows of a state, each the call's own. -/
theorem gSt_of {W : World} {base : Nat} {uV uP uS uO : Value} {vs ps ss : List Int} {os : List Bool} (hV : Own base 3 eInt 1 W uV vs) (hP : Own base 3 eInt 1 W uP ps) (hS : Own base 3 eInt 1 W uS ss) (hO : Own base 4 eBool 1 W uO os)
    (gV : ∀ x ∈ vs, gI64 W x) (gP : ∀ x ∈ ps, gI64 W x) (gS : ∀ x ∈ ss, gI64 W x) : ∃ s : St, vSt s = .agg #[uV, uP, uS, uO] ∧ gSt W s ∧ stL s = (vs, ps, ss, os) := by
  obtain ⟨s0, rfl, rfl, h0⟩ := hV.gSl (good := gI64) (fun _ => rfl) gV
  obtain ⟨s1, rfl, rfl, h1⟩ := hP.gSl (good := gI64) (fun _ => rfl) gP
  obtain ⟨s2, rfl, rfl, h2⟩ := hS.gSl (good := gI64) (fun _ => rfl) gS
  obtain ⟨s3, rfl, rfl, h3⟩ := hO.gSl (good := gTrue) (fun _ => rfl) (fun _ _ => trivial)
  exact ⟨⟨s0, s1, s2, s3⟩, rfl, ⟨h0, h1, h2, h3⟩, rfl⟩
theorem gSt_ret {W : World} {base : Nat} {E : Int} {R : St4} {uV uP uS uO : Value} {vs ps ss : List Int} {os : List Bool} (hV : Own base 3 eInt 1 W uV vs) (hP : Own base 3 eInt 1 W uP ps) (hS : Own base 3 eInt 1 W uS ss) (hO : Own base 4 eBool 1 W uO os)
    (gV : ∀ x ∈ vs, gI64 W x) (gP : ∀ x ∈ ps, gI64 W x) (gS : ∀ x ∈ ss, gI64 W x) (hR : (vs, ps, ss, os) = R) :
    ∃ s : St, Ending.returned (.tuple #[.agg #[uV, uP, uS, uO], .int .i64 E]) = .returned (.tuple #[vSt s, .int .i64 E]) ∧ gSt W s ∧ stL s = R := by
  obtain ⟨s, e1, e2, e3⟩ := gSt_of hV hP hS hO gV gP gS
  exact ⟨s, by rw [e1], e2, e3.trans hR⟩

end Go.Proofs.YtjgfgbiohbgcaaaGreat
