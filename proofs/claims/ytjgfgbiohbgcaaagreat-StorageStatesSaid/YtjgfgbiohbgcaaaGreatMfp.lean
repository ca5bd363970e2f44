/- What is held, plainly: the sum without wrapping, and what one item's change does to it. No function of the program is named. Conditions: the items lie between 0 and the greatest volume. | Filling one node, plainly: c what it can hold, v what it holds, p what lies on the ground above, a what is filled in. No function of the program is named. Conditions: v is at most c, the numbers are not negative. | Filling a node, as a plain function of network and state; what is known of a right state's items. No function of the program is named. Conditions: none. | What is filled in is held, plainly: a right state stays right, the sum grows by what was filled in, filling twice is filling the sum. No function of the program is named. Conditions: at most 30 nodes, the numbers below 2^32. -/
import Derived.Test.YtjgfgbiohbgcaaaGreatShd
namespace Go.Proofs.YtjgfgbiohbgcaaaGreat
open Go.RowKit
set_option linter.unusedVariables false
set_option linter.unusedSimpArgs false

def sumL : List Int → List Int → Int
  | v :: vs, p :: ps => v + p + sumL vs ps
  | _, _ => 0
theorem sumL_bd : ∀ (vs ps : List Int), (∀ x ∈ vs, 0 ≤ x ∧ x ≤ 1125899906842624) → (∀ x ∈ ps, 0 ≤ x ∧ x ≤ 1125899906842624) → 0 ≤ sumL vs ps ∧ sumL vs ps ≤ 2251799813685248 * (vs.length : Int)
  | [], _, _, _ => by simp [sumL]
  | _ :: _, [], _, _ => by simp [sumL]; omega
  | v :: vs, p :: ps, hv, hp => by
    have ih := sumL_bd vs ps (fun x hx => hv x (List.mem_cons_of_mem _ hx)) (fun x hx => hp x (List.mem_cons_of_mem _ hx))
    have h1 := hv v (List.mem_cons_self ..)
    have h2 := hp p (List.mem_cons_self ..)
    simp only [sumL, List.length_cons]
    omega
theorem heldGo_sum : ∀ (vs ps : List Int) (k : Int), (∀ x ∈ vs, 0 ≤ x ∧ x ≤ 1125899906842624) → (∀ x ∈ ps, 0 ≤ x ∧ x ≤ 1125899906842624) → 0 ≤ k → k + 2251799813685248 * (vs.length : Int) ≤ 4611686018427387904 → heldGo vs ps k = k + sumL vs ps
  | [], _, k, _, _, _, _ => by simp [heldGo, sumL]
  | _ :: _, [], k, _, _, _, _ => by simp [heldGo, sumL]
  | v :: vs, p :: ps, k, hv, hp, hk, hb => by
    have h1 := hv v (List.mem_cons_self ..)
    have h2 := hp p (List.mem_cons_self ..)
    simp only [List.length_cons] at hb
    have e1 : wrap64 (v + p) = v + p := by unfold wrap64; omega
    have e2 : wrap64 (k + (v + p)) = k + (v + p) := by unfold wrap64; omega
    simp only [heldGo, sumL]
    rw [e1, e2, heldGo_sum vs ps _ (fun x hx => hv x (List.mem_cons_of_mem _ hx)) (fun x hx => hp x (List.mem_cons_of_mem _ hx)) (by omega) (by omega)]
    omega
theorem sumL_set : ∀ (vs ps : List Int) (i : Nat) (h1 : i < vs.length) (h2 : i < ps.length) (x y : Int), sumL (vs.set i x) (ps.set i y) = sumL vs ps + (x - vs[i]) + (y - ps[i])
  | v :: vs, p :: ps, 0, _, _, x, y => by simp [sumL]; omega
  | v :: vs, p :: ps, i + 1, h1, h2, x, y => by
    have ih := sumL_set vs ps i (by simpa using h1) (by simpa using h2) x y
    simp only [List.set_cons_succ, sumL, List.getElem_cons_succ]
    omega

end Go.Proofs.YtjgfgbiohbgcaaaGreat

namespace Go.Proofs.YtjgfgbiohbgcaaaGreat
open Go.RowKit
set_option linter.unusedVariables false
set_option linter.unusedSimpArgs false

def inV (c v a : Int) : Int := min a (c - v)
theorem in_bd {c v a : Int} (h : v ≤ c) (ha : 0 ≤ a) : 0 ≤ inV c v a ∧ inV c v a ≤ a ∧ v + inV c v a ≤ c ∧ (inV c v a = a ∨ v + inV c v a = c) := by
  unfold inV; omega
/-- Filling twice is filling the sum. -/
theorem in_twice {c v a b : Int} (h : v ≤ c) (ha : 0 ≤ a) (hb : 0 ≤ b) : inV c v a + inV c (v + inV c v a) b = inV c v (a + b) := by
  unfold inV; omega
theorem fill_twice {c v p a b : Int} (h : v ≤ c) (ha : 0 ≤ a) (hb : 0 ≤ b) :
    v + inV c v a + inV c (v + inV c v a) b = v + inV c v (a + b) ∧ p + (a - inV c v a) + (b - inV c (v + inV c v a) b) = p + (a + b - inV c v (a + b)) := by
  have := in_twice h ha hb
  omega
/-- What is filled in is held. -/
theorem fill_held (vs ps : List Int) (i : Nat) (h1 : i < vs.length) (h2 : i < ps.length) (c a : Int) :
    sumL (vs.set i (vs[i] + inV c vs[i] a)) (ps.set i (ps[i] + (a - inV c vs[i] a))) = sumL vs ps + a := by
  rw [sumL_set vs ps i h1 h2]
  omega

end Go.Proofs.YtjgfgbiohbgcaaaGreat

namespace Go.Proofs.YtjgfgbiohbgcaaaGreat
open Go.RowKit
set_option linter.unusedVariables false
set_option linter.unusedSimpArgs false

/-- What holds in a world and in each later one that leaves its blocks alone. -/
def Fut (w : World) (φ : World → Prop) : Prop := ∀ W, Below w.heap.size w W → φ W
theorem Fut.start (w : World) : Fut w fun _ => True := fun _ _ => trivial
theorem Fut.more {w w1 : World} {φ ψ : World → Prop} (h : Fut w φ) (hb : Below w.heap.size w w1) (h1 : Fut w1 ψ) : Fut w1 fun W => φ W ∧ ψ W :=
  fun W hW => ⟨h W (hb.trans (hW.mono hb.size)), h1 W hW⟩
theorem Fut.own {α : Type} {base : Nat} {e : TypeId} {enc : α → List Value} {k : Nat} {w : World} {v : Value} {xs : List α} (h : Own base e enc k w v xs) : Fut w fun W => Own base e enc k W v xs :=
  fun _ hW => h.below hW

abbrev St4 := List Int × List Int × List Int × List Bool
def stL (s : St) : St4 := (s.V.xs, s.P.xs, s.S.xs, s.O.xs)
def noSt : St4 := ([], [], [], [])
def ndAt (n : Net) (k : Nat) : Nd := n.Ns.xs.getD k default
def fillG (n : Net) (s : St4) (k : Nat) (a : Int) : St4 × Int :=
  if (ndAt n k).Kind = 3 then (noSt, 11)
  else if 1125899906842624 < s.2.1.getD k 0 + (a - inV (capB (ndAt n k)) (s.1.getD k 0) a) then (noSt, 5)
  else ((s.1.set k (s.1.getD k 0 + inV (capB (ndAt n k)) (s.1.getD k 0) a), s.2.1.set k (s.2.1.getD k 0 + (a - inV (capB (ndAt n k)) (s.1.getD k 0) a)), s.2.2.1, s.2.2.2), 0)
def outB (n : Net) (i a : Int) : Bool := decide (i < 0) || decide ((n.Ns.xs.length : Int) ≤ i) || !volB a
def fillM (n : Net) (s : St) (i a : Int) : St4 × Int :=
  if (netB n && stB n s) = false then (noSt, 1) else if outB n i a = true then (noSt, 2) else fillG n (stL s) i.toNat a

theorem capB_bd {x : Nd} (h : ndB x = true) : capB x ≤ 1125899906842624 := by
  unfold capB
  split
  · decide
  · rename_i k3
    have hk : 1 ≤ x.Sh.xs.length := by
      rcases ndB_knot h with q | q
      · exact absurd q k3
      · exact q
    have k : x.Kind = 1 ∨ x.Kind = 2 := by
      by_cases k : x.Kind = 1 ∨ x.Kind = 2
      · exact k
      · simp only [ndB, Bool.and_eq_true, kindNdB, if_neg k, if_neg k3] at h
        simp at h
    simp only [ndB, Bool.and_eq_true, kindNdB, if_pos k, shapeB] at h
    have ht := h.2.1.1.2.1.1.1
    rw [lastK_eq hk]
    exact (tabB_at ht _ (by omega)).2.2.2

/-- What is known of a right state at a node. -/
theorem st_at {n : Net} {s : St} (h : netB n = true) (hs : stB n s = true) (k : Nat) (hk : k < n.Ns.xs.length) (hv : k < s.V.xs.length) (hp : k < s.P.xs.length) :
    0 ≤ s.V.xs[k] ∧ s.V.xs[k] ≤ capB n.Ns.xs[k] ∧ capB n.Ns.xs[k] ≤ 1125899906842624 ∧ 0 ≤ s.P.xs[k] ∧ s.P.xs[k] ≤ 1125899906842624 := by
  have hc := capB_bd (netB_nd h k hk).1
  have hl : stLen n s = true := by cases q : stLen n s; rw [stB_len q] at hs; cases hs; rfl
  rw [stB_is hl, Bool.and_eq_true, allFrom_iff] at hs
  have h1 := hs.1 k hk
  rw [okV_at hk hv hp] at h1
  simp [btwB, volB] at h1
  omega

end Go.Proofs.YtjgfgbiohbgcaaaGreat

namespace Go.Proofs.YtjgfgbiohbgcaaaGreat
open Go.RowKit
set_option linter.unusedVariables false
set_option linter.unusedSimpArgs false

theorem fillG_no {n : Net} {s : St4} {k : Nat} {a : Int} (h : (fillG n s k a).2 ≠ 0) : (fillG n s k a).1 = noSt := by
  unfold fillG at *
  split
  · rfl
  · split
    · rfl
    · rename_i h1 h2
      rw [if_neg h1, if_neg h2] at h
      exact absurd rfl h
theorem fillM_no {n : Net} {s : St} {i a : Int} (h : (fillM n s i a).2 ≠ 0) : (fillM n s i a).1 = noSt := by
  unfold fillM at *
  split
  · rfl
  · rename_i h1
    rw [if_neg h1] at h
    split
    · rfl
    · rename_i h2
      rw [if_neg h2] at h
      exact fillG_no h
/-- What holds where filling goes well. -/
theorem fillM_ok {n : Net} {s : St} {i a : Int} (h : (fillM n s i a).2 = 0) : netB n = true ∧ stB n s = true ∧ ∃ k : Nat, i = (k : Int) ∧ k < n.Ns.xs.length ∧ volB a = true ∧ fillM n s i a = fillG n (stL s) k a ∧ (fillG n (stL s) k a).2 = 0 := by
  by_cases h1 : (netB n && stB n s) = false
  · unfold fillM at h; rw [if_pos h1] at h; cases h
  have h1' : (netB n && stB n s) = true := by simpa using h1
  rw [Bool.and_eq_true] at h1'
  refine ⟨h1'.1, h1'.2, ?_⟩
  have h2 : outB n i a = false := by
    cases q : outB n i a
    · rfl
    · unfold fillM at h; rw [if_neg h1, if_pos q] at h; cases h
  have e : fillM n s i a = fillG n (stL s) i.toNat a := by unfold fillM; rw [if_neg h1, if_neg (by rw [h2]; simp)]
  simp [outB] at h2
  refine ⟨i.toNat, by omega, by omega, h2.2, e, ?_⟩
  rw [← e]; exact h
theorem fillM_is {n : Net} {s : St} {k : Nat} {a : Int} (hn : netB n = true) (hs : stB n s = true) (hk : k < n.Ns.xs.length) (ha : volB a = true) : fillM n s (k : Int) a = fillG n (stL s) k a := by
  have h2 : outB n (k : Int) a = false := by simp [outB, ha]; omega
  unfold fillM
  rw [if_neg (by rw [hn, hs]; simp), if_neg (by rw [h2]; simp)]; simp

theorem stB_of {n : Net} {s : St} (hl : stLen n s = true) (hv : ∀ i, i < n.Ns.xs.length → okV n.Ns.xs s.V.xs s.P.xs i = true) (ho : ∀ i, i < n.Ls.xs.length → okS n.Ls.xs s.S.xs s.O.xs i = true) : stB n s = true := by
  rw [stB_is hl, Bool.and_eq_true, allFrom_iff, allFrom_iff]
  exact ⟨hv, ho⟩
theorem stB_parts {n : Net} {s : St} (h : stB n s = true) : stLen n s = true ∧ (∀ i, i < n.Ns.xs.length → okV n.Ns.xs s.V.xs s.P.xs i = true) ∧ (∀ i, i < n.Ls.xs.length → okS n.Ls.xs s.S.xs s.O.xs i = true) := by
  have hl : stLen n s = true := by cases q : stLen n s; rw [stB_len q] at h; cases h; rfl
  have h2 := h
  rw [stB_is hl, Bool.and_eq_true, allFrom_iff, allFrom_iff] at h2
  exact ⟨hl, h2.1, h2.2⟩

/-- What came out of filling: the lists. -/
structure Filled (n : Net) (s x : St) (k : Nat) (a v p IN : Int) : Prop where
  kv : k < s.V.xs.length
  kp : k < s.P.xs.length
  eV : s.V.xs[k] = v
  eP : s.P.xs[k] = p
  eI : inV (capB (ndAt n k)) v a = IN
  kind : (ndAt n k).Kind ≠ 3
  fits : p + (a - IN) ≤ 1125899906842624
  xV : x.V.xs = s.V.xs.set k (v + IN)
  xP : x.P.xs = s.P.xs.set k (p + (a - IN))
  xS : x.S.xs = s.S.xs
  xO : x.O.xs = s.O.xs
theorem filled_of {n : Net} {s x : St} {k : Nat} {a : Int} (hs : stB n s = true) (hk : k < n.Ns.xs.length) (h0 : (fillG n (stL s) k a).2 = 0) (hx : stL x = (fillG n (stL s) k a).1) : ∃ v p IN, Filled n s x k a v p IN := by
  have hl := stB_lens hs
  have kv : k < s.V.xs.length := by omega
  have kp : k < s.P.xs.length := by omega
  unfold fillG at h0 hx
  split at h0
  · cases h0
  · rename_i k3
    rw [if_neg k3] at hx
    split at h0
    · cases h0
    · rename_i kf
      rw [if_neg kf] at hx
      simp only [stL, List.getD, List.getElem?_eq_getElem kv, List.getElem?_eq_getElem kp, Option.getD_some, Prod.mk.injEq] at hx kf
      exact ⟨_, _, _, kv, kp, rfl, rfl, rfl, k3, by omega, hx.1, hx.2.1, hx.2.2.1, hx.2.2.2⟩
theorem Filled.nd {n : Net} {s x : St} {k : Nat} {a v p IN : Int} (h : Filled n s x k a v p IN) (hk : k < n.Ns.xs.length) : ndAt n k = n.Ns.xs[k] := by
  simp [ndAt, List.getD, List.getElem?_eq_getElem hk]

/-- The facts of a right state at the node. -/
theorem Filled.at {n : Net} {s x : St} {k : Nat} {a v p IN : Int} (h : Filled n s x k a v p IN) (hn : netB n = true) (hs : stB n s = true) (hk : k < n.Ns.xs.length) : 0 ≤ v ∧ v ≤ capB (ndAt n k) ∧ capB (ndAt n k) ≤ 1125899906842624 ∧ 0 ≤ p ∧ p ≤ 1125899906842624 := by
  have := st_at hn hs k hk h.kv h.kp
  rw [h.eV, h.eP, ← h.nd hk] at this
  exact this
theorem Filled.right {n : Net} {s x : St} {k : Nat} {a v p IN : Int} (h : Filled n s x k a v p IN) (hn : netB n = true) (hs : stB n s = true) (hk : k < n.Ns.xs.length) (ha : 0 ≤ a) : stB n x = true := by
  obtain ⟨q1, q2, q3, q4, q5⟩ := h.at hn hs hk
  obtain ⟨r1, r2, r3, r4⟩ := in_bd q2 ha
  rw [h.eI] at r1 r2 r3 r4
  obtain ⟨hl, hv, ho⟩ := stB_parts hs
  refine stB_of ?_ ?_ ?_
  · simp [stLen] at hl ⊢
    rw [h.xV, h.xP, h.xS, h.xO]
    simp; omega
  · intro i hi
    have h0 := hv i hi
    rw [h.xV, h.xP]
    have hl2 := stB_lens hs
    by_cases hik : i = k
    · subst hik
      rw [okV_at hi (by simp; omega) (by simp; omega)]
      simp only [List.getElem_set_self]
      rw [← h.nd hk]
      have k3 := h.kind
      have hf := h.fits
      simp [btwB, volB, k3]
      omega
    · have iv : i < s.V.xs.length := by omega
      have ip : i < s.P.xs.length := by omega
      rw [okV_at hi (by simp; omega) (by simp; omega)]
      rw [okV_at hi iv ip] at h0
      rw [List.getElem_set_ne (by omega), List.getElem_set_ne (by omega)]
      exact h0
  · intro i hi
    rw [h.xS, h.xO]
    exact ho i hi

theorem st_all {n : Net} {s : St} (hn : netB n = true) (hs : stB n s = true) : (∀ x ∈ s.V.xs, 0 ≤ x ∧ x ≤ 1125899906842624) ∧ (∀ x ∈ s.P.xs, 0 ≤ x ∧ x ≤ 1125899906842624) := by
  have hl := stB_lens hs
  constructor
  · intro x hx
    obtain ⟨i, hi, rfl⟩ := List.mem_iff_getElem.1 hx
    have := st_at hn hs i (by omega) hi (by omega)
    omega
  · intro x hx
    obtain ⟨i, hi, rfl⟩ := List.mem_iff_getElem.1 hx
    have := st_at hn hs i (by omega) (by omega) hi
    omega
theorem heldV_sum {n : Net} {s : St} (hn : netB n = true) (hs : stB n s = true) (h30 : n.Ns.xs.length ≤ 30) : heldV s = sumL s.V.xs s.P.xs ∧ 0 ≤ heldV s ∧ heldV s ≤ 67553994410557440 := by
  obtain ⟨h1, h2⟩ := st_all hn hs
  have hl := stB_lens hs
  have e := heldGo_sum s.V.xs s.P.xs 0 h1 h2 (by omega) (by omega)
  have b := sumL_bd s.V.xs s.P.xs h1 h2
  unfold heldV
  rw [e]
  omega
theorem Filled.held {n : Net} {s x : St} {k : Nat} {a v p IN : Int} (h : Filled n s x k a v p IN) (hn : netB n = true) (hs : stB n s = true) (hk : k < n.Ns.xs.length) (ha : 0 ≤ a) (h30 : n.Ns.xs.length ≤ 30) : heldV x = heldV s + a := by
  have hx := h.right hn hs hk ha
  rw [(heldV_sum hn hx h30).1, (heldV_sum hn hs h30).1, h.xV, h.xP]
  have := fill_held s.V.xs s.P.xs k h.kv h.kp (capB (ndAt n k)) a
  simp only [h.eV, h.eP, h.eI] at this
  exact this
theorem Filled.twice {n : Net} {s x : St} {k : Nat} {a v p IN b : Int} (h : Filled n s x k a v p IN) (hn : netB n = true) (hs : stB n s = true) (hk : k < n.Ns.xs.length) (ha : 0 ≤ a) (hb : 0 ≤ b) : fillG n (stL x) k b = fillG n (stL s) k (a + b) := by
  obtain ⟨q1, q2, q3, q4, q5⟩ := h.at hn hs hk
  obtain ⟨t1, t2⟩ := fill_twice (c := capB (ndAt n k)) (v := v) (p := p) (a := a) (b := b) q2 ha hb
  rw [h.eI] at t1 t2
  have k3 := h.kind
  have eV : (stL x).1.getD k 0 = v + IN := by
    simp only [stL, h.xV, List.getD]
    rw [List.getElem?_set_self h.kv]; rfl
  have eP : (stL x).2.1.getD k 0 = p + (a - IN) := by
    simp only [stL, h.xP, List.getD]
    rw [List.getElem?_set_self h.kp]; rfl
  have sV : (stL s).1.getD k 0 = v := by simp only [stL, List.getD, List.getElem?_eq_getElem h.kv, Option.getD_some]; exact h.eV
  have sP : (stL s).2.1.getD k 0 = p := by simp only [stL, List.getD, List.getElem?_eq_getElem h.kp, Option.getD_some]; exact h.eP
  unfold fillG
  rw [if_neg k3, if_neg k3, eV, eP, sV, sP, t2]
  split
  · rfl
  · simp only [stL, h.xV, h.xP, h.xS, h.xO, List.set_set, t1]

end Go.Proofs.YtjgfgbiohbgcaaaGreat
