/- Plain laws of graphs: what is reached, lengths of shortest walks, orders. No program is named. Conditions: none. | Shortest paths and least loops, in plain words. No program is named. Conditions: none. | Lengths of longest paths, in plain words. No program is named. Conditions: none. | What least paths are like, in plain words. No program is named. Conditions: none. -/
import Derived.Test.YtlcfnbnpkcjjlaaGreatMBase
namespace Go.Proofs.YtlcfnbnpkcjjlaaGreat.Gp
open Go.RowKit
set_option linter.unusedVariables false
set_option linter.unusedSimpArgs false

abbrev Gr := List (Nat × Nat)
def inE (E : Gr) (a b : Nat) : Bool := E.any fun e => e.1 == a && e.2 == b
theorem inE_iff {E : Gr} {a b : Nat} : inE E a b = true ↔ (a, b) ∈ E := by
  unfold inE
  rw [List.any_eq_true]
  constructor
  · rintro ⟨⟨x, y⟩, hm, h⟩
    simp only [Bool.and_eq_true, beq_iff_eq] at h
    obtain ⟨rfl, rfl⟩ := h
    exact hm
  · intro h
    exact ⟨(a, b), h, by simp⟩
def nxt (n : Nat) (E : Gr) (v : Nat) : List Nat := (List.range n).filter fun k => inE E v k
def vtx (n : Nat) (E : Gr) : Prop := ∀ e ∈ E, e.1 < n ∧ e.2 < n
def rev (E : Gr) : Gr := E.map fun e => (e.2, e.1)
theorem inE_rev (E : Gr) (a b : Nat) : inE (rev E) a b = inE E b a := by
  unfold inE rev
  rw [List.any_map]
  congr 1; funext e; simp [Bool.and_comm]
theorem vtx_rev {n : Nat} {E : Gr} (h : vtx n E) : vtx n (rev E) := by
  intro e he
  unfold rev at he
  obtain ⟨x, hx, rfl⟩ := List.mem_map.1 he
  exact ⟨(h x hx).2, (h x hx).1⟩
theorem vtx_in {n : Nat} {E : Gr} (h : vtx n E) {a b : Nat} (hab : inE E a b = true) : a < n ∧ b < n := h _ (inE_iff.1 hab)
theorem mem_nxt {n : Nat} {E : Gr} {v k : Nat} : k ∈ nxt n E v ↔ k < n ∧ inE E v k = true := by
  unfold nxt; rw [List.mem_filter, List.mem_range]

/-- Strictly ascending lists with the same elements are equal. -/
theorem asc_ext : ∀ {a b : List Nat}, a.Pairwise (· < ·) → b.Pairwise (· < ·) → (∀ x, x ∈ a ↔ x ∈ b) → a = b
  | [], [], _, _, _ => rfl
  | [], y :: s, _, _, h => by have := (h y).2 (List.mem_cons_self ..); cases this
  | x :: r, [], _, _, h => by have := (h x).1 (List.mem_cons_self ..); cases this
  | x :: r, y :: s, ha, hb, h => by
    obtain ⟨ha1, ha2⟩ := List.pairwise_cons.1 ha
    obtain ⟨hb1, hb2⟩ := List.pairwise_cons.1 hb
    have hxy : x = y := by
      rcases List.mem_cons.1 ((h x).1 (List.mem_cons_self ..)) with e | e
      · exact e
      · rcases List.mem_cons.1 ((h y).2 (List.mem_cons_self ..)) with e' | e'
        · exact e'.symm
        · have := ha1 y e'; have := hb1 x e; omega
    subst hxy
    congr 1
    refine asc_ext ha2 hb2 fun z => ?_
    constructor
    · intro hz
      rcases List.mem_cons.1 ((h z).1 (List.mem_cons_of_mem _ hz)) with e | e
      · have := ha1 z hz; omega
      · exact e
    · intro hz
      rcases List.mem_cons.1 ((h z).2 (List.mem_cons_of_mem _ hz)) with e | e
      · have := hb1 z hz; omega
      · exact e
theorem range_asc (n : Nat) : (List.range n).Pairwise (· < ·) := List.pairwise_lt_range
theorem filter_asc {l : List Nat} (p : Nat → Bool) (h : l.Pairwise (· < ·)) : (l.filter p).Pairwise (· < ·) := List.Pairwise.filter _ h
theorem nxt_asc (n : Nat) (E : Gr) (v : Nat) : (nxt n E v).Pairwise (· < ·) := filter_asc _ (range_asc n)
theorem asc_nodup {l : List Nat} (h : l.Pairwise (· < ·)) : l.Nodup := List.Pairwise.imp (fun h => Nat.ne_of_lt h) h
theorem nxt_nodup (n : Nat) (E : Gr) (v : Nat) : (nxt n E v).Nodup := asc_nodup (nxt_asc n E v)

/-- Distinct numbers below n are at most n. -/
theorem nodup_le : ∀ (n : Nat) (l : List Nat), l.Nodup → (∀ x ∈ l, x < n) → l.length ≤ n
  | 0, l, _, h => by
    cases l with
    | nil => simp
    | cons x r => have := h x (List.mem_cons_self ..); omega
  | n + 1, l, hd, h => by
    by_cases hn : n ∈ l
    · have h1 : (l.erase n).length = l.length - 1 := List.length_erase_of_mem hn
      have h2 := nodup_le n (l.erase n) (hd.erase n) (fun x hx => by
        have h3 := (List.Nodup.mem_erase_iff hd).1 hx
        have := h x h3.2
        have := h3.1
        omega)
      omega
    · have := nodup_le n l hd (fun x hx => by
        have := h x hx
        have : x ≠ n := fun e => hn (e ▸ hx)
        omega)
      omega

/-- b is reached from a. -/
inductive Rch (E : Gr) (a : Nat) : Nat → Prop where
  | refl : Rch E a a
  | step {b c : Nat} : Rch E a b → inE E b c = true → Rch E a c
theorem Rch.trans {E : Gr} {a b c : Nat} (h : Rch E a b) (h2 : Rch E b c) : Rch E a c := by
  induction h2 with
  | refl => exact h
  | step _ e ih => exact .step ih e
theorem Rch.edge {E : Gr} {a b : Nat} (h : inE E a b = true) : Rch E a b := .step .refl h
theorem Rch.lt {E : Gr} {n a b : Nat} (hv : vtx n E) (ha : a < n) (h : Rch E a b) : b < n := by
  cases h with
  | refl => exact ha
  | step _ e => exact (vtx_in hv e).2
theorem Rch.head {E : Gr} {a b : Nat} (h : Rch E a b) : a = b ∨ ∃ c, inE E a c = true ∧ Rch E c b := by
  induction h with
  | refl => exact .inl rfl
  | @step b c h e ih =>
    rcases ih with rfl | ⟨d, h1, h2⟩
    · exact .inr ⟨c, e, .refl⟩
    · exact .inr ⟨d, h1, .step h2 e⟩
theorem Rch.rev {E : Gr} {a b : Nat} (h : Rch E a b) : Rch (rev E) b a := by
  induction h with
  | refl => exact .refl
  | step _ e ih => exact (Rch.edge (by rw [inE_rev]; exact e)).trans ih

open Classical in
/-- What is reached from some nodes. -/
noncomputable def reachL (n : Nat) (E : Gr) (from' : List Nat) : List Bool := (List.range n).map fun v => decide (∃ s ∈ from', Rch E s v)
theorem reachL_len (n : Nat) (E : Gr) (f : List Nat) : (reachL n E f).length = n := by simp [reachL]
theorem reachL_get {n : Nat} {E : Gr} {f : List Nat} {v : Nat} (hv : v < n) : (reachL n E f).getD v false = true ↔ ∃ s ∈ f, Rch E s v := by
  simp [reachL, List.getD, hv]

/-- A list of marks that is sound, closed and holds the beginning is what is reached. -/
theorem reachL_is {n : Nat} {E : Gr} {f : List Nat} (hv : vtx n E) (hf : ∀ s ∈ f, s < n) {out : List Bool} (hl : out.length = n)
    (hs : ∀ v, v < n → out.getD v false = true → ∃ s ∈ f, Rch E s v) (h0 : ∀ s ∈ f, out.getD s false = true)
    (hc : ∀ a b, inE E a b = true → out.getD a false = true → out.getD b false = true) : out = reachL n E f := by
  have key : ∀ s ∈ f, ∀ v, Rch E s v → out.getD v false = true := by
    intro s hs' v h
    induction h with
    | refl => exact h0 s hs'
    | step _ e ih => exact hc _ _ e ih
  apply List.ext_getElem
  · rw [hl, reachL_len]
  · intro i h1 h2
    have hi : i < n := by omega
    have e1 : out.getD i false = out[i] := by simp [List.getD, h1]
    have e2 : (reachL n E f).getD i false = (reachL n E f)[i] := by simp [List.getD, h2]
    rw [← e1, ← e2]
    rw [Bool.eq_iff_iff, reachL_get hi]
    exact ⟨hs i hi, fun ⟨s, hs', hr⟩ => key s hs' i hr⟩

theorem getD_set_self {α : Type} {l : List α} {i : Nat} (h : i < l.length) (x d : α) : (l.set i x).getD i d = x := by simp [List.getD, h]
theorem getD_set_ne {α : Type} {l : List α} {i j : Nat} (h : i ≠ j) (x d : α) : (l.set i x).getD j d = l.getD j d := by simp [List.getD, h]

/-! The depth-first search. -/
structure DInv (n : Nat) (E : Gr) (f : List Nat) (out : List Bool) (stack : List Nat) : Prop where
  len : out.length = n
  stk : ∀ s ∈ stack, s < n ∧ ∃ t ∈ f, Rch E t s
  snd : ∀ v, v < n → out.getD v false = true → ∃ s ∈ f, Rch E s v
  beg : ∀ s ∈ f, out.getD s false = true ∨ s ∈ stack
  clo : ∀ a b, inE E a b = true → out.getD a false = true → out.getD b false = true ∨ b ∈ stack
theorem DInv.start {n : Nat} {E : Gr} {f : List Nat} (hf : ∀ s ∈ f, s < n) : DInv n E f (List.replicate n false) f :=
  ⟨by simp, fun s hs => ⟨hf s hs, s, hs, .refl⟩, fun v hv h => by simp [List.getD, hv] at h, fun s hs => .inr hs, fun a b _ h => by
    simp only [List.getD, List.getElem?_replicate] at h
    split at h <;> simp at h⟩
theorem DInv.skip {n : Nat} {E : Gr} {f : List Nat} {out : List Bool} {st : List Nat} {i : Nat} (h : DInv n E f out (st ++ [i])) (hi : out.getD i false = true) : DInv n E f out st := by
  refine ⟨h.len, fun s hs => h.stk s (List.mem_append_left _ hs), h.snd, fun s hs => ?_, fun a b e ha => ?_⟩
  · rcases h.beg s hs with h1 | h1
    · exact .inl h1
    · rcases List.mem_append.1 h1 with h2 | h2
      · exact .inr h2
      · rw [List.mem_singleton] at h2; subst h2; exact .inl hi
  · rcases h.clo a b e ha with h1 | h1
    · exact .inl h1
    · rcases List.mem_append.1 h1 with h2 | h2
      · exact .inr h2
      · rw [List.mem_singleton] at h2; subst h2; exact .inl hi
theorem DInv.take {n : Nat} {E : Gr} (hv : vtx n E) {f : List Nat} {out : List Bool} {st : List Nat} {i : Nat} (h : DInv n E f out (st ++ [i])) (hi : out.getD i false = false) :
    DInv n E f (out.set i true) (st ++ nxt n E i) := by
  obtain ⟨hin, t, ht, hr⟩ := h.stk i (by simp)
  have hil : i < out.length := by rw [h.len]; exact hin
  refine ⟨by simp [h.len], fun s hs => ?_, fun v hv' hvt => ?_, fun s hs => ?_, fun a b e ha => ?_⟩
  · rcases List.mem_append.1 hs with h1 | h1
    · exact h.stk s (List.mem_append_left _ h1)
    · have := mem_nxt.1 h1
      exact ⟨this.1, t, ht, .step hr this.2⟩
  · by_cases hiv : i = v
    · subst hiv; exact ⟨t, ht, hr⟩
    · rw [getD_set_ne hiv] at hvt; exact h.snd v hv' hvt
  · by_cases his : i = s
    · subst his; exact .inl (getD_set_self hil _ _)
    · rw [getD_set_ne his]
      rcases h.beg s hs with h1 | h1
      · exact .inl h1
      · rcases List.mem_append.1 h1 with h2 | h2
        · exact .inr (List.mem_append_left _ h2)
        · rw [List.mem_singleton] at h2; exact absurd h2.symm his
  · by_cases hia : i = a
    · subst hia
      exact .inr (List.mem_append_right _ (mem_nxt.2 ⟨(vtx_in hv e).2, e⟩))
    · rw [getD_set_ne hia] at ha
      by_cases hib : i = b
      · subst hib; exact .inl (getD_set_self hil _ _)
      · rw [getD_set_ne hib]
        rcases h.clo a b e ha with h1 | h1
        · exact .inl h1
        · rcases List.mem_append.1 h1 with h2 | h2
          · exact .inr (List.mem_append_left _ h2)
          · rw [List.mem_singleton] at h2; exact absurd h2.symm hib
theorem DInv.done {n : Nat} {E : Gr} (hv : vtx n E) {f : List Nat} (hf : ∀ s ∈ f, s < n) {out : List Bool} (h : DInv n E f out []) : out = reachL n E f :=
  reachL_is hv hf h.len h.snd (fun s hs => by rcases h.beg s hs with h1 | h1; exact h1; cases h1) (fun a b e ha => by rcases h.clo a b e ha with h1 | h1; exact h1; cases h1)
/-- How many are not marked yet. -/
def unm (out : List Bool) : Nat := out.countP (fun b => !b)
theorem unm_set : ∀ {out : List Bool} {i : Nat}, i < out.length → out.getD i false = false → unm (out.set i true) + 1 = unm out
  | x :: r, 0, _, h => by
    simp [List.getD] at h; subst h
    simp [unm]
  | x :: r, i + 1, hi, h => by
    have ih := unm_set (out := r) (i := i) (by simpa using hi) (by simpa [List.getD] using h)
    unfold unm at ih ⊢
    cases x <;> simp <;> omega
theorem nxt_len (n : Nat) (E : Gr) (v : Nat) : (nxt n E v).length ≤ n := by
  unfold nxt
  exact Nat.le_trans (List.length_filter_le _ _) (by simp)

/-! The search of the reference: over and over all edges. -/
structure MInv (n : Nat) (E : Gr) (f : List Nat) (out : List Bool) : Prop where
  len : out.length = n
  snd : ∀ v, v < n → out.getD v false = true → ∃ s ∈ f, Rch E s v
  beg : ∀ s ∈ f, out.getD s false = true
/-- One round over the edges: what it marks, and whether it marked any. -/
def markE : Gr → List Bool → Bool → List Bool × Bool
  | [], out, m => (out, m)
  | e :: r, out, m => if out.getD e.1 false && !out.getD e.2 false then markE r (out.set e.2 true) true else markE r out m
/-- The marks at the beginning. -/
def begL (n : Nat) : List Nat → List Bool → List Bool
  | [], out => out
  | s :: r, out => begL n r (out.set s true)
theorem begL_len (n : Nat) : ∀ (f : List Nat) (out : List Bool), (begL n f out).length = out.length
  | [], _ => rfl
  | s :: r, out => by simp [begL, begL_len n r]
theorem begL_get (n : Nat) : ∀ (f : List Nat) (out : List Bool), (∀ s ∈ f, s < out.length) → ∀ v, (begL n f out).getD v false = true ↔ v ∈ f ∨ out.getD v false = true
  | [], out, _, v => by simp [begL]
  | s :: r, out, h, v => by
    have hs : s < out.length := h s (List.mem_cons_self ..)
    rw [begL, begL_get n r _ (fun x hx => by simpa using h x (List.mem_cons_of_mem _ hx)) v]
    by_cases hsv : s = v
    · subst hsv
      constructor
      · intro _; exact .inl (List.mem_cons_self ..)
      · intro _; exact .inr (getD_set_self hs _ _)
    · rw [getD_set_ne hsv, List.mem_cons]
      constructor
      · rintro (h | h)
        · exact .inl (.inr h)
        · exact .inr h
      · rintro ((h | h) | h)
        · exact absurd h.symm hsv
        · exact .inl h
        · exact .inr h
theorem MInv.start {n : Nat} {E : Gr} {f : List Nat} (hf : ∀ s ∈ f, s < n) : MInv n E f (begL n f (List.replicate n false)) := by
  have hf' : ∀ s ∈ f, s < (List.replicate n false).length := fun s hs => by simpa using hf s hs
  refine ⟨by simp [begL_len], fun v hv h => ?_, fun s hs => (begL_get n f _ hf' s).2 (.inl hs)⟩
  rcases (begL_get n f _ hf' v).1 h with h1 | h1
  · exact ⟨v, h1, .refl⟩
  · simp [List.getD, hv] at h1
theorem markE_true (E : Gr) : ∀ {r : Gr} {out : List Bool}, (markE r out true).2 = true
  | [], _ => rfl
  | e :: r, out => by
    unfold markE
    split
    · exact markE_true E
    · exact markE_true E
theorem markE_len : ∀ (r : Gr) (out : List Bool) (m : Bool), (markE r out m).1.length = out.length
  | [], _, _ => rfl
  | e :: r, out, m => by
    unfold markE
    split
    · rw [markE_len r]; simp
    · exact markE_len r _ _
theorem markE_inv {n : Nat} {E : Gr} (hv : vtx n E) {f : List Nat} : ∀ (r : Gr) (out : List Bool) (m : Bool), (∀ e ∈ r, e ∈ E) → MInv n E f out → MInv n E f (markE r out m).1
  | [], _, _, _, h => h
  | e :: r, out, m, hr, h => by
    have he := hr e (List.mem_cons_self ..)
    have hb := hv e he
    unfold markE
    split
    · rename_i hc
      simp only [Bool.and_eq_true, Bool.not_eq_true'] at hc
      refine markE_inv hv r _ _ (fun x hx => hr x (List.mem_cons_of_mem _ hx)) ⟨by simp [h.len], fun v hv' hvt => ?_, fun s hs => ?_⟩
      · by_cases h2 : e.2 = v
        · obtain ⟨s, hs, hs2⟩ := h.snd e.1 hb.1 hc.1
          subst h2
          exact ⟨s, hs, .step hs2 (inE_iff.2 he)⟩
        · rw [getD_set_ne h2] at hvt; exact h.snd v hv' hvt
      · by_cases h2 : e.2 = s
        · subst h2; exact getD_set_self (by rw [h.len]; exact hb.2) _ _
        · rw [getD_set_ne h2]; exact h.beg s hs
    · exact markE_inv hv r _ _ (fun x hx => hr x (List.mem_cons_of_mem _ hx)) h
theorem unm_le_set : ∀ (out : List Bool) (i : Nat), unm (out.set i true) ≤ unm out
  | [], _ => Nat.le_refl _
  | x :: r, 0 => by unfold unm; cases x <;> simp
  | x :: r, i + 1 => by
    have := unm_le_set r i
    unfold unm at this ⊢
    cases x <;> simp <;> omega
theorem markE_unm : ∀ (r : Gr) (out : List Bool) (m : Bool), (∀ e ∈ r, e.2 < out.length) → unm (markE r out m).1 ≤ unm out ∧ ((markE r out m).2 = true → m = true ∨ unm (markE r out m).1 < unm out)
  | [], _, _, _ => ⟨Nat.le_refl _, fun h => .inl h⟩
  | e :: r, out, m, hl => by
    unfold markE
    split
    · rename_i hc
      simp only [Bool.and_eq_true, Bool.not_eq_true'] at hc
      have h1 := unm_set (hl e (List.mem_cons_self ..)) hc.2
      have h2 := (markE_unm r (out.set e.2 true) true (fun x hx => by simpa using hl x (List.mem_cons_of_mem _ hx))).1
      exact ⟨by omega, fun _ => .inr (by omega)⟩
    · exact markE_unm r out m (fun x hx => hl x (List.mem_cons_of_mem _ hx))
theorem markE_false : ∀ (r : Gr) (out : List Bool), (markE r out false).2 = false → (markE r out false).1 = out ∧ ∀ e ∈ r, out.getD e.1 false = true → out.getD e.2 false = true
  | [], _, _ => ⟨rfl, fun e he => by cases he⟩
  | e :: r, out, h => by
    unfold markE at h ⊢
    split at h
    · rw [markE_true r] at h; cases h
    · rename_i hc
      rw [if_neg hc]
      obtain ⟨h1, h2⟩ := markE_false r out h
      refine ⟨h1, fun x hx => ?_⟩
      rcases List.mem_cons.1 hx with rfl | hx
      · intro hx1
        cases hx2 : out.getD x.2 false
        · rw [hx1, hx2] at hc; exact absurd rfl hc
        · rfl
      · exact h2 x hx
theorem MInv.done {n : Nat} {E : Gr} (hv : vtx n E) {f : List Nat} (hf : ∀ s ∈ f, s < n) {out : List Bool} (h : MInv n E f out) (hm : (markE E out false).2 = false) : out = reachL n E f :=
  reachL_is hv hf h.len h.snd h.beg (fun a b e ha => (markE_false E out hm).2 _ (inE_iff.1 e) ha)

/-- A walk of k edges from a node to b over nodes from low on. -/
inductive Wk (E : Gr) (low b : Nat) : Nat → Nat → Prop where
  | zero : Wk E low b b 0
  | succ {x y k : Nat} : inE E x y = true → low ≤ x → low ≤ y → Wk E low b y k → Wk E low b x (k + 1)
/-- With rd: of one edge at least. -/
def Tk (E : Gr) (low b : Nat) (rd : Bool) (x k : Nat) : Prop := Wk E low b x k ∧ (rd = true → 1 ≤ k)
def Dk (E : Gr) (low b : Nat) (rd : Bool) (x k : Nat) : Prop := Tk E low b rd x k ∧ ∀ j, j < k → ¬ Tk E low b rd x j
/-- The list of the shortest lengths. -/
structure IsD (n : Nat) (E : Gr) (low b : Nat) (rd : Bool) (st : List Int) : Prop where
  len : st.length = n
  at' : ∀ x, x < n → (st.getD x (-1) = -1 ∧ ∀ k, ¬ Tk E low b rd x k) ∨ ∃ k : Nat, st.getD x (-1) = (k : Int) ∧ Dk E low b rd x k
theorem Dk.uniq {E : Gr} {low b : Nat} {rd : Bool} {x j k : Nat} (h1 : Dk E low b rd x j) (h2 : Dk E low b rd x k) : j = k := by
  rcases Nat.lt_trichotomy j k with h | h | h
  · exact absurd h1.1 (h2.2 j h)
  · exact h
  · exact absurd h2.1 (h1.2 k h)
theorem IsD.uniq {n : Nat} {E : Gr} {low b : Nat} {rd : Bool} {s t : List Int} (h1 : IsD n E low b rd s) (h2 : IsD n E low b rd t) : s = t := by
  apply List.ext_getElem
  · rw [h1.len, h2.len]
  · intro i hi hj
    have hin : i < n := by have := h1.len; omega
    have e1 : s.getD i (-1) = s[i] := by simp [List.getD, hi]
    have e2 : t.getD i (-1) = t[i] := by simp [List.getD, hj]
    rw [← e1, ← e2]
    rcases h1.at' i hin with ⟨q1, q2⟩ | ⟨k, q1, q2⟩
    · rcases h2.at' i hin with ⟨r1, r2⟩ | ⟨j, r1, r2⟩
      · rw [q1, r1]
      · exact absurd r2.1 (q2 j)
    · rcases h2.at' i hin with ⟨r1, r2⟩ | ⟨j, r1, r2⟩
      · exact absurd q2.1 (r2 k)
      · rw [q1, r1, q2.uniq r2]
theorem Wk.lt {E : Gr} {n low b x k : Nat} (hv : vtx n E) (hb : b < n) (h : Wk E low b x k) : x < n := by
  cases h with
  | zero => exact hb
  | succ e _ _ _ => exact (vtx_in hv e).1
theorem Wk.ge {E : Gr} {low b x k : Nat} (hb : low ≤ b) (h : Wk E low b x k) : low ≤ x := by
  cases h with
  | zero => exact hb
  | succ _ h _ _ => exact h
theorem Wk.zero' {E : Gr} {low b x : Nat} (h : Wk E low b x 0) : x = b := by cases h; rfl
theorem Wk.succ' {E : Gr} {low b x k : Nat} (h : Wk E low b x (k + 1)) : ∃ y, inE E x y = true ∧ low ≤ x ∧ low ≤ y ∧ Wk E low b y k := by
  cases h with
  | succ e h1 h2 h3 => exact ⟨_, e, h1, h2, h3⟩
/-- The next node of a shortest walk. -/
theorem Dk.next {E : Gr} {low b : Nat} {rd : Bool} {x k : Nat} (h : Dk E low b rd x (k + 1)) : ∃ y, inE E x y = true ∧ low ≤ x ∧ low ≤ y ∧ Wk E low b y k ∧ (k = 0 ∨ Dk E low b rd y k) := by
  obtain ⟨y, h1, h2, h3, h4⟩ := h.1.1.succ'
  refine ⟨y, h1, h2, h3, h4, ?_⟩
  cases k with
  | zero => exact .inl rfl
  | succ k =>
    refine .inr ⟨⟨h4, fun _ => by omega⟩, fun j hj hT => h.2 (j + 1) (by omega) ⟨.succ h1 h2 h3 hT.1, fun _ => by omega⟩⟩
theorem Dk.down {E : Gr} {low b : Nat} {rd : Bool} : ∀ {k x j : Nat}, Dk E low b rd x k → 1 ≤ j → j ≤ k → ∃ y, Dk E low b rd y j
  | 0, x, j, _, h1, h2 => by omega
  | k + 1, x, j, h, h1, h2 => by
    by_cases hj : j = k + 1
    · subst hj; exact ⟨x, h⟩
    · obtain ⟨y, _, _, _, _, h5⟩ := h.next
      rcases h5 with h5 | h5
      · omega
      · exact Dk.down h5 h1 (by omega)
theorem Dk.of {E : Gr} {low b : Nat} {rd : Bool} {x : Nat} : ∀ {k : Nat}, Tk E low b rd x k → ∃ j, j ≤ k ∧ Dk E low b rd x j := by
  intro k
  induction k using Nat.strongRecOn with
  | _ k ih =>
    intro h
    by_cases hm : ∀ j, j < k → ¬ Tk E low b rd x j
    · exact ⟨k, Nat.le_refl _, h, hm⟩
    · have ⟨j, hj⟩ := Classical.not_forall.1 hm
      obtain ⟨hj1, hj2⟩ := Classical.not_imp.1 hj
      obtain ⟨i, hi, hd⟩ := ih j hj1 (Classical.not_not.1 hj2)
      exact ⟨i, by omega, hd⟩

/-! The reference's: a scan of all edges in each round. -/
def scanE (low : Nat) (d : Int) : Gr → List Int → List Int
  | [], st => st
  | e :: r, st => if decide (low ≤ e.1) && decide (low ≤ e.2) && (st.getD e.2 (-1) == d) && decide (st.getD e.1 (-1) < 0) then scanE low d r (st.set e.1 (d + 1)) else scanE low d r st
theorem scanE_len (low : Nat) (d : Int) : ∀ (r : Gr) (st : List Int), (scanE low d r st).length = st.length
  | [], _ => rfl
  | e :: r, st => by
    unfold scanE
    split
    · rw [scanE_len low d r]; simp
    · exact scanE_len low d r st
theorem scanE_get (low : Nat) (d : Int) (hd : 0 ≤ d) : ∀ (r : Gr) (st : List Int), (∀ e ∈ r, e.1 < st.length) → ∀ x,
    (0 ≤ st.getD x (-1) → (scanE low d r st).getD x (-1) = st.getD x (-1)) ∧
    (st.getD x (-1) < 0 → ((scanE low d r st).getD x (-1) = st.getD x (-1) ∧ ∀ e ∈ r, e.1 = x → low ≤ e.1 → low ≤ e.2 → st.getD e.2 (-1) ≠ d) ∨
      ((scanE low d r st).getD x (-1) = d + 1 ∧ ∃ e ∈ r, e.1 = x ∧ low ≤ e.1 ∧ low ≤ e.2 ∧ st.getD e.2 (-1) = d))
  | [], st, _, x => ⟨fun _ => rfl, fun _ => .inl ⟨rfl, fun e he => by cases he⟩⟩
  | e :: r, st, hl, x => by
    have hl' : ∀ f ∈ r, f.1 < st.length := fun f hf => hl f (List.mem_cons_of_mem _ hf)
    have he := hl e (List.mem_cons_self ..)
    unfold scanE
    split
    · rename_i hc
      simp only [Bool.and_eq_true, decide_eq_true_eq, beq_iff_eq] at hc
      obtain ⟨⟨⟨c1, c2⟩, c3⟩, c4⟩ := hc
      have hsame : ∀ y, (st.set e.1 (d + 1)).getD y (-1) = d ↔ st.getD y (-1) = d := by
        intro y
        by_cases hy : e.1 = y
        · subst hy
          rw [getD_set_self he]
          constructor <;> intro h <;> omega
        · rw [getD_set_ne hy]
      obtain ⟨ih1, ih2⟩ := scanE_get low d hd r (st.set e.1 (d + 1)) (fun f hf => by simpa using hl' f hf) x
      by_cases hx : e.1 = x
      · rw [← hx] at ih1 ih2 ⊢
        rw [getD_set_self he] at ih1
        refine ⟨fun h => by omega, fun _ => .inr ⟨ih1 (by omega), e, List.mem_cons_self .., rfl, c1, c2, c3⟩⟩
      · rw [getD_set_ne hx] at ih1 ih2
        refine ⟨ih1, fun h => ?_⟩
        rcases ih2 h with ⟨h1, h2⟩ | ⟨h1, f, hf, h2, h3, h4, h5⟩
        · refine .inl ⟨h1, fun f hf h3 h4 h5 => ?_⟩
          rcases List.mem_cons.1 hf with rfl | hf
          · exact absurd h3 hx
          · have := h2 f hf h3 h4 h5
            intro h6; exact this ((hsame _).2 h6)
        · exact .inr ⟨h1, f, List.mem_cons_of_mem _ hf, h2, h3, h4, (hsame _).1 h5⟩
    · rename_i hc
      obtain ⟨ih1, ih2⟩ := scanE_get low d hd r st hl' x
      refine ⟨ih1, fun h => ?_⟩
      rcases ih2 h with ⟨h1, h2⟩ | ⟨h1, f, hf, h2⟩
      · refine .inl ⟨h1, fun f hf h3 h4 h5 h6 => ?_⟩
        rcases List.mem_cons.1 hf with rfl | hf
        · apply hc
          simp only [Bool.and_eq_true, decide_eq_true_eq, beq_iff_eq]
          exact ⟨⟨⟨h4, h5⟩, h6⟩, by rw [h3]; exact h⟩
        · exact h2 f hf h3 h4 h5 h6
      · exact .inr ⟨h1, f, List.mem_cons_of_mem _ hf, h2⟩
def stepsF (E : Gr) (low : Nat) : Nat → Nat → List Int → List Int
  | 0, _, st => st
  | m + 1, d, st => stepsF E low m (d + 1) (scanE low d E st)
def begS (n b : Nat) : List Int := (List.replicate n (-1)).set b 0
def stepsL (n : Nat) (E : Gr) (b low : Nat) : List Int := stepsF E low n 0 (begS n b)
/-- After D rounds. -/
structure SInv (n : Nat) (E : Gr) (low b D : Nat) (st : List Int) : Prop where
  len : st.length = n
  at' : ∀ x, x < n → (st.getD x (-1) = -1 ∧ ∀ k, k ≤ D → ¬ Tk E low b false x k) ∨ ∃ k : Nat, k ≤ D ∧ st.getD x (-1) = (k : Int) ∧ Dk E low b false x k
theorem SInv.start {n : Nat} {E : Gr} {low b : Nat} (hb : b < n) : SInv n E low b 0 (begS n b) := by
  refine ⟨by simp [begS], fun x hx => ?_⟩
  by_cases hbx : b = x
  · subst hbx
    refine .inr ⟨0, Nat.le_refl _, ?_, ⟨.zero, fun h => by cases h⟩, fun j hj => by omega⟩
    unfold begS; rw [getD_set_self (by simpa using hb)]; rfl
  · refine .inl ⟨by unfold begS; rw [getD_set_ne hbx]; simp [List.getD, hx], fun k hk h => ?_⟩
    obtain rfl : k = 0 := by omega
    exact hbx h.1.zero'.symm
theorem SInv.round {n : Nat} {E : Gr} {low b D : Nat} {st : List Int} (hv : vtx n E) (h : SInv n E low b D st) : SInv n E low b (D + 1) (scanE low D E st) := by
  refine ⟨by rw [scanE_len]; exact h.len, fun x hx => ?_⟩
  obtain ⟨g1, g2⟩ := scanE_get low (D : Int) (by omega) E st (fun e he => by rw [h.len]; exact (hv e he).1) x
  rcases h.at' x hx with ⟨q1, q2⟩ | ⟨k, q1, q2, q3⟩
  · have hneg : st.getD x (-1) < 0 := by omega
    rcases g2 hneg with ⟨r1, r2⟩ | ⟨r1, e, he, r2, r3, r4, r5⟩
    · refine .inl ⟨by rw [r1]; exact q1, fun k hk hT => ?_⟩
      by_cases hkD : k ≤ D
      · exact q2 k hkD hT
      · obtain rfl : k = D + 1 := by omega
        have hD : Dk E low b false x (D + 1) := ⟨hT, fun j hj => q2 j (by omega)⟩
        obtain ⟨y, h1, h2, h3, h4, _⟩ := hD.next
        have hy := (vtx_in hv h1).2
        rcases h.at' y hy with ⟨s1, s2⟩ | ⟨j, s1, s2, s3⟩
        · exact s2 D (Nat.le_refl _) ⟨h4, fun h => by cases h⟩
        · have : j = D := by
            rcases Nat.lt_or_ge j D with hj | hj
            · exfalso
              exact q2 (j + 1) (by omega) ⟨.succ h1 h2 h3 s3.1.1, fun h => by cases h⟩
            · omega
          subst this
          exact r2 (x, y) (inE_iff.1 h1) rfl h2 h3 s2
    · refine .inr ⟨D + 1, Nat.le_refl _, by rw [r1]; omega, ⟨?_, fun h => by cases h⟩, fun j hj => q2 j (by omega)⟩
      have hy := (hv e he).2
      subst r2
      rcases h.at' e.2 hy with ⟨s1, s2⟩ | ⟨j, s1, s2, s3⟩
      · omega
      · obtain rfl : j = D := by omega
        exact .succ (inE_iff.2 he) r3 r4 s3.1.1
  · exact .inr ⟨k, by omega, by rw [g1 (by omega)]; exact q2, q3⟩
theorem SInv.rounds {n : Nat} {E : Gr} {low b : Nat} (hv : vtx n E) : ∀ (m D : Nat) (st : List Int), SInv n E low b D st → SInv n E low b (D + m) (stepsF E low m D st)
  | 0, D, st, h => h
  | m + 1, D, st, h => by
    have := SInv.rounds hv m (D + 1) _ (h.round hv)
    rw [show D + (m + 1) = D + 1 + m by omega]
    exact this
/-- A shortest walk has fewer edges than there are nodes. -/
theorem Dk.chain {E : Gr} {n low b : Nat} (hv : vtx n E) (hb : b < n) : ∀ {k x : Nat}, Dk E low b false x k → ∃ l : List Nat, l.length = k + 1 ∧ l.Nodup ∧ ∀ y ∈ l, y < n ∧ ∃ j, j ≤ k ∧ Dk E low b false y j
  | 0, x, h => ⟨[x], rfl, by simp, fun y hy => by rw [List.mem_singleton] at hy; subst hy; exact ⟨h.1.1.lt hv hb, 0, Nat.le_refl _, h⟩⟩
  | k + 1, x, h => by
    obtain ⟨y, h1, h2, h3, h4, h5⟩ := h.next
    have hy : Dk E low b false y k := by
      rcases h5 with rfl | h5
      · exact ⟨⟨h4, fun h => by cases h⟩, fun j hj => by omega⟩
      · exact h5
    obtain ⟨l, l1, l2, l3⟩ := Dk.chain hv hb hy
    refine ⟨x :: l, by simp [l1], List.nodup_cons.2 ⟨fun hx => ?_, l2⟩, fun z hz => ?_⟩
    · obtain ⟨_, j, hj, hd⟩ := l3 x hx
      have := hd.uniq h
      omega
    · rcases List.mem_cons.1 hz with rfl | hz
      · exact ⟨(vtx_in hv h1).1, k + 1, Nat.le_refl _, h⟩
      · obtain ⟨z1, j, hj, hd⟩ := l3 z hz
        exact ⟨z1, j, by omega, hd⟩
theorem Dk.small {E : Gr} {n low b : Nat} (hv : vtx n E) (hb : b < n) {k x : Nat} (h : Dk E low b false x k) : k < n := by
  obtain ⟨l, l1, l2, l3⟩ := Dk.chain hv hb h
  have := nodup_le n l l2 (fun y hy => (l3 y hy).1)
  omega
theorem stepsL_is {n : Nat} {E : Gr} {b low : Nat} (hv : vtx n E) (hb : b < n) : IsD n E low b false (stepsL n E b low) := by
  have h := SInv.rounds (low := low) hv n 0 _ (SInv.start (E := E) (low := low) hb)
  rw [Nat.zero_add] at h
  refine ⟨h.len, fun x hx => ?_⟩
  rcases h.at' x hx with ⟨q1, q2⟩ | ⟨k, q1, q2, q3⟩
  · refine .inl ⟨q1, fun k hT => ?_⟩
    obtain ⟨j, _, hd⟩ := Dk.of hT
    have := hd.small hv hb
    exact q2 j (by omega) hd.1
  · exact .inr ⟨k, q2, q3⟩
theorem stepsL_len {n : Nat} {E : Gr} {b low : Nat} (hv : vtx n E) (hb : b < n) : (stepsL n E b low).length = n := (stepsL_is hv hb).len

/-! The breadth-first search. -/
def bfsIn (low : Nat) (d : Int) : List Nat → List Int → List Nat → List Int × List Nat
  | [], out, more => (out, more)
  | k :: r, out, more => if decide (low ≤ k) && decide (out.getD k (-1) < 0) then bfsIn low d r (out.set k d) (more ++ [k]) else bfsIn low d r out more
def bfsQ (n : Nat) (E : Gr) (low : Nat) (d : Int) : List Nat → List Int → List Nat → List Int × List Nat
  | [], out, more => (out, more)
  | i :: q, out, more => bfsQ n E low d q (bfsIn low d (nxt n (rev E) i) out more).1 (bfsIn low d (nxt n (rev E) i) out more).2
def neg (out : List Int) : Nat := out.countP fun x => decide (x < 0)
theorem neg_set : ∀ {out : List Int} {i : Nat} {d : Int}, i < out.length → out.getD i (-1) < 0 → 0 ≤ d → neg (out.set i d) + 1 = neg out
  | x :: r, 0, d, _, h, hd => by
    simp [List.getD] at h
    unfold neg
    rw [List.set_cons_zero, List.countP_cons_of_pos (a := x) (by simpa using h), List.countP_cons_of_neg (by simpa using hd)]
  | x :: r, i + 1, d, hi, h, hd => by
    have ih := neg_set (out := r) (i := i) (d := d) (by simpa using hi) (by simpa [List.getD] using h) hd
    unfold neg at ih ⊢
    by_cases hx : x < 0
    · rw [List.set_cons_succ, List.countP_cons_of_pos (by simpa using hx), List.countP_cons_of_pos (by simpa using hx)]; omega
    · rw [List.set_cons_succ, List.countP_cons_of_neg (by simpa using hx), List.countP_cons_of_neg (by simpa using hx)]; exact ih
theorem bfsIn_len (low : Nat) (d : Int) : ∀ (ks : List Nat) (out : List Int) (more : List Nat), (bfsIn low d ks out more).1.length = out.length
  | [], _, _ => rfl
  | k :: r, out, more => by
    unfold bfsIn
    split
    · rw [bfsIn_len low d r]; simp
    · exact bfsIn_len low d r out more
theorem bfsIn_neg (low : Nat) (d : Int) (hd : 0 ≤ d) : ∀ (ks : List Nat) (out : List Int) (more : List Nat), (∀ k ∈ ks, k < out.length) → neg (bfsIn low d ks out more).1 + (bfsIn low d ks out more).2.length = neg out + more.length
  | [], _, _, _ => rfl
  | k :: r, out, more, hl => by
    unfold bfsIn
    split
    · rename_i hc
      simp only [Bool.and_eq_true, decide_eq_true_eq] at hc
      have h1 := neg_set (hl k (List.mem_cons_self ..)) hc.2 hd
      have h2 := bfsIn_neg low d hd r (out.set k d) (more ++ [k]) (fun x hx => by simpa using hl x (List.mem_cons_of_mem _ hx))
      simp only [List.length_append, List.length_cons, List.length_nil] at h2
      omega
    · exact bfsIn_neg low d hd r out more (fun x hx => hl x (List.mem_cons_of_mem _ hx))
theorem bfsQ_len (n : Nat) (E : Gr) (low : Nat) (d : Int) : ∀ (q : List Nat) (out : List Int) (more : List Nat), (bfsQ n E low d q out more).1.length = out.length
  | [], _, _ => rfl
  | i :: q, out, more => by
    unfold bfsQ
    rw [bfsQ_len n E low d q, bfsIn_len]
theorem bfsQ_neg (n : Nat) (E : Gr) (low : Nat) (d : Int) (hd : 0 ≤ d) : ∀ (q : List Nat) (out : List Int) (more : List Nat), out.length = n → neg (bfsQ n E low d q out more).1 + (bfsQ n E low d q out more).2.length = neg out + more.length
  | [], _, _, _ => rfl
  | i :: q, out, more, hl => by
    unfold bfsQ
    rw [bfsQ_neg n E low d hd q _ _ (by rw [bfsIn_len]; exact hl)]
    exact bfsIn_neg low d hd _ out more (fun k hk => by rw [hl]; exact (mem_nxt.1 hk).1)
/-- What a list of nodes to go back from has marked. -/
theorem bfsIn_get (low : Nat) (d : Int) (hd : 0 ≤ d) : ∀ (ks : List Nat) (out : List Int) (more : List Nat), (∀ k ∈ ks, k < out.length) → ∀ x,
    (0 ≤ out.getD x (-1) → (bfsIn low d ks out more).1.getD x (-1) = out.getD x (-1)) ∧
    (out.getD x (-1) < 0 → (bfsIn low d ks out more).1.getD x (-1) = if x ∈ ks ∧ low ≤ x then d else out.getD x (-1)) ∧
    (x ∈ (bfsIn low d ks out more).2 ↔ x ∈ more ∨ (out.getD x (-1) < 0 ∧ x ∈ ks ∧ low ≤ x))
  | [], out, more, _, x => by simp [bfsIn]
  | k :: r, out, more, hl, x => by
    have hk := hl k (List.mem_cons_self ..)
    have hl' : ∀ f ∈ r, f < out.length := fun f hf => hl f (List.mem_cons_of_mem _ hf)
    unfold bfsIn
    split
    · rename_i hc
      simp only [Bool.and_eq_true, decide_eq_true_eq] at hc
      obtain ⟨i1, i2, i3⟩ := bfsIn_get low d hd r (out.set k d) (more ++ [k]) (fun f hf => by simpa using hl' f hf) x
      by_cases hx : k = x
      · subst hx
        rw [getD_set_self hk] at i1 i2 i3
        refine ⟨fun h => by omega, fun h => ?_, ?_⟩
        · rw [i1 hd, if_pos ⟨List.mem_cons_self .., hc.1⟩]
        · rw [i3]
          constructor
          · intro _; exact .inr ⟨hc.2, List.mem_cons_self .., hc.1⟩
          · intro _; exact .inl (by simp)
      · rw [getD_set_ne hx] at i1 i2 i3
        have hmem : x ∈ k :: r ↔ x ∈ r := by
          rw [List.mem_cons]; exact ⟨fun h => h.resolve_left (fun e => hx e.symm), .inr⟩
        refine ⟨i1, fun h => ?_, ?_⟩
        · rw [i2 h]; simp only [hmem]
        · rw [i3, hmem, List.mem_append, List.mem_singleton]
          constructor
          · rintro ((h | h) | h)
            · exact .inl h
            · exact absurd h.symm hx
            · exact .inr h
          · rintro (h | h)
            · exact .inl (.inl h)
            · exact .inr h
    · rename_i hc
      obtain ⟨i1, i2, i3⟩ := bfsIn_get low d hd r out more hl' x
      have hmem : out.getD x (-1) < 0 → low ≤ x → (x ∈ k :: r ↔ x ∈ r) := by
        intro h1 h2
        rw [List.mem_cons]
        refine ⟨fun h => h.resolve_left (fun e => ?_), .inr⟩
        subst e
        apply hc
        simp only [Bool.and_eq_true, decide_eq_true_eq]
        exact ⟨h2, h1⟩
      refine ⟨i1, fun h => ?_, ?_⟩
      · rw [i2 h]
        by_cases h2 : low ≤ x
        · simp only [hmem h h2]
        · rw [if_neg (fun q => h2 q.2), if_neg (fun q => h2 q.2)]
      · rw [i3]
        constructor
        · rintro (h | ⟨h1, h2, h3⟩)
          · exact .inl h
          · exact .inr ⟨h1, (hmem h1 h3).2 h2, h3⟩
        · rintro (h | ⟨h1, h2, h3⟩)
          · exact .inl h
          · exact .inr ⟨h1, (hmem h1 h3).1 h2, h3⟩
theorem bfsQ_get (n : Nat) (E : Gr) (low : Nat) (d : Int) (hd : 0 ≤ d) : ∀ (q : List Nat) (out : List Int) (more : List Nat), out.length = n → ∀ x,
    (0 ≤ out.getD x (-1) → (bfsQ n E low d q out more).1.getD x (-1) = out.getD x (-1)) ∧
    (out.getD x (-1) < 0 → (bfsQ n E low d q out more).1.getD x (-1) = if (∃ i ∈ q, x ∈ nxt n (rev E) i) ∧ low ≤ x then d else out.getD x (-1)) ∧
    (x ∈ (bfsQ n E low d q out more).2 ↔ x ∈ more ∨ (out.getD x (-1) < 0 ∧ (∃ i ∈ q, x ∈ nxt n (rev E) i) ∧ low ≤ x))
  | [], out, more, _, x => by simp [bfsQ]
  | i :: q, out, more, hl, x => by
    unfold bfsQ
    obtain ⟨a1, a2, a3⟩ := bfsIn_get low d hd (nxt n (rev E) i) out more (fun k hk => by rw [hl]; exact (mem_nxt.1 hk).1) x
    obtain ⟨b1, b2, b3⟩ := bfsQ_get n E low d hd q (bfsIn low d (nxt n (rev E) i) out more).1 (bfsIn low d (nxt n (rev E) i) out more).2 (by rw [bfsIn_len]; exact hl) x
    refine ⟨fun h => ?_, fun h => ?_, ?_⟩
    · rw [b1 (by rw [a1 h]; exact h), a1 h]
    · by_cases hx : x ∈ nxt n (rev E) i ∧ low ≤ x
      · rw [if_pos hx] at a2
        have h2 := a2 h
        rw [b1 (by rw [h2]; exact hd), h2, if_pos ⟨⟨i, List.mem_cons_self .., hx.1⟩, hx.2⟩]
      · rw [if_neg hx] at a2
        have h2 := a2 h
        rw [b2 (by rw [h2]; exact h), h2]
        by_cases hq : (∃ i ∈ q, x ∈ nxt n (rev E) i) ∧ low ≤ x
        · obtain ⟨⟨j, hj, hj2⟩, hlo⟩ := hq
          rw [if_pos ⟨⟨j, hj, hj2⟩, hlo⟩, if_pos ⟨⟨j, List.mem_cons_of_mem _ hj, hj2⟩, hlo⟩]
        · rw [if_neg hq, if_neg]
          rintro ⟨⟨j, hj, hj2⟩, hlo⟩
          rcases List.mem_cons.1 hj with rfl | hj
          · exact hx ⟨hj2, hlo⟩
          · exact hq ⟨⟨j, hj, hj2⟩, hlo⟩
    · rw [b3, a3]
      by_cases h : out.getD x (-1) < 0
      · by_cases hx : x ∈ nxt n (rev E) i ∧ low ≤ x
        · constructor
          · intro _; exact .inr ⟨h, ⟨i, List.mem_cons_self .., hx.1⟩, hx.2⟩
          · intro _; exact .inl (.inr ⟨h, hx⟩)
        · have h2 := a2 h
          rw [if_neg hx] at h2
          rw [h2]
          constructor
          · rintro ((h1 | h1) | ⟨h1, ⟨j, hj, hj2⟩, hlo⟩)
            · exact .inl h1
            · exact absurd h1.2 hx
            · exact .inr ⟨h, ⟨j, List.mem_cons_of_mem _ hj, hj2⟩, hlo⟩
          · rintro (h1 | ⟨h1, ⟨j, hj, hj2⟩, hlo⟩)
            · exact .inl (.inl h1)
            · rcases List.mem_cons.1 hj with rfl | hj
              · exact absurd ⟨hj2, hlo⟩ hx
              · exact .inr ⟨h, ⟨j, hj, hj2⟩, hlo⟩
      · have h2 := a1 (by omega)
        rw [h2]
        constructor
        · rintro ((h1 | h1) | h1)
          · exact .inl h1
          · exact absurd h1.1 h
          · exact absurd h1.1 h
        · rintro (h1 | h1)
          · exact .inl (.inl h1)
          · exact absurd h1.1 h
/-- Ahead of the round that marks with d. -/
structure BInv (n : Nat) (E : Gr) (low b : Nat) (rd : Bool) (d : Nat) (out : List Int) (q : List Nat) : Prop where
  pos : 1 ≤ d
  len : out.length = n
  at' : ∀ x, x < n → (out.getD x (-1) = -1 ∧ ∀ k, k < d → ¬ Tk E low b rd x k) ∨ ∃ k : Nat, k < d ∧ out.getD x (-1) = (k : Int) ∧ Dk E low b rd x k
  snd : ∀ i ∈ q, i < n ∧ low ≤ i ∧ Wk E low b i (d - 1)
  all : ∀ y, Wk E low b y (d - 1) → (d = 1 ∨ Dk E low b rd y (d - 1)) → y ∈ q
def begB (n b : Nat) (rd : Bool) : List Int := if rd then List.replicate n (-1) else begS n b
theorem BInv.start {n : Nat} {E : Gr} {low b : Nat} (rd : Bool) (hb : b < n) (hlo : low ≤ b) : BInv n E low b rd 1 (begB n b rd) [b] := by
  refine ⟨Nat.le_refl _, ?_, ?_, ?_, ?_⟩
  · unfold begB; split
    · simp
    · simp [begS]
  · intro x hx
    unfold begB
    cases rd
    · rw [if_neg (by simp)]
      rcases (SInv.start (E := E) (low := low) hb).at' x hx with ⟨h1, h2⟩ | ⟨k, h1, h2, h3⟩
      · exact .inl ⟨h1, fun k hk => h2 k (by omega)⟩
      · exact .inr ⟨k, by omega, h2, h3⟩
    · rw [if_pos rfl]
      exact .inl ⟨by simp [List.getD, hx], fun k hk h => by have := h.2 rfl; omega⟩
  · intro i hi
    rw [List.mem_singleton] at hi; subst hi
    exact ⟨hb, hlo, .zero⟩
  · intro y hy _
    rw [hy.zero']; exact List.mem_singleton.2 rfl
theorem BInv.round {n : Nat} {E : Gr} {low b : Nat} {rd : Bool} {d : Nat} {out : List Int} {q : List Nat} (hv : vtx n E) (h : BInv n E low b rd d out q) :
    BInv n E low b rd (d + 1) (bfsQ n E low d q out []).1 (bfsQ n E low d q out []).2 := by
  have hd := h.pos
  obtain ⟨c, rfl⟩ : ∃ c, d = c + 1 := ⟨d - 1, by omega⟩
  have hq : ∀ x, (∃ i ∈ q, x ∈ nxt n (rev E) i) → ∃ i ∈ q, inE E x i = true := by
    rintro x ⟨i, hi, hx⟩
    have := (mem_nxt.1 hx).2
    rw [inE_rev] at this
    exact ⟨i, hi, this⟩
  have hT : ∀ x, (∃ i ∈ q, x ∈ nxt n (rev E) i) ∧ low ≤ x → Tk E low b rd x (c + 1) := by
    rintro x ⟨hx, hlo⟩
    obtain ⟨i, hi, e⟩ := hq x hx
    obtain ⟨_, i2, i3⟩ := h.snd i hi
    exact ⟨.succ e hlo i2 i3, fun _ => by omega⟩
  have hB : ∀ x, x < n → Dk E low b rd x (c + 1) → (∃ i ∈ q, x ∈ nxt n (rev E) i) ∧ low ≤ x := by
    intro x hx hD
    obtain ⟨y, h1, h2, h3, h4, h5⟩ := hD.next
    refine ⟨⟨y, h.all y h4 ?_, mem_nxt.2 ⟨hx, by rw [inE_rev]; exact h1⟩⟩, h2⟩
    rcases h5 with h5 | h5
    · exact .inl (by omega)
    · exact .inr h5
  refine ⟨by omega, by rw [bfsQ_len]; exact h.len, fun x hx => ?_, fun i hi => ?_, fun y hy hy2 => ?_⟩
  · obtain ⟨g1, g2, _⟩ := bfsQ_get n E low ((c + 1 : Nat) : Int) (by omega) q out [] h.len x
    rcases h.at' x hx with ⟨q1, q2⟩ | ⟨k, q1, q2, q3⟩
    · have hneg : out.getD x (-1) < 0 := by omega
      have g := g2 hneg
      by_cases hx2 : (∃ i ∈ q, x ∈ nxt n (rev E) i) ∧ low ≤ x
      · rw [if_pos hx2] at g
        exact .inr ⟨c + 1, by omega, g, hT x hx2, fun j hj => q2 j hj⟩
      · rw [if_neg hx2] at g
        refine .inl ⟨by rw [g]; exact q1, fun k hk hTk => ?_⟩
        by_cases hk2 : k < c + 1
        · exact q2 k hk2 hTk
        · obtain rfl : k = c + 1 := by omega
          exact hx2 (hB x hx ⟨hTk, fun j hj => q2 j hj⟩)
    · exact .inr ⟨k, by omega, by rw [g1 (by omega)]; exact q2, q3⟩
  · obtain ⟨_, _, g3⟩ := bfsQ_get n E low ((c + 1 : Nat) : Int) (by omega) q out [] h.len i
    rcases g3.1 hi with h1 | ⟨h1, h2, h3⟩
    · cases h1
    · obtain ⟨j, hj, hj2⟩ := h2
      exact ⟨(mem_nxt.1 hj2).1, h3, (hT i ⟨⟨j, hj, hj2⟩, h3⟩).1⟩
  · have hD : Dk E low b rd y (c + 1) := by
      rcases hy2 with h1 | h1
      · omega
      · exact h1
    have hyn : y < n := by
      obtain ⟨z, h1, _⟩ := hD.next
      exact (vtx_in hv h1).1
    obtain ⟨_, _, g3⟩ := bfsQ_get n E low ((c + 1 : Nat) : Int) (by omega) q out [] h.len y
    refine g3.2 (.inr ⟨?_, hB y hyn hD⟩)
    rcases h.at' y hyn with ⟨q1, q2⟩ | ⟨k, q1, q2, q3⟩
    · omega
    · have := q3.uniq hD; omega
theorem BInv.done {n : Nat} {E : Gr} {low b : Nat} {rd : Bool} {d : Nat} {out : List Int} (h : BInv n E low b rd d out []) : IsD n E low b rd out := by
  refine ⟨h.len, fun x hx => ?_⟩
  rcases h.at' x hx with ⟨q1, q2⟩ | ⟨k, q1, q2, q3⟩
  · refine .inl ⟨q1, fun k hT => ?_⟩
    obtain ⟨j, _, hD⟩ := Dk.of hT
    by_cases hj : j < d
    · exact q2 j hj hD.1
    · have hd := h.pos
      by_cases h1 : d = 1
      · subst h1
        have := h.all b .zero (.inl rfl)
        cases this
      · obtain ⟨y, hy⟩ := hD.down (j := d - 1) (by omega) (by omega)
        have := h.all y hy.1.1 (.inr hy)
        cases this
  · exact .inr ⟨k, q2, q3⟩

/-! Orders. -/
/-- Whether a node is next: it is not in the list, and all ahead of it are. -/
def rdyB (E : Gr) (out : List Nat) (v : Nat) : Bool := !out.contains v && E.all fun e => !(e.2 == v) || out.contains e.1
def nextV (n : Nat) (E : Gr) (out : List Nat) : Option Nat := (List.range n).find? (rdyB E out)
def ordF (n : Nat) (E : Gr) : Nat → List Nat → List Nat
  | 0, out => out
  | f + 1, out => match nextV n E out with
    | none => out
    | some v => ordF n E f (out ++ [v])
/-- The least order, as far as it goes. -/
def ordL (n : Nat) (E : Gr) : List Nat := ordF n E n []
theorem rdyB_iff {E : Gr} {out : List Nat} {v : Nat} : rdyB E out v = true ↔ v ∉ out ∧ ∀ a, inE E a v = true → a ∈ out := by
  unfold rdyB
  simp only [Bool.and_eq_true, Bool.not_eq_true', List.all_eq_true, Bool.or_eq_true, List.contains_iff_mem]
  constructor
  · rintro ⟨h1, h2⟩
    refine ⟨fun h => (by
      have h3 := List.contains_iff_mem.2 h
      rw [h1] at h3; cases h3), fun a ha => ?_⟩
    rcases h2 _ (inE_iff.1 ha) with h | h
    · simp at h
    · exact h
  · rintro ⟨h1, h2⟩
    refine ⟨by
      cases h : out.contains v
      · rfl
      · exact absurd (List.contains_iff_mem.1 h) h1, fun e he => ?_⟩
    by_cases hv : e.2 = v
    · exact .inr (h2 e.1 (inE_iff.2 (by rw [← hv]; exact he)))
    · exact .inl (by simpa using hv)
/-- What holds of the list on the way. -/
structure OInv (n : Nat) (E : Gr) (out : List Nat) : Prop where
  nd : out.Nodup
  lt : ∀ x ∈ out, x < n
  clo : ∀ x ∈ out, ∀ a, inE E a x = true → a ∈ out
theorem OInv.nil (n : Nat) (E : Gr) : OInv n E [] := ⟨List.nodup_nil, fun x hx => (List.not_mem_nil hx).elim, fun x hx => (List.not_mem_nil hx).elim⟩
theorem OInv.len {n : Nat} {E : Gr} {out : List Nat} (h : OInv n E out) : out.length ≤ n := nodup_le n out h.nd h.lt
theorem nodup_snoc {l : List Nat} {v : Nat} (h : l.Nodup) (hv : v ∉ l) : (l ++ [v]).Nodup := by
  rw [List.nodup_append]
  refine ⟨h, by simp, fun a ha b hb => ?_⟩
  rw [List.mem_singleton] at hb; subst hb
  exact fun e => hv (e ▸ ha)
theorem OInv.snoc {n : Nat} {E : Gr} {out : List Nat} (h : OInv n E out) {v : Nat} (hv : v < n) (hr : rdyB E out v = true) : OInv n E (out ++ [v]) := by
  obtain ⟨h1, h2⟩ := rdyB_iff.1 hr
  refine ⟨nodup_snoc h.nd h1, fun x hx => ?_, fun x hx a ha => ?_⟩
  · rcases List.mem_append.1 hx with hx | hx
    · exact h.lt x hx
    · rw [List.mem_singleton] at hx; subst hx; exact hv
  · rcases List.mem_append.1 hx with hx | hx
    · exact List.mem_append_left _ (h.clo x hx a ha)
    · rw [List.mem_singleton] at hx; subst hx; exact List.mem_append_left _ (h2 a ha)
theorem nextV_some {n : Nat} {E : Gr} {out : List Nat} {v : Nat} (h : nextV n E out = some v) : v < n ∧ rdyB E out v = true := by
  unfold nextV at h
  exact ⟨List.mem_range.1 (List.mem_of_find?_eq_some h), List.find?_some h⟩
theorem OInv.next_len {n : Nat} {E : Gr} {out : List Nat} (h : OInv n E out) {v : Nat} (hv : nextV n E out = some v) : out.length < n := by
  have := (h.snoc (nextV_some hv).1 (nextV_some hv).2).len
  simp at this; omega
theorem ordF_inv {n : Nat} {E : Gr} : ∀ (f : Nat) (out : List Nat), OInv n E out → OInv n E (ordF n E f out)
  | 0, _, h => h
  | f + 1, out, h => by
    unfold ordF
    cases hn : nextV n E out with
    | none => exact h
    | some v => exact ordF_inv f _ (h.snoc (nextV_some hn).1 (nextV_some hn).2)
theorem ordL_inv (n : Nat) (E : Gr) : OInv n E (ordL n E) := ordF_inv n [] (OInv.nil n E)
/-- More fuel than nodes are left changes nothing. -/
theorem ordF_more {n : Nat} {E : Gr} : ∀ (f : Nat) (out : List Nat), OInv n E out → n ≤ out.length + f → ∀ g, n ≤ out.length + g → ordF n E f out = ordF n E g out
  | 0, out, h, hf, g, _ => by
    cases g with
    | zero => rfl
    | succ g =>
      cases hn : nextV n E out with
      | none => unfold ordF; rw [hn]
      | some v => have := h.next_len hn; omega
  | f + 1, out, h, hf, g, hg => by
    cases hn : nextV n E out with
    | none =>
      cases g with
      | zero => unfold ordF; rw [hn]
      | succ g => unfold ordF; rw [hn]
    | some v =>
      have hl := h.next_len hn
      cases g with
      | zero => omega
      | succ g =>
        unfold ordF; rw [hn]
        exact ordF_more f _ (h.snoc (nextV_some hn).1 (nextV_some hn).2) (by simp; omega) g (by simp; omega)
/-- Where it ends nothing is next. -/
theorem ordF_end {n : Nat} {E : Gr} : ∀ (f : Nat) (out : List Nat), OInv n E out → n ≤ out.length + f → nextV n E (ordF n E f out) = none
  | 0, out, h, hf => by
    cases hn : nextV n E out with
    | none => exact hn
    | some v => have := h.next_len hn; omega
  | f + 1, out, h, hf => by
    cases hn : nextV n E out with
    | none => unfold ordF; rw [hn]; exact hn
    | some v =>
      unfold ordF; rw [hn]
      exact ordF_end f _ (h.snoc (nextV_some hn).1 (nextV_some hn).2) (by simp; omega)
theorem ordL_end (n : Nat) (E : Gr) : nextV n E (ordL n E) = none := ordF_end n [] (OInv.nil n E) (by simp)
theorem ordL_step {n : Nat} {E : Gr} {out : List Nat} (f : Nat) (h : OInv n E out) (hf : n ≤ out.length + f) {v : Nat} (hv : nextV n E out = some v) : ordF n E f out = ordF n E f (out ++ [v]) := by
  have hl := h.next_len hv
  cases f with
  | zero => omega
  | succ f =>
    rw [show ordF n E (f + 1) out = ordF n E f (out ++ [v]) by rw [ordF, hv]]
    exact ordF_more f _ (h.snoc (nextV_some hv).1 (nextV_some hv).2) (by simp; omega) _ (by simp; omega)

/-! The program's way: counts of what is waited for, a sorted list of what is ready. -/
/-- For how many nodes a node waits. -/
def cnt (n : Nat) (E : Gr) (out : List Nat) (k : Nat) : Nat := (List.range n).countP fun a => inE E a k && !out.contains a
def cntL (n : Nat) (E : Gr) (out : List Nat) : List Int := (List.range n).map fun k => (cnt n E out k : Int)
theorem cnt_zero {n : Nat} {E : Gr} (hv : vtx n E) {out : List Nat} {k : Nat} : cnt n E out k = 0 ↔ ∀ a, inE E a k = true → a ∈ out := by
  unfold cnt
  rw [List.countP_eq_zero]
  constructor
  · intro h a ha
    have h2 := h a (List.mem_range.2 (vtx_in hv ha).1)
    rw [ha] at h2
    simp only [Bool.true_and, Bool.not_eq_true', Bool.not_eq_false] at h2
    exact List.contains_iff_mem.1 h2
  · intro h a _
    by_cases ha : inE E a k = true
    · simp only [ha, Bool.true_and, Bool.not_eq_true', Bool.not_eq_false]
      exact List.contains_iff_mem.2 (h a ha)
    · simp [ha]
theorem countP_one : ∀ {l : List Nat} (p q : Nat → Bool) (i : Nat), l.Nodup → i ∈ l → p i = true → q i = false → (∀ x, x ≠ i → p x = q x) → l.countP p = l.countP q + 1
  | x :: r, p, q, i, hd, hi, hp, hq, h => by
    obtain ⟨h1, h2⟩ := List.nodup_cons.1 hd
    by_cases hx : x = i
    · subst hx
      have : r.countP p = r.countP q := List.countP_congr (fun y hy => by rw [h y (fun e => h1 (e ▸ hy))])
      rw [List.countP_cons_of_pos hp, List.countP_cons_of_neg (by rw [hq]; simp), this]
    · have hi' : i ∈ r := by
        rcases List.mem_cons.1 hi with e | e
        · exact absurd e.symm hx
        · exact e
      have ih := countP_one p q i h2 hi' hp hq h
      by_cases hpx : p x = true
      · rw [List.countP_cons_of_pos hpx, List.countP_cons_of_pos (by rw [← h x hx]; exact hpx), ih]
      · rw [List.countP_cons_of_neg hpx, List.countP_cons_of_neg (by rw [← h x hx]; exact hpx), ih]
theorem cnt_snoc {n : Nat} {E : Gr} {out : List Nat} {i k : Nat} (hi : i < n) (ho : i ∉ out) : cnt n E out k = cnt n E (out ++ [i]) k + (if inE E i k = true then 1 else 0) := by
  unfold cnt
  have ho' : out.contains i = false := by
    cases h : out.contains i
    · rfl
    · exact absurd (List.contains_iff_mem.1 h) ho
  have hc : ∀ x, x ≠ i → (out ++ [i]).contains x = out.contains x := by
    intro x hx
    rw [Bool.eq_iff_iff, List.contains_iff_mem, List.contains_iff_mem, List.mem_append, List.mem_singleton]
    exact ⟨fun h => h.resolve_right hx, .inl⟩
  have hci : (out ++ [i]).contains i = true := List.contains_iff_mem.2 (by simp)
  split
  · rename_i he
    refine countP_one _ _ i (asc_nodup (range_asc n)) (List.mem_range.2 hi) (by rw [he, ho']; rfl) (by rw [hci]; simp) (fun x hx => ?_)
    rw [hc x hx]
  · rename_i he
    rw [Nat.add_zero]
    refine List.countP_congr (fun x _ => ?_)
    by_cases hx : x = i
    · subst hx
      have : inE E x k = false := by
        cases h : inE E x k
        · rfl
        · exact absurd h he
      rw [this]; simp
    · rw [hc x hx]
/-- Sorted insertion. -/
def insN (k : Nat) (l : List Nat) : List Nat := l.take (l.countP (· < k)) ++ k :: l.drop (l.countP (· < k))
theorem take_countP {k : Nat} : ∀ {l : List Nat}, l.Pairwise (· < ·) → l.take (l.countP (· < k)) = l.filter (· < k) ∧ l.drop (l.countP (· < k)) = l.filter (fun x => !decide (x < k))
  | [], _ => ⟨rfl, rfl⟩
  | x :: r, h => by
    obtain ⟨h1, h2⟩ := List.pairwise_cons.1 h
    obtain ⟨i1, i2⟩ := take_countP (k := k) h2
    by_cases hx : x < k
    · rw [List.countP_cons_of_pos (by simpa using hx), List.take_succ_cons, List.drop_succ_cons, i1, i2]
      exact ⟨by rw [List.filter_cons_of_pos (by simpa using hx)], by rw [List.filter_cons_of_neg (by simpa using hx)]⟩
    · have h0 : (x :: r).countP (· < k) = 0 := by
        rw [List.countP_eq_zero]
        intro y hy
        rcases List.mem_cons.1 hy with rfl | hy
        · simpa using hx
        · have := h1 y hy; simp; omega
      rw [h0, List.take_zero, List.drop_zero]
      constructor
      · symm; rw [List.filter_eq_nil_iff]
        intro y hy
        rcases List.mem_cons.1 hy with rfl | hy
        · simpa using hx
        · have := h1 y hy; simp; omega
      · symm; rw [List.filter_eq_self]
        intro y hy
        rcases List.mem_cons.1 hy with rfl | hy
        · simpa using hx
        · have := h1 y hy; simp; omega
theorem mem_insN {k x : Nat} {l : List Nat} : x ∈ insN k l ↔ x = k ∨ x ∈ l := by
  unfold insN
  rw [List.mem_append, List.mem_cons]
  constructor
  · rintro (h | h | h)
    · exact .inr (List.mem_of_mem_take h)
    · exact .inl h
    · exact .inr (List.mem_of_mem_drop h)
  · rintro (h | h)
    · exact .inr (.inl h)
    · rw [← List.take_append_drop (l.countP (· < k)) l, List.mem_append] at h
      rcases h with h | h
      · exact .inl h
      · exact .inr (.inr h)
theorem insN_asc {k : Nat} {l : List Nat} (h : l.Pairwise (· < ·)) (hk : k ∉ l) : (insN k l).Pairwise (· < ·) := by
  obtain ⟨h1, h2⟩ := take_countP (k := k) h
  unfold insN
  rw [h1, h2, List.pairwise_append]
  refine ⟨filter_asc _ h, ?_, ?_⟩
  · rw [List.pairwise_cons]
    refine ⟨fun x hx => ?_, filter_asc _ h⟩
    obtain ⟨hx1, hx2⟩ := List.mem_filter.1 hx
    have hxk : x ≠ k := fun e => hk (e ▸ hx1)
    simp at hx2; omega
  · intro a ha b hb
    obtain ⟨_, ha2⟩ := List.mem_filter.1 ha
    simp at ha2
    rcases List.mem_cons.1 hb with rfl | hb
    · exact ha2
    · obtain ⟨_, hb2⟩ := List.mem_filter.1 hb
      simp at hb2; omega
/-- One list of nodes that wait for one less. -/
def relax : List Nat → List Int → List Nat → List Int × List Nat
  | [], waits, ready => (waits, ready)
  | k :: r, waits, ready => if waits.getD k 0 - 1 = 0 then relax r (waits.set k (waits.getD k 0 - 1)) (insN k ready) else relax r (waits.set k (waits.getD k 0 - 1)) ready
theorem relax_len : ∀ (ks : List Nat) (waits : List Int) (ready : List Nat), (relax ks waits ready).1.length = waits.length
  | [], _, _ => rfl
  | k :: r, waits, ready => by
    unfold relax
    split
    · rw [relax_len r]; simp
    · rw [relax_len r]; simp
theorem relax_get : ∀ (ks : List Nat) (waits : List Int) (ready : List Nat), ks.Nodup → (∀ k ∈ ks, k < waits.length) → (∀ k ∈ ks, k ∉ ready) → ready.Pairwise (· < ·) →
    (∀ x, (relax ks waits ready).1.getD x 0 = if x ∈ ks then waits.getD x 0 - 1 else waits.getD x 0) ∧
    (relax ks waits ready).2.Pairwise (· < ·) ∧ (∀ x, x ∈ (relax ks waits ready).2 ↔ x ∈ ready ∨ (x ∈ ks ∧ waits.getD x 0 - 1 = 0))
  | [], waits, ready, _, _, _, ha => ⟨fun x => by simp [relax], ha, fun x => by simp [relax]⟩
  | k :: r, waits, ready, hd, hl, hr, ha => by
    obtain ⟨d1, d2⟩ := List.nodup_cons.1 hd
    have hk := hl k (List.mem_cons_self ..)
    have hkr := hr k (List.mem_cons_self ..)
    have hl' : ∀ x ∈ r, x < (waits.set k (waits.getD k 0 - 1)).length := fun x hx => by simpa using hl x (List.mem_cons_of_mem _ hx)
    have hget : ∀ x, x ≠ k → (waits.set k (waits.getD k 0 - 1)).getD x 0 = waits.getD x 0 := fun x hx => getD_set_ne (Ne.symm hx) _ _
    have hgk : (waits.set k (waits.getD k 0 - 1)).getD k 0 = waits.getD k 0 - 1 := getD_set_self hk _ _
    have fin1 : ∀ x, (if x ∈ r then (waits.set k (waits.getD k 0 - 1)).getD x 0 - 1 else (waits.set k (waits.getD k 0 - 1)).getD x 0) = if x ∈ k :: r then waits.getD x 0 - 1 else waits.getD x 0 := by
      intro x
      by_cases hx : x = k
      · subst hx
        rw [if_neg d1, if_pos (List.mem_cons_self ..), hgk]
      · rw [hget x hx]
        have : x ∈ k :: r ↔ x ∈ r := by rw [List.mem_cons]; exact ⟨fun h => h.resolve_left hx, .inr⟩
        simp only [this]
    unfold relax
    split
    · rename_i hz
      obtain ⟨i1, i2, i3⟩ := relax_get r (waits.set k (waits.getD k 0 - 1)) (insN k ready) d2 hl' (fun x hx h => by
        rcases mem_insN.1 h with e | e
        · subst e; exact d1 hx
        · exact hr x (List.mem_cons_of_mem _ hx) e) (insN_asc ha hkr)
      refine ⟨fun x => by rw [i1]; exact fin1 x, i2, fun x => ?_⟩
      rw [i3, mem_insN]
      constructor
      · rintro ((h | h) | ⟨h1, h2⟩)
        · subst h; exact .inr ⟨List.mem_cons_self .., hz⟩
        · exact .inl h
        · rw [hget x (fun e => by subst e; exact d1 h1)] at h2
          exact .inr ⟨List.mem_cons_of_mem _ h1, h2⟩
      · rintro (h | ⟨h1, h2⟩)
        · exact .inl (.inr h)
        · rcases List.mem_cons.1 h1 with e | e
          · exact .inl (.inl e)
          · exact .inr ⟨e, by rw [hget x (fun e' => by subst e'; exact d1 e)]; exact h2⟩
    · rename_i hz
      obtain ⟨i1, i2, i3⟩ := relax_get r (waits.set k (waits.getD k 0 - 1)) ready d2 hl' (fun x hx => hr x (List.mem_cons_of_mem _ hx)) ha
      refine ⟨fun x => by rw [i1]; exact fin1 x, i2, fun x => ?_⟩
      rw [i3]
      constructor
      · rintro (h | ⟨h1, h2⟩)
        · exact .inl h
        · rw [hget x (fun e => by subst e; exact d1 h1)] at h2
          exact .inr ⟨List.mem_cons_of_mem _ h1, h2⟩
      · rintro (h | ⟨h1, h2⟩)
        · exact .inl h
        · rcases List.mem_cons.1 h1 with e | e
          · subst e; exact absurd h2 hz
          · exact .inr ⟨e, by rw [hget x (fun e' => by subst e'; exact d1 e)]; exact h2⟩
/-- Ahead of a round. -/
structure KInv (n : Nat) (E : Gr) (out ready : List Nat) (waits : List Int) : Prop where
  o : OInv n E out
  asc : ready.Pairwise (· < ·)
  mem : ∀ x, x ∈ ready ↔ x < n ∧ rdyB E out x = true
  w : waits = cntL n E out
theorem cntL_get {n : Nat} {E : Gr} {out : List Nat} {x : Nat} (hx : x < n) : (cntL n E out).getD x 0 = (cnt n E out x : Int) := by
  simp [cntL, List.getD, hx]
theorem asc_head {i : Nat} {r : List Nat} (h : (i :: r).Pairwise (· < ·)) : ∀ x ∈ r, i < x := (List.pairwise_cons.1 h).1
theorem find_least {p : Nat → Bool} : ∀ {l : List Nat}, l.Pairwise (· < ·) → ∀ {i : Nat}, i ∈ l → p i = true → (∀ x ∈ l, p x = true → i ≤ x) → l.find? p = some i
  | x :: r, ha, i, hi, hp, hm => by
    obtain ⟨h1, h2⟩ := List.pairwise_cons.1 ha
    by_cases hx : p x = true
    · have hle := hm x (List.mem_cons_self ..) hx
      rcases List.mem_cons.1 hi with e | e
      · subst e; rw [List.find?_cons_of_pos hp]
      · have := h1 i e; omega
    · rw [List.find?_cons_of_neg hx]
      rcases List.mem_cons.1 hi with e | e
      · subst e; exact absurd hp hx
      · exact find_least h2 e hp (fun y hy => hm y (List.mem_cons_of_mem _ hy))
theorem KInv.head {n : Nat} {E : Gr} {out r : List Nat} {i : Nat} {waits : List Int} (h : KInv n E out (i :: r) waits) : nextV n E out = some i := by
  obtain ⟨hi, hr⟩ := (h.mem i).1 (List.mem_cons_self ..)
  refine find_least (range_asc n) (List.mem_range.2 hi) hr (fun x hx hp => ?_)
  rcases List.mem_cons.1 ((h.mem x).2 ⟨List.mem_range.1 hx, hp⟩) with e | e
  · omega
  · have := asc_head h.asc x e; omega
theorem KInv.empty {n : Nat} {E : Gr} {out : List Nat} {waits : List Int} (h : KInv n E out [] waits) : nextV n E out = none := by
  unfold nextV
  rw [List.find?_eq_none]
  intro x hx hp
  have := (h.mem x).2 ⟨List.mem_range.1 hx, hp⟩
  cases this
theorem KInv.step {n : Nat} {E : Gr} (hv : vtx n E) {out r : List Nat} {i : Nat} {waits : List Int} (h : KInv n E out (i :: r) waits) :
    KInv n E (out ++ [i]) (relax (nxt n E i) waits r).2 (relax (nxt n E i) waits r).1 := by
  obtain ⟨hi, hr⟩ := (h.mem i).1 (List.mem_cons_self ..)
  obtain ⟨ho, hp⟩ := rdyB_iff.1 hr
  have hii : inE E i i = false := by
    cases he : inE E i i
    · rfl
    · exact absurd (hp i he) ho
  have hwl : waits.length = n := by rw [h.w]; simp [cntL]
  have hasc := (List.pairwise_cons.1 h.asc).2
  have hnot : ∀ k ∈ nxt n E i, k ∉ r := by
    intro k hk hkr
    have := (rdyB_iff.1 ((h.mem k).1 (List.mem_cons_of_mem _ hkr)).2).2 i (mem_nxt.1 hk).2
    exact ho this
  obtain ⟨r1, r2, r3⟩ := relax_get (nxt n E i) waits r (nxt_nodup n E i) (fun k hk => by rw [hwl]; exact (mem_nxt.1 hk).1) hnot hasc
  have hlen := relax_len (nxt n E i) waits r
  have hci : ∀ x, x < n → waits.getD x 0 = (cnt n E (out ++ [i]) x : Int) + (if inE E i x = true then 1 else 0) := by
    intro x hx
    rw [h.w, cntL_get hx, cnt_snoc hi ho]
    split <;> simp
  refine ⟨h.o.snoc hi hr, r2, fun x => ?_, ?_⟩
  · rw [r3, rdyB_iff, mem_nxt]
    have hne : ∀ y ∈ r, y ≠ i := fun y hy e => by have := asc_head h.asc y hy; omega
    constructor
    · rintro (h1 | ⟨⟨h1, h2⟩, h3⟩)
      · obtain ⟨q1, q2⟩ := (h.mem x).1 (List.mem_cons_of_mem _ h1)
        obtain ⟨q3, q4⟩ := rdyB_iff.1 q2
        refine ⟨q1, fun hm => ?_, fun a ha => List.mem_append_left _ (q4 a ha)⟩
        rcases List.mem_append.1 hm with e | e
        · exact q3 e
        · rw [List.mem_singleton] at e; exact hne x h1 e
      · rw [hci x h1, if_pos h2] at h3
        have hz : cnt n E (out ++ [i]) x = 0 := by omega
        refine ⟨h1, fun hm => ?_, (cnt_zero hv).1 hz⟩
        rcases List.mem_append.1 hm with e | e
        · exact ho (h.o.clo x e i h2)
        · rw [List.mem_singleton] at e; subst e; rw [hii] at h2; cases h2
    · rintro ⟨h1, h2, h3⟩
      by_cases he : inE E i x = true
      · refine .inr ⟨⟨h1, he⟩, ?_⟩
        rw [hci x h1, if_pos he, (cnt_zero hv).2 h3]; rfl
      · refine .inl ?_
        have hm := (h.mem x).2 ⟨h1, rdyB_iff.2 ⟨fun q => h2 (List.mem_append_left _ q), fun a ha => ?_⟩⟩
        · rcases List.mem_cons.1 hm with e | e
          · subst e; exact absurd (List.mem_append_right _ (List.mem_singleton.2 rfl)) h2
          · exact e
        · rcases List.mem_append.1 (h3 a ha) with e | e
          · exact e
          · rw [List.mem_singleton] at e; subst e; exact absurd ha he
  · apply List.ext_getElem
    · rw [hlen, hwl]; simp [cntL]
    · intro x h1 h2
      have hx : x < n := by rw [hlen, hwl] at h1; exact h1
      have e1 : (relax (nxt n E i) waits r).1.getD x 0 = (relax (nxt n E i) waits r).1[x] := by simp [List.getD, h1]
      have e2 : (cntL n E (out ++ [i])).getD x 0 = (cntL n E (out ++ [i]))[x] := by simp [List.getD, h2]
      rw [← e1, ← e2, r1, cntL_get hx, hci x hx]
      by_cases he : inE E i x = true
      · rw [if_pos (mem_nxt.2 ⟨hx, he⟩), if_pos he]; omega
      · rw [if_neg (fun q => he (mem_nxt.1 q).2), if_neg he]; omega
theorem KInv.start {n : Nat} {E : Gr} (hv : vtx n E) : KInv n E [] ((List.range n).filter fun x => decide ((cntL n E []).getD x 0 = 0)) (cntL n E []) := by
  refine ⟨OInv.nil n E, filter_asc _ (range_asc n), fun x => ?_, rfl⟩
  rw [List.mem_filter, List.mem_range, decide_eq_true_eq]
  constructor
  · rintro ⟨h1, h2⟩
    rw [cntL_get h1] at h2
    exact ⟨h1, rdyB_iff.2 ⟨by simp, (cnt_zero hv).1 (by omega)⟩⟩
  · rintro ⟨h1, h2⟩
    refine ⟨h1, ?_⟩
    rw [cntL_get h1, (cnt_zero hv).2 (rdyB_iff.1 h2).2]; rfl
/-! The counts at the beginning. -/
def addAll : List Nat → List Int → List Int
  | [], waits => waits
  | k :: r, waits => addAll r (waits.set k (waits.getD k 0 + 1))
theorem addAll_len : ∀ (ks : List Nat) (waits : List Int), (addAll ks waits).length = waits.length
  | [], _ => rfl
  | k :: r, waits => by unfold addAll; rw [addAll_len r]; simp
theorem addAll_get : ∀ (ks : List Nat) (waits : List Int), ks.Nodup → (∀ k ∈ ks, k < waits.length) → ∀ x, (addAll ks waits).getD x 0 = waits.getD x 0 + (if x ∈ ks then 1 else 0)
  | [], waits, _, _, x => by simp [addAll]
  | k :: r, waits, hd, hl, x => by
    obtain ⟨d1, d2⟩ := List.nodup_cons.1 hd
    unfold addAll
    rw [addAll_get r _ d2 (fun y hy => by simpa using hl y (List.mem_cons_of_mem _ hy))]
    by_cases hx : x = k
    · subst hx
      rw [getD_set_self (hl x (List.mem_cons_self ..)), if_neg d1, if_pos (List.mem_cons_self ..)]; omega
    · rw [getD_set_ne (Ne.symm hx)]
      have : x ∈ k :: r ↔ x ∈ r := by rw [List.mem_cons]; exact ⟨fun h => h.resolve_left hx, .inr⟩
      simp only [this]
/-- The counts of what the nodes below m lead to. -/
def preL (n : Nat) (E : Gr) (m : Nat) : List Int := (List.range n).map fun k => (((List.range m).countP fun a => inE E a k : Nat) : Int)
theorem preL_len (n : Nat) (E : Gr) (m : Nat) : (preL n E m).length = n := by simp [preL]
theorem preL_get {n : Nat} {E : Gr} {m x : Nat} (hx : x < n) : (preL n E m).getD x 0 = (((List.range m).countP fun a => inE E a x : Nat) : Int) := by simp [preL, List.getD, hx]
theorem preL_zero (n : Nat) (E : Gr) : preL n E 0 = List.replicate n 0 := by
  unfold preL
  apply List.ext_getElem
  · simp
  · intro i h1 h2; simp
theorem preL_succ {n : Nat} (E : Gr) (m : Nat) : addAll (nxt n E m) (preL n E m) = preL n E (m + 1) := by
  apply List.ext_getElem
  · rw [addAll_len, preL_len, preL_len]
  · intro x h1 h2
    have hx : x < n := by rw [preL_len] at h2; exact h2
    have e1 : (addAll (nxt n E m) (preL n E m)).getD x 0 = (addAll (nxt n E m) (preL n E m))[x] := by simp [List.getD, h1]
    have e2 : (preL n E (m + 1)).getD x 0 = (preL n E (m + 1))[x] := by simp [List.getD, h2]
    rw [← e1, ← e2, addAll_get _ _ (nxt_nodup n E m) (fun k hk => by rw [preL_len]; exact (mem_nxt.1 hk).1), preL_get hx, preL_get hx, List.range_succ, List.countP_append]
    by_cases he : inE E m x = true
    · rw [if_pos (mem_nxt.2 ⟨hx, he⟩), List.countP_cons_of_pos (p := fun a => inE E a x) he]; simp
    · rw [if_neg (fun q => he (mem_nxt.1 q).2), List.countP_cons_of_neg (p := fun a => inE E a x) he]; simp
theorem preL_all (n : Nat) (E : Gr) : preL n E n = cntL n E [] := by
  unfold preL cntL cnt
  congr 1; funext k; congr 2; funext a; simp

end Go.Proofs.YtlcfnbnpkcjjlaaGreat.Gp

namespace Go.Proofs.YtlcfnbnpkcjjlaaGreat.Gp
open Go.RowKit
set_option linter.unusedVariables false
set_option linter.unusedSimpArgs false

theorem IsD.get_some {n : Nat} {E : Gr} {low b : Nat} {rd : Bool} {D : List Int} (h : IsD n E low b rd D) {x k : Nat} (hx : x < n) (hd : Dk E low b rd x k) : D.getD x (-1) = (k : Int) := by
  rcases h.at' x hx with ⟨_, q2⟩ | ⟨j, q1, q2⟩
  · exact absurd hd.1 (q2 k)
  · rw [q1, q2.uniq hd]
theorem IsD.of_get {n : Nat} {E : Gr} {low b : Nat} {rd : Bool} {D : List Int} (h : IsD n E low b rd D) {x k : Nat} (hx : x < n) (e : D.getD x (-1) = (k : Int)) : Dk E low b rd x k := by
  rcases h.at' x hx with ⟨q1, _⟩ | ⟨j, q1, q2⟩
  · omega
  · obtain rfl : j = k := by omega
    exact q2
theorem IsD.none' {n : Nat} {E : Gr} {low b : Nat} {rd : Bool} {D : List Int} (h : IsD n E low b rd D) {x : Nat} (hx : x < n) (e : D.getD x (-1) < 0) : D.getD x (-1) = -1 ∧ ∀ k, ¬ Tk E low b rd x k := by
  rcases h.at' x hx with q | ⟨j, q1, q2⟩
  · exact q
  · omega
theorem IsD.nonneg {n : Nat} {E : Gr} {low b : Nat} {rd : Bool} {D : List Int} (h : IsD n E low b rd D) {x : Nat} (hx : x < n) (e : 0 ≤ D.getD x (-1)) : ∃ k : Nat, D.getD x (-1) = (k : Int) ∧ Dk E low b rd x k := by
  rcases h.at' x hx with ⟨q1, _⟩ | q
  · omega
  · exact q
/-- From a node at distance m + 2 an edge leads to one at distance m + 1, and it is not the end. -/
theorem IsD.next {n : Nat} {E : Gr} {low b : Nat} {rd : Bool} {D : List Int} (hv : vtx n E) (h : IsD n E low b rd D) {a m : Nat} (ha : a < n) (e : D.getD a (-1) = ((m + 2 : Nat) : Int)) :
    ∃ k, k ∈ nxt n E a ∧ low ≤ k ∧ k ≠ b ∧ D.getD k (-1) = ((m + 1 : Nat) : Int) := by
  have hd := h.of_get ha e
  obtain ⟨y, h1, h2, h3, h4, h5⟩ := hd.next
  have hy := (vtx_in hv h1).2
  have hD : Dk E low b rd y (m + 1) := by
    rcases h5 with h5 | h5
    · omega
    · exact h5
  refine ⟨y, mem_nxt.2 ⟨hy, h1⟩, h3, fun e' => ?_, h.get_some hy hD⟩
  subst e'
  exact hd.2 1 (by omega) ⟨.succ h1 h2 h3 .zero, fun _ => Nat.le_refl _⟩
theorem find_some {p : Nat → Bool} {l : List Nat} (h : ∃ k, k ∈ l ∧ p k = true) : ∃ k, l.find? p = some k ∧ k ∈ l ∧ p k = true := by
  obtain ⟨k, hk, hp⟩ := h
  cases hf : l.find? p with
  | none =>
    rw [List.find?_eq_none] at hf
    exact absurd hp (hf k hk)
  | some j => exact ⟨j, rfl, List.mem_of_find?_eq_some hf, List.find?_some hf⟩
/-- The program's test at a node. -/
def goP (D : List Int) (b low : Nat) (left : Int) (k : Nat) : Bool := decide (low ≤ k) && !(k == b) && (D.getD k (-1) == left)
/-- The program's next node. -/
def goN (n : Nat) (E : Gr) (D : List Int) (b low : Nat) (left : Int) (a : Nat) : Nat := ((nxt n E a).find? (goP D b low left)).getD 0
/-- The nodes behind the first. -/
def wlkG (n : Nat) (E : Gr) (D : List Int) (b low : Nat) : Nat → Nat → List Nat
  | 0, _ => []
  | m + 1, a => goN n E D b low ((m + 1 : Nat) : Int) a :: wlkG n E D b low m (goN n E D b low ((m + 1 : Nat) : Int) a)
theorem wlkG_len (n : Nat) (E : Gr) (D : List Int) (b low : Nat) : ∀ (m a : Nat), (wlkG n E D b low m a).length = m
  | 0, _ => rfl
  | m + 1, a => by simp [wlkG, wlkG_len n E D b low m]
theorem goP_iff {D : List Int} {b low : Nat} {left : Int} {k : Nat} : goP D b low left k = true ↔ low ≤ k ∧ k ≠ b ∧ D.getD k (-1) = left := by
  unfold goP
  simp only [Bool.and_eq_true, decide_eq_true_eq, Bool.not_eq_true', beq_iff_eq]
  constructor
  · rintro ⟨⟨h1, h2⟩, h3⟩
    exact ⟨h1, fun e => by subst e; simp at h2, h3⟩
  · rintro ⟨h1, h2, h3⟩
    exact ⟨⟨h1, by simpa using h2⟩, h3⟩
theorem goN_is {n : Nat} {E : Gr} {low b : Nat} {rd : Bool} {D : List Int} (hv : vtx n E) (h : IsD n E low b rd D) {a m : Nat} (ha : a < n) (e : D.getD a (-1) = ((m + 2 : Nat) : Int)) :
    (nxt n E a).find? (goP D b low ((m + 1 : Nat) : Int)) = some (goN n E D b low ((m + 1 : Nat) : Int) a) ∧ goN n E D b low ((m + 1 : Nat) : Int) a ∈ nxt n E a ∧
      low ≤ goN n E D b low ((m + 1 : Nat) : Int) a ∧ goN n E D b low ((m + 1 : Nat) : Int) a ≠ b ∧ D.getD (goN n E D b low ((m + 1 : Nat) : Int) a) (-1) = ((m + 1 : Nat) : Int) := by
  obtain ⟨k, k1, k2, k3, k4⟩ := h.next hv ha e
  obtain ⟨j, j1, j2, j3⟩ := find_some ⟨k, k1, goP_iff.2 ⟨k2, k3, k4⟩⟩
  have hj : goN n E D b low ((m + 1 : Nat) : Int) a = j := by unfold goN; rw [j1]; rfl
  obtain ⟨q1, q2, q3⟩ := goP_iff.1 j3
  rw [hj]
  exact ⟨j1, j2, q1, q2, q3⟩
/-- The place of the first that passes. -/
theorem find_at : ∀ {p : Nat → Bool} {l : List Nat} {k : Nat}, l.find? p = some k → ∃ (i : Nat) (hi : i < l.length), l[i] = k ∧ p l[i] = true ∧ ∀ (j : Nat) (_ : j < i) (hj : j < l.length), p l[j] = false
  | p, [], k, h => by cases h
  | p, x :: r, k, h => by
    by_cases hx : p x = true
    · rw [List.find?_cons_of_pos hx] at h
      injection h with h
      exact ⟨0, by simp, by simpa using h, by simpa using hx, fun j hj => by omega⟩
    · rw [List.find?_cons_of_neg hx] at h
      obtain ⟨i, hi, h1, h2, h3⟩ := find_at h
      refine ⟨i + 1, by simpa using hi, by simpa using h1, by simpa using h2, fun j hj hjl => ?_⟩
      cases j with
      | zero => simpa using hx
      | succ j => simpa using h3 j (by omega) (by simpa using hjl)

/-! The reference's path. -/
def nx (n : Nat) (E : Gr) (St : List Int) (low m a : Nat) : Nat := ((List.range n).find? fun v => decide (low ≤ v) && (inE E a v && (St.getD v (-1) == ((m : Nat) : Int)))).getD 0
/-- From a node at distance m: the nodes down to distance one. -/
def lpR (n : Nat) (E : Gr) (St : List Int) (low : Nat) : Nat → Nat → List Nat
  | 0, _ => []
  | m + 1, a => a :: lpR n E St low m (nx n E St low m a)
theorem lpR_len (n : Nat) (E : Gr) (St : List Int) (low : Nat) : ∀ (m a : Nat), (lpR n E St low m a).length = m
  | 0, _ => rfl
  | m + 1, a => by simp [lpR, lpR_len n E St low m]
theorem nx_is {n : Nat} {E : Gr} {low b : Nat} {St : List Int} (hv : vtx n E) (h : IsD n E low b false St) (hb : b < n) {a m : Nat} (ha : a < n) (e : St.getD a (-1) = ((m + 1 : Nat) : Int)) :
    ((List.range n).find? fun v => decide (low ≤ v) && (inE E a v && (St.getD v (-1) == ((m : Nat) : Int)))) = some (nx n E St low m a) ∧ nx n E St low m a < n ∧ low ≤ nx n E St low m a ∧ inE E a (nx n E St low m a) = true ∧
      St.getD (nx n E St low m a) (-1) = (m : Int) := by
  have hd := h.of_get ha e
  obtain ⟨y, h1, h2, h3, h4, h5⟩ := hd.next
  have hy := (vtx_in hv h1).2
  have hD : Dk E low b false y m := by
    rcases h5 with rfl | h5
    · exact ⟨⟨h4, fun h => by cases h⟩, fun j hj => by omega⟩
    · exact h5
  obtain ⟨j, j1, j2, j3⟩ := find_some (p := fun v => decide (low ≤ v) && (inE E a v && (St.getD v (-1) == ((m : Nat) : Int)))) (l := List.range n) ⟨y, List.mem_range.2 hy, by
    simp only [Bool.and_eq_true, decide_eq_true_eq, beq_iff_eq]
    exact ⟨h3, h1, h.get_some hy hD⟩⟩
  have hj : nx n E St low m a = j := by unfold nx; rw [j1]; rfl
  simp only [Bool.and_eq_true, decide_eq_true_eq, beq_iff_eq] at j3
  rw [hj]
  exact ⟨j1, List.mem_range.1 j2, j3.1, j3.2.1, j3.2.2⟩
theorem find_congr {p q : Nat → Bool} : ∀ {l : List Nat}, (∀ x ∈ l, p x = q x) → l.find? p = l.find? q
  | [], _ => rfl
  | x :: r, h => by
    have hx := h x (List.mem_cons_self ..)
    by_cases hp : p x = true
    · rw [List.find?_cons_of_pos hp, List.find?_cons_of_pos (by rw [← hx]; exact hp)]
    · rw [List.find?_cons_of_neg hp, List.find?_cons_of_neg (by rw [← hx]; exact hp)]
      exact find_congr (fun y hy => h y (List.mem_cons_of_mem _ hy))
/-- Away from the end both say the same. -/
theorem tk_away {E : Gr} {low b x k : Nat} (hx : x ≠ b) : Tk E low b true x k ↔ Tk E low b false x k := by
  constructor
  · exact fun h => ⟨h.1, fun h => by cases h⟩
  · intro h
    refine ⟨h.1, fun _ => ?_⟩
    cases k with
    | zero => exact absurd h.1.zero' hx
    | succ k => omega
theorem dk_away {E : Gr} {low b x k : Nat} (hx : x ≠ b) : Dk E low b true x k ↔ Dk E low b false x k := by
  unfold Dk
  simp only [tk_away hx]
theorem away {n : Nat} {E : Gr} {low b : Nat} {rd : Bool} {D St : List Int} (h : IsD n E low b rd D) (h2 : IsD n E low b false St) {x : Nat} (hx : x < n) (hne : x ≠ b) : D.getD x (-1) = St.getD x (-1) := by
  cases rd with
  | false => rw [h.uniq h2]
  | true =>
    rcases h.at' x hx with ⟨q1, q2⟩ | ⟨k, q1, q2⟩
    · rcases h2.at' x hx with ⟨r1, r2⟩ | ⟨j, r1, r2⟩
      · rw [q1, r1]
      · exact absurd ((tk_away hne).2 r2.1) (q2 j)
    · rw [q1, h2.get_some hx ((dk_away hne).1 q2)]
/-- The end is at distance none from itself. -/
theorem IsD.self {n : Nat} {E : Gr} {low b : Nat} {St : List Int} (h : IsD n E low b false St) (hb : b < n) : St.getD b (-1) = 0 := by
  have := h.get_some hb (k := 0) ⟨⟨.zero, fun h => by cases h⟩, fun j hj => by omega⟩
  simpa using this
/-- The program's nodes are the reference's. -/
theorem wlk_lp {n : Nat} {E : Gr} {low b : Nat} {rd : Bool} {D St : List Int} (hv : vtx n E) (h : IsD n E low b rd D) (h2 : IsD n E low b false St) (hb : b < n) :
    ∀ (m a : Nat), a < n → a ≠ b → St.getD a (-1) = ((m + 1 : Nat) : Int) → a :: wlkG n E D b low m a = lpR n E St low (m + 1) a
  | 0, a, _, _, _ => rfl
  | m + 1, a, ha, hab, e => by
    have eD : D.getD a (-1) = ((m + 2 : Nat) : Int) := by rw [away h h2 ha hab, e]
    obtain ⟨g1, g2, g3, g4, g5⟩ := goN_is hv h ha eD
    obtain ⟨r1, r2, r3, r4, r5⟩ := nx_is hv h2 hb ha e
    have hk : goN n E D b low ((m + 1 : Nat) : Int) a = nx n E St low (m + 1) a := by
      have hf : (nxt n E a).find? (goP D b low ((m + 1 : Nat) : Int)) = (List.range n).find? fun v => decide (low ≤ v) && (inE E a v && (St.getD v (-1) == ((m + 1 : Nat) : Int))) := by
        unfold nxt
        rw [List.find?_filter]
        refine find_congr (fun x hx => ?_)
        have hxn := List.mem_range.1 hx
        by_cases hxb : x = b
        · subst hxb
          have hs := h2.self hb
          unfold goP
          have : (St.getD x (-1) == ((m + 1 : Nat) : Int)) = false := by rw [beq_eq_false_iff_ne, hs]; omega
          rw [this]; simp
        · unfold goP
          rw [away h h2 hxn hxb]
          have : (x == b) = false := by rw [beq_eq_false_iff_ne]; exact hxb
          rw [this]
          generalize decide (low ≤ x) = p1
          generalize (St.getD x (-1) == ((m + 1 : Nat) : Int)) = p2
          cases p1 <;> cases p2 <;> cases inE E a x <;> rfl
      rw [g1, r1] at hf
      injection hf
    rw [wlkG, hk, lpR]
    congr 1
    exact wlk_lp hv h h2 hb m _ r2 (fun e => by rw [e, h2.self hb] at r5; omega) r5

/-- The least path, if there is one. -/
def pthL (n : Nat) (E : Gr) (a b : Nat) : Option (List Nat) :=
  if (stepsL n E b 0).getD a (-1) < 0 then none else some (lpR n E (stepsL n E b 0) 0 ((stepsL n E b 0).getD a (-1)).toNat a ++ [b])

/-! The reference's first step of a loop. -/
def bstP (E : Gr) (s : Nat) (St : List Int) (v : Nat) : Bool := decide (0 ≤ St.getD v (-1)) && inE E s v
def bestG (E : Gr) (s : Nat) (St : List Int) : List Nat → Option Nat → Option Nat
  | [], best => best
  | v :: r, best => if bstP E s St v && (match best with | none => true | some u => decide (St.getD v (-1) < St.getD u (-1))) then bestG E s St r (some v) else bestG E s St r best
structure BestI (E : Gr) (s : Nat) (St : List Int) (done : List Nat) (best : Option Nat) : Prop where
  no : best = none → ∀ u ∈ done, bstP E s St u = false
  yes : ∀ v, best = some v → v ∈ done ∧ bstP E s St v = true ∧ ∀ u ∈ done, bstP E s St u = true → St.getD v (-1) < St.getD u (-1) ∨ (St.getD v (-1) = St.getD u (-1) ∧ v ≤ u)
theorem bestG_is {E : Gr} {s : Nat} {St : List Int} : ∀ (r done : List Nat) (best : Option Nat), (done ++ r).Pairwise (· < ·) → BestI E s St done best → BestI E s St (done ++ r) (bestG E s St r best)
  | [], done, best, _, h => by rw [List.append_nil]; exact h
  | v :: r, done, best, ha, h => by
    have ha' : ((done ++ [v]) ++ r).Pairwise (· < ·) := by rw [List.append_assoc]; exact ha
    have hlt : ∀ u ∈ done, u < v := fun u hu => (List.pairwise_append.1 ha).2.2 u hu v (List.mem_cons_self ..)
    have fin : ∀ b2, BestI E s St (done ++ [v]) b2 → BestI E s St (done ++ v :: r) (bestG E s St r b2) := fun b2 h2 => by
      have := bestG_is r (done ++ [v]) b2 ha' h2
      rwa [List.append_assoc] at this
    unfold bestG
    by_cases hp : bstP E s St v = true
    · cases best with
      | none =>
        rw [if_pos (by rw [hp]; rfl)]
        refine fin _ ⟨fun e => (by cases e), fun u hu => ?_⟩
        injection hu with hu; subst hu
        refine ⟨by simp, hp, fun u hu hpu => ?_⟩
        rcases List.mem_append.1 hu with h1 | h1
        · rw [h.no rfl u h1] at hpu; cases hpu
        · rw [List.mem_singleton] at h1; subst h1; exact .inr ⟨rfl, Nat.le_refl _⟩
      | some u0 =>
        obtain ⟨y1, y2, y3⟩ := h.yes u0 rfl
        simp only [hp, Bool.true_and]
        by_cases hl : St.getD v (-1) < St.getD u0 (-1)
        · rw [if_pos (by simpa using hl)]
          refine fin _ ⟨fun e => (by cases e), fun u hu => ?_⟩
          injection hu with hu; subst hu
          refine ⟨by simp, hp, fun u hu hpu => ?_⟩
          rcases List.mem_append.1 hu with h1 | h1
          · rcases y3 u h1 hpu with h2 | h2
            · left; omega
            · left; omega
          · rw [List.mem_singleton] at h1; subst h1; exact .inr ⟨rfl, Nat.le_refl _⟩
        · rw [if_neg (by simpa using hl)]
          refine fin _ ⟨fun e => (by cases e), fun u hu => ?_⟩
          injection hu with hu; subst hu
          refine ⟨List.mem_append_left _ y1, y2, fun u hu hpu => ?_⟩
          rcases List.mem_append.1 hu with h1 | h1
          · exact y3 u h1 hpu
          · rw [List.mem_singleton] at h1; subst h1
            have := hlt _ y1
            omega
    · have hp' : bstP E s St v = false := by simpa using hp
      rw [hp', if_neg (by simp)]
      refine fin _ ⟨fun e u hu => ?_, fun u hu => ?_⟩
      · rcases List.mem_append.1 hu with h1 | h1
        · exact h.no e u h1
        · rw [List.mem_singleton] at h1; subst h1; exact hp'
      · obtain ⟨y1, y2, y3⟩ := h.yes u hu
        refine ⟨List.mem_append_left _ y1, y2, fun u2 hu2 hpu => ?_⟩
        rcases List.mem_append.1 hu2 with h1 | h1
        · exact y3 u2 h1 hpu
        · rw [List.mem_singleton] at h1; subst h1; rw [hp'] at hpu; cases hpu
/-- The nodes from s on. -/
def ups (n s : Nat) : List Nat := (List.range n).filter fun v => decide (s ≤ v)
theorem mem_ups {n s v : Nat} : v ∈ ups n s ↔ v < n ∧ s ≤ v := by unfold ups; rw [List.mem_filter, List.mem_range, decide_eq_true_eq]
def bestL (n : Nat) (E : Gr) (s : Nat) (St : List Int) : Option Nat := bestG E s St (ups n s) none
theorem bestL_is (n : Nat) (E : Gr) (s : Nat) (St : List Int) : BestI E s St (ups n s) (bestL n E s St) := by
  have := bestG_is (E := E) (s := s) (St := St) (ups n s) [] none (by rw [List.nil_append]; exact filter_asc _ (range_asc n)) ⟨fun _ u hu => absurd hu (List.not_mem_nil), fun v hv => (by cases hv)⟩
  rwa [List.nil_append] at this
/-- The least loop from s over nodes from s on; empty if there is none. -/
def cycL (n : Nat) (E : Gr) (s : Nat) : List Nat := match bestL n E s (stepsL n E s s) with
  | none => []
  | some v => s :: lpR n E (stepsL n E s s) s ((stepsL n E s s).getD v (-1)).toNat v
/-- What the distance around says. -/
theorem round_none {n : Nat} {E : Gr} {s : Nat} {D St : List Int} (hv : vtx n E) (h : IsD n E s s true D) (h2 : IsD n E s s false St) (hs : s < n) (hb : bestL n E s St = none) : D.getD s (-1) = -1 := by
  rcases h.at' s hs with q | ⟨k, q1, q2⟩
  · exact q.1
  · exfalso
    have hk := q2.1.2 rfl
    obtain ⟨k, rfl⟩ : ∃ j, k = j + 1 := ⟨k - 1, by omega⟩
    obtain ⟨y, h1, h3, h4, h5⟩ := q2.1.1.succ'
    have hy := (vtx_in hv h1).2
    obtain ⟨j, _, hd⟩ := Dk.of (rd := false) (k := k) ⟨h5, fun h => by cases h⟩
    have := (bestL_is n E s St).no hb y (mem_ups.2 ⟨hy, h4⟩)
    unfold bstP at this
    rw [h2.get_some hy hd, h1] at this
    simp at this
theorem round_some {n : Nat} {E : Gr} {s : Nat} {D St : List Int} (hv : vtx n E) (h : IsD n E s s true D) (h2 : IsD n E s s false St) (hs : s < n) {v : Nat} (hb : bestL n E s St = some v) :
    ∃ k : Nat, v < n ∧ s ≤ v ∧ inE E s v = true ∧ St.getD v (-1) = (k : Int) ∧ D.getD s (-1) = ((k + 1 : Nat) : Int) := by
  obtain ⟨y1, y2, y3⟩ := (bestL_is n E s St).yes v hb
  obtain ⟨v1, v2⟩ := mem_ups.1 y1
  unfold bstP at y2
  simp only [Bool.and_eq_true, decide_eq_true_eq] at y2
  obtain ⟨k, k1, k2⟩ := h2.nonneg v1 y2.1
  refine ⟨k, v1, v2, y2.2, k1, h.get_some hs ⟨⟨.succ y2.2 (Nat.le_refl _) v2 k2.1.1, fun _ => by omega⟩, fun j hj hT => ?_⟩⟩
  have hj1 := hT.2 rfl
  obtain ⟨j, rfl⟩ : ∃ i, j = i + 1 := ⟨j - 1, by omega⟩
  obtain ⟨y, h1, h3, h4, h5⟩ := hT.1.succ'
  have hy := (vtx_in hv h1).2
  obtain ⟨i, hi, hd⟩ := Dk.of (rd := false) (k := j) ⟨h5, fun h => by cases h⟩
  have hg := h2.get_some hy hd
  have := y3 y (mem_ups.2 ⟨hy, h4⟩) (by unfold bstP; rw [hg, h1]; simp)
  omega
/-- The program's loop from s is the reference's. -/
theorem cyc_is {n : Nat} {E : Gr} {s : Nat} {D : List Int} (hv : vtx n E) (h : IsD n E s s true D) (hs : s < n) :
    cycL n E s = if 0 < D.getD s (-1) then s :: wlkG n E D s s (D.getD s (-1) - 1).toNat s else [] := by
  have h2 := stepsL_is (low := s) hv hs
  unfold cycL
  cases hb : bestL n E s (stepsL n E s s) with
  | none => rw [round_none hv h h2 hs hb, if_neg (by omega)]
  | some v =>
    obtain ⟨k, v1, v2, v3, v4, v5⟩ := round_some hv h h2 hs hb
    obtain ⟨_, _, y3⟩ := (bestL_is n E s _).yes v hb
    generalize stepsL n E s s = St at *
    simp only
    rw [v4, v5, if_pos (by omega)]
    simp only [Int.toNat_natCast]
    rw [show (((k + 1 : Nat) : Int) - 1).toNat = k by omega]
    congr 1
    cases k with
    | zero => rfl
    | succ k =>
      obtain ⟨g1, g2, g3, g4, g5⟩ := goN_is hv h hs v5
      have hvs : v ≠ s := fun e => by rw [e, h2.self hs] at v4; omega
      have hk : goN n E D s s ((k + 1 : Nat) : Int) s = v := by
        have hf : (nxt n E s).find? (goP D s s ((k + 1 : Nat) : Int)) = some v := by
          refine find_least (nxt_asc n E s) (mem_nxt.2 ⟨v1, v3⟩) (goP_iff.2 ⟨v2, hvs, by rw [away h h2 v1 hvs]; exact v4⟩) (fun x hx hp => ?_)
          obtain ⟨p1, p2, p3⟩ := goP_iff.1 hp
          have hxn := mem_nxt.1 hx
          rw [away h h2 hxn.1 p2] at p3
          have := y3 x (mem_ups.2 ⟨hxn.1, p1⟩) (by unfold bstP; rw [p3, hxn.2]; simp; omega)
          omega
        rw [g1] at hf
        injection hf
      rw [wlkG, hk]
      exact (wlk_lp hv h h2 hs k v v1 hvs v4).symm
theorem cycL_len_le {n : Nat} {E : Gr} {s : Nat} (hv : vtx n E) (hs : s < n) : (cycL n E s).length ≤ n := by
  unfold cycL
  cases hb : bestL n E s (stepsL n E s s) with
  | none => simp
  | some v =>
    obtain ⟨y1, y2, _⟩ := (bestL_is n E s _).yes v hb
    have h2 := stepsL_is (low := s) hv hs
    unfold bstP at y2
    simp only [Bool.and_eq_true, decide_eq_true_eq] at y2
    obtain ⟨k, k1, k2⟩ := h2.nonneg (mem_ups.1 y1).1 y2.1
    have := k2.small hv hs
    simp only [List.length_cons, lpR_len, k1, Int.toNat_natCast]
    omega
/-- The shortest of the loops. -/
def lopS (n : Nat) (E : Gr) (best : List Nat) (s : Nat) : List Nat := if cycL n E s ≠ [] ∧ (best = [] ∨ (cycL n E s).length < best.length) then cycL n E s else best
def lopL (n : Nat) (E : Gr) : List Nat := (List.range n).foldl (lopS n E) []

end Go.Proofs.YtlcfnbnpkcjjlaaGreat.Gp

namespace Go.Proofs.YtlcfnbnpkcjjlaaGreat.Gp
open Go.RowKit
set_option linter.unusedVariables false
set_option linter.unusedSimpArgs false

/-- The program's inner round. -/
def depG (i : Nat) : List Nat → List Int → List Int
  | [], out => out
  | k :: r, out => depG i r (out.set k (max (out.getD k 0) (out.getD i 0 + 1)))
/-- The reference's inner round. -/
def depE (i : Nat) : Gr → List Int → List Int
  | [], out => out
  | e :: r, out => if e.1 == i && decide (out.getD e.2 0 < out.getD i 0 + 1) then depE i r (out.set e.2 (out.getD i 0 + 1)) else depE i r out
/-- One node of the order. -/
def depS (n : Nat) (E : Gr) (out : List Int) (i : Nat) : List Int := (List.range n).map fun x => if inE E i x then max (out.getD x 0) (out.getD i 0 + 1) else out.getD x 0
def depF (n : Nat) (E : Gr) (l : List Nat) : List Int := l.foldl (depS n E) (List.replicate n 0)
def depL (n : Nat) (E : Gr) : List Int := depF n E (ordL n E)
theorem depG_len (i : Nat) : ∀ (ks : List Nat) (out : List Int), (depG i ks out).length = out.length
  | [], _ => rfl
  | k :: r, out => by unfold depG; rw [depG_len i r]; simp
theorem depE_len (i : Nat) : ∀ (r : Gr) (out : List Int), (depE i r out).length = out.length
  | [], _ => rfl
  | e :: r, out => by
    unfold depE
    split
    · rw [depE_len i r]; simp
    · exact depE_len i r out
theorem depS_len (n : Nat) (E : Gr) (out : List Int) (i : Nat) : (depS n E out i).length = n := by simp [depS]
theorem depG_get (i : Nat) : ∀ (ks : List Nat) (out : List Int), i ∉ ks → (∀ k ∈ ks, k < out.length) → ∀ x, (depG i ks out).getD x 0 = if x ∈ ks then max (out.getD x 0) (out.getD i 0 + 1) else out.getD x 0
  | [], out, _, _, x => by simp [depG]
  | k :: r, out, hi, hl, x => by
    have hik : k ≠ i := fun e => hi (by rw [e]; exact List.mem_cons_self ..)
    have hk := hl k (List.mem_cons_self ..)
    unfold depG
    rw [depG_get i r _ (fun h => hi (List.mem_cons_of_mem _ h)) (fun y hy => by simpa using hl y (List.mem_cons_of_mem _ hy)) x, getD_set_ne hik]
    by_cases hx : k = x
    · subst hx
      rw [getD_set_self hk, if_pos (List.mem_cons_self ..)]
      split <;> omega
    · rw [getD_set_ne hx]
      have : x ∈ k :: r ↔ x ∈ r := by rw [List.mem_cons]; exact ⟨fun h => h.resolve_left (fun e => hx e.symm), .inr⟩
      simp only [this]
theorem depE_get (i : Nat) : ∀ (r : Gr) (out : List Int), (i, i) ∉ r → (∀ e ∈ r, e.2 < out.length) → ∀ x, (depE i r out).getD x 0 = if (i, x) ∈ r then max (out.getD x 0) (out.getD i 0 + 1) else out.getD x 0
  | [], out, _, _, x => by simp [depE]
  | e :: r, out, hi, hl, x => by
    have hi' : (i, i) ∉ r := fun h => hi (List.mem_cons_of_mem _ h)
    have he := hl e (List.mem_cons_self ..)
    obtain ⟨a, k⟩ := e
    unfold depE
    split
    · rename_i hc
      simp only [Bool.and_eq_true, beq_iff_eq, decide_eq_true_eq] at hc
      obtain ⟨rfl, hc⟩ := hc
      simp only at hi hc he ⊢
      have hik : k ≠ a := fun e => hi (by rw [e]; exact List.mem_cons_self ..)
      rw [depE_get a r _ hi' (fun y hy => by simpa using hl y (List.mem_cons_of_mem _ hy)) x, getD_set_ne hik]
      by_cases hx : k = x
      · subst hx
        rw [getD_set_self he, if_pos (List.mem_cons_self ..)]
        split <;> omega
      · rw [getD_set_ne hx]
        have : (a, x) ∈ (a, k) :: r ↔ (a, x) ∈ r := by
          rw [List.mem_cons]
          exact ⟨fun h => h.resolve_left (fun e => hx (by injection e with _ e; exact e.symm)), .inr⟩
        simp only [this]
    · rename_i hc
      simp only [Bool.and_eq_true, beq_iff_eq, decide_eq_true_eq] at hc
      rw [depE_get i r out hi' (fun y hy => hl y (List.mem_cons_of_mem _ hy)) x]
      by_cases hx : (a, k) = (i, x)
      · injection hx with h1 h2
        subst h1; subst h2
        rw [if_pos (List.mem_cons_self ..)]
        have : ¬ out.getD k 0 < out.getD a 0 + 1 := fun h => hc ⟨rfl, h⟩
        split <;> omega
      · have : (i, x) ∈ (a, k) :: r ↔ (i, x) ∈ r := by
          rw [List.mem_cons]
          exact ⟨fun h => h.resolve_left (fun e => hx e.symm), .inr⟩
        simp only [this]
theorem ext_getD {a b : List Int} {n : Nat} (ha : a.length = n) (hb : b.length = n) (h : ∀ x, x < n → a.getD x 0 = b.getD x 0) : a = b := by
  apply List.ext_getElem
  · rw [ha, hb]
  · intro i h1 h2
    have := h i (by omega)
    simpa [List.getD, h1, h2] using this
theorem depS_get {n : Nat} (E : Gr) (out : List Int) (i : Nat) {x : Nat} (hx : x < n) : (depS n E out i).getD x 0 = if inE E i x then max (out.getD x 0) (out.getD i 0 + 1) else out.getD x 0 := by
  simp [depS, List.getD, hx]
theorem depG_is {n : Nat} {E : Gr} {i : Nat} (hi : inE E i i = false) {out : List Int} (hl : out.length = n) : depG i (nxt n E i) out = depS n E out i := by
  have hni : i ∉ nxt n E i := fun h => by have := (mem_nxt.1 h).2; rw [hi] at this; cases this
  refine ext_getD (by rw [depG_len]; exact hl) (depS_len ..) (fun x hx => ?_)
  rw [depG_get i _ out hni (fun k hk => by rw [hl]; exact (mem_nxt.1 hk).1) x, depS_get E out i hx]
  have : x ∈ nxt n E i ↔ inE E i x = true := by rw [mem_nxt]; exact ⟨fun h => h.2, fun h => ⟨hx, h⟩⟩
  simp only [this]
theorem depE_is {n : Nat} {E : Gr} (hv : vtx n E) {i : Nat} (hi : inE E i i = false) {out : List Int} (hl : out.length = n) : depE i E out = depS n E out i := by
  have hni : (i, i) ∉ E := fun h => by rw [inE_iff.2 h] at hi; cases hi
  refine ext_getD (by rw [depE_len]; exact hl) (depS_len ..) (fun x hx => ?_)
  rw [depE_get i _ out hni (fun e he => by rw [hl]; exact (hv e he).2) x, depS_get E out i hx]
  simp only [inE_iff]
/-- The lengths stay small. -/
def Small (c : Nat) (out : List Int) : Prop := ∀ x, 0 ≤ out.getD x 0 ∧ out.getD x 0 ≤ (c : Int)
theorem Small.zero (n : Nat) : Small 0 (List.replicate n 0) := by
  intro x
  have : (List.replicate n (0 : Int)).getD x 0 = 0 := by
    simp only [List.getD, List.getElem?_replicate]
    split <;> rfl
  rw [this]; simp
theorem Small.depG {c i : Nat} {out : List Int} (h : Small c out) (ks : List Nat) (hi : i ∉ ks) (hl : ∀ k ∈ ks, k < out.length) : Small (c + 1) (depG i ks out) := by
  intro x
  rw [depG_get i ks out hi hl x]
  have h1 := h x
  have h2 := h i
  split <;> omega
theorem Small.depE {c i : Nat} {out : List Int} (h : Small c out) (ks : Gr) (hi : (i, i) ∉ ks) (hl : ∀ e ∈ ks, e.2 < out.length) : Small (c + 1) (depE i ks out) := by
  intro x
  rw [depE_get i ks out hi hl x]
  have h1 := h x
  have h2 := h i
  split <;> omega
theorem OInv.self {n : Nat} {E : Gr} : ∀ (f : Nat) (out : List Nat), (∀ i ∈ out, inE E i i = false) → ∀ i ∈ ordF n E f out, inE E i i = false
  | 0, _, h => h
  | f + 1, out, h => by
    unfold ordF
    cases hn : nextV n E out with
    | none => exact h
    | some v =>
      refine OInv.self f _ (fun i hi => ?_)
      rcases List.mem_append.1 hi with hi | hi
      · exact h i hi
      · rw [List.mem_singleton] at hi; subst hi
        obtain ⟨h1, h2⟩ := rdyB_iff.1 (nextV_some hn).2
        cases he : inE E i i
        · rfl
        · exact absurd (h2 i he) h1
theorem ordL_self (n : Nat) (E : Gr) : ∀ i ∈ ordL n E, inE E i i = false := OInv.self n [] (fun i hi => absurd hi (List.not_mem_nil))
theorem depF_snoc (n : Nat) (E : Gr) (l : List Nat) (i : Nat) : depF n E (l ++ [i]) = depS n E (depF n E l) i := by
  unfold depF; rw [List.foldl_append]; rfl
theorem depF_len (n : Nat) (E : Gr) : ∀ (l : List Nat), (depF n E l).length = n := by
  intro l
  rcases List.eq_nil_or_concat l with rfl | ⟨m, i, rfl⟩
  · simp [depF]
  · rw [List.concat_eq_append, depF_snoc, depS_len]
theorem depF_small {n : Nat} (E : Gr) : ∀ (l : List Nat), Small l.length (depF n E l) := by
  intro l
  induction h : l.length generalizing l with
  | zero =>
    have : l = [] := List.eq_nil_of_length_eq_zero h
    subst this
    exact Small.zero n
  | succ c ih =>
    rcases List.eq_nil_or_concat l with rfl | ⟨m, i, rfl⟩
    · simp at h
    · rw [List.concat_eq_append] at h ⊢
      have hm := ih m (by simpa using h)
      rw [depF_snoc]
      intro x
      have h1 := hm x
      have h2 := hm i
      by_cases hx : x < n
      · rw [depS_get E _ i hx]
        split <;> omega
      · have : (depS n E (depF n E m) i).getD x 0 = 0 := by
          rw [List.getD, List.getElem?_eq_none (by rw [depS_len]; omega)]; rfl
        omega

end Go.Proofs.YtlcfnbnpkcjjlaaGreat.Gp

namespace Go.Proofs.YtlcfnbnpkcjjlaaGreat.Gp
open Go.RowKit
set_option linter.unusedVariables false
set_option linter.unusedSimpArgs false

theorem Wk.snoc {E : Gr} {b c : Nat} (e : inE E b c = true) : ∀ {x k : Nat}, Wk E 0 b x k → Wk E 0 c x (k + 1)
  | _, 0, h => by
    have := h.zero'
    subst this
    exact .succ e (Nat.zero_le _) (Nat.zero_le _) .zero
  | _, k + 1, h => by
    obtain ⟨y, h1, _, _, h4⟩ := h.succ'
    exact .succ h1 (Nat.zero_le _) (Nat.zero_le _) (Wk.snoc e h4)
theorem Wk.of_rch {E : Gr} {a b : Nat} (h : Rch E a b) : ∃ k, Wk E 0 b a k := by
  induction h with
  | refl => exact ⟨0, .zero⟩
  | step _ e ih => obtain ⟨k, hk⟩ := ih; exact ⟨k + 1, hk.snoc e⟩
theorem Wk.rch {E : Gr} {low b : Nat} : ∀ {x k : Nat}, Wk E low b x k → Rch E x b
  | _, 0, h => by
    have := h.zero'
    subst this
    exact .refl
  | _, k + 1, h => by
    obtain ⟨y, h1, _, _, h4⟩ := h.succ'
    exact (Rch.edge h1).trans h4.rch
theorem Wk.trans {E : Gr} {low b c k2 : Nat} (h2 : Wk E low b c k2) : ∀ {x k : Nat}, Wk E low c x k → Wk E low b x (k + k2)
  | _, 0, h => by
    have := h.zero'
    subst this
    rw [Nat.zero_add]; exact h2
  | _, k + 1, h => by
    obtain ⟨y, h1, h3, h4, h5⟩ := h.succ'
    rw [Nat.add_right_comm]
    exact .succ h1 h3 h4 (Wk.trans h2 h5)
theorem pthL_cases {n : Nat} {E : Gr} {a b : Nat} (hv : vtx n E) (ha : a < n) (hb : b < n) :
    (pthL n E a b = none ∧ ¬ Rch E a b) ∨ ∃ k, Dk E 0 b false a k ∧ (stepsL n E b 0).getD a (-1) = (k : Int) ∧ pthL n E a b = some (lpR n E (stepsL n E b 0) 0 k a ++ [b]) ∧ Rch E a b := by
  have hI := stepsL_is (low := 0) hv hb
  rcases hI.at' a ha with ⟨h1, h2⟩ | ⟨k, h1, h2⟩
  · refine .inl ⟨by unfold pthL; rw [h1]; rfl, fun h => ?_⟩
    obtain ⟨k, hk⟩ := Wk.of_rch h
    exact h2 k ⟨hk, fun h => by cases h⟩
  · refine .inr ⟨k, h2, h1, ?_, h2.1.1.rch⟩
    unfold pthL
    rw [h1, if_neg (by omega), Int.toNat_natCast]
structure PthI (n : Nat) (E : Gr) (St : List Int) (b m a : Nat) (L : List Nat) : Prop where
  len : L.length = m + 1
  fst : L.getD 0 0 = a
  lst : L.getD m 0 = b
  at' : ∀ j, j ≤ m → L.getD j 0 < n ∧ St.getD (L.getD j 0) (-1) = ((m - j : Nat) : Int)
  nxt : ∀ j, j < m → inE E (L.getD j 0) (L.getD (j + 1) 0) = true
theorem lpR_spec {n : Nat} {E : Gr} {low b : Nat} {St : List Int} (hv : vtx n E) (h : IsD n E low b false St) (hb : b < n) : ∀ (m a : Nat), a < n → St.getD a (-1) = (m : Int) → PthI n E St b m a (lpR n E St low m a ++ [b])
  | 0, a, ha, e => by
    have hab : a = b := (h.of_get ha e).1.1.zero'
    subst hab
    refine ⟨rfl, rfl, rfl, fun j hj => ?_, fun j hj => by omega⟩
    obtain rfl : j = 0 := by omega
    exact ⟨ha, e⟩
  | m + 1, a, ha, e => by
    obtain ⟨_, g2, _, g4, g5⟩ := nx_is hv h hb ha e
    have ih := lpR_spec hv h hb m _ g2 g5
    have hL : lpR n E St low (m + 1) a ++ [b] = a :: (lpR n E St low m (nx n E St low m a) ++ [b]) := rfl
    rw [hL]
    have hs : ∀ j, (a :: (lpR n E St low m (nx n E St low m a) ++ [b])).getD (j + 1) 0 = (lpR n E St low m (nx n E St low m a) ++ [b]).getD j 0 := fun j => by simp [List.getD]
    refine ⟨by rw [List.length_cons, ih.len], rfl, by rw [hs]; exact ih.lst, fun j hj => ?_, fun j hj => ?_⟩
    · cases j with
      | zero => exact ⟨ha, e⟩
      | succ j =>
        rw [hs]
        have := ih.at' j (by omega)
        rw [show m + 1 - (j + 1) = m - j by omega]
        exact this
    · cases j with
      | zero =>
        rw [hs, ih.fst]
        exact g4
      | succ j =>
        rw [hs, hs]
        exact ih.nxt j (by omega)
theorem PthI.inj {n : Nat} {E : Gr} {St : List Int} {b m a : Nat} {L : List Nat} (h : PthI n E St b m a L) {i j : Nat} (hi : i ≤ m) (hj : j ≤ m) (e : L.getD i 0 = L.getD j 0) : i = j := by
  have h1 := (h.at' i hi).2
  have h2 := (h.at' j hj).2
  rw [e, h2] at h1
  omega

end Go.Proofs.YtlcfnbnpkcjjlaaGreat.Gp
