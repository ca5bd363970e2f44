/- Plain laws of parts: they ascend, hold each node once, edges stay in a part; one edge less gives at most one part more. Conditions: none but those said. -/
import Derived.Test.YthnhlaljnkdmfaaDgz
namespace Go.Proofs.Ythnhlaljnkdmfaa
open Go.RowKit
set_option linter.unusedVariables false
set_option linter.unusedSimpArgs false

/-- One node reaches another by edges both ways. -/
abbrev Jn (E : List (Nat × Nat)) : Nat → Nat → Prop := Gp.Rch (bothE E)
theorem inE_both (E : List (Nat × Nat)) (a b : Nat) : Gp.inE (bothE E) a b = true ↔ Gp.inE E a b = true ∨ Gp.inE E b a = true := by
  rw [Gp.inE_iff, bothE, List.mem_append, ← Gp.inE_iff, ← Gp.inE_iff, Gp.inE_rev]
theorem Jn.symm {E : List (Nat × Nat)} {a b : Nat} (h : Jn E a b) : Jn E b a := by
  induction h with
  | refl => exact .refl
  | step _ he ih => exact (Gp.Rch.edge ((inE_both E _ _).2 ((inE_both E _ _).1 he).symm)).trans ih
theorem Jn.of {E : List (Nat × Nat)} {a b : Nat} (h : Gp.Rch E a b) : Jn E a b := by
  induction h with
  | refl => exact .refl
  | step _ he ih => exact .step ih ((inE_both E _ _).2 (.inl he))
theorem Jn.sub {E F : List (Nat × Nat)} (hs : ∀ e, e ∈ F → e ∈ E) {a b : Nat} (h : Jn F a b) : Jn E a b := by
  induction h with
  | refl => exact .refl
  | step _ he ih =>
    refine .step ih ((inE_both E _ _).2 ?_)
    rcases (inE_both F _ _).1 he with h | h
    · exact .inl (Gp.inE_iff.2 (hs _ (Gp.inE_iff.1 h)))
    · exact .inr (Gp.inE_iff.2 (hs _ (Gp.inE_iff.1 h)))

open Classical in
/-- Whether a node is the first of its part. -/
noncomputable def repB (E : List (Nat × Nat)) (x : Nat) : Bool := decide (∀ h, h < x → ¬ Jn E h x)
theorem repB_iff {E : List (Nat × Nat)} {x : Nat} : repB E x = true ↔ ∀ h, h < x → ¬ Jn E h x := by simp [repB]
theorem repB_not {E : List (Nat × Nat)} {x : Nat} (h : repB E x = false) : ∃ h, h < x ∧ Jn E h x := by
  have := mt repB_iff.2 (by rw [h]; simp)
  apply Classical.byContradiction
  intro hn
  exact this fun y hy hj => hn ⟨y, hy, hj⟩
noncomputable def repsL (n : Nat) (E : List (Nat × Nat)) : List Nat := (List.range n).filter (repB E)
noncomputable def clsL (n : Nat) (E : List (Nat × Nat)) (h : Nat) : List Nat := partK (Gp.reachL n (bothE E) [h]) n
theorem mem_cls {n : Nat} {E : List (Nat × Nat)} {h x : Nat} : x ∈ clsL n E h ↔ x < n ∧ Jn E h x := by
  unfold clsL partK
  rw [List.mem_filter, List.mem_range]
  constructor
  · rintro ⟨h1, h2⟩
    obtain ⟨s, hs, h3⟩ := (Gp.reachL_get h1).1 h2
    rw [List.mem_singleton] at hs; subst hs
    exact ⟨h1, h3⟩
  · rintro ⟨h1, h2⟩
    exact ⟨h1, (Gp.reachL_get h1).2 ⟨h, List.mem_singleton.2 rfl, h2⟩⟩
theorem cls_asc (n : Nat) (E : List (Nat × Nat)) (h : Nat) : (clsL n E h).Pairwise (· < ·) := List.Pairwise.filter _ List.pairwise_lt_range
theorem reps_asc (n : Nat) (E : List (Nat × Nat)) : (repsL n E).Pairwise (· < ·) := List.Pairwise.filter _ List.pairwise_lt_range
theorem cls_head {n : Nat} {E : List (Nat × Nat)} {h : Nat} (hn : h < n) (hr : repB E h = true) : ∃ t, clsL n E h = h :: t := by
  have hm : h ∈ clsL n E h := mem_cls.2 ⟨hn, .refl⟩
  have ha := cls_asc n E h
  have hge : ∀ x, x ∈ clsL n E h → h ≤ x := fun x hx => by
    apply Classical.byContradiction
    intro hlt
    exact repB_iff.1 hr x (by omega) (mem_cls.1 hx).2.symm
  cases hc : clsL n E h with
  | nil => rw [hc] at hm; cases hm
  | cons y t =>
    rw [hc] at hm ha hge
    have h1 := hge y (List.mem_cons_self ..)
    rcases List.mem_cons.1 hm with h2 | h2
    · exact ⟨t, by rw [h2]⟩
    · have := (List.pairwise_cons.1 ha).1 h h2
      omega

theorem prtK_form (n : Nat) (E : List (Nat × Nat)) : ∀ k, k ≤ n → (∀ x, x < n → ((prtK n (bothE E) k).1.getD x false = true ↔ ∃ h, h < k ∧ Jn E h x)) ∧ (prtK n (bothE E) k).2 = ((List.range k).filter (repB E)).map (clsL n E)
  | 0, _ => by
    refine ⟨fun x hx => ?_, by simp [prtK]⟩
    simp [prtK, List.getD, hx]
  | k + 1, hk => by
    obtain ⟨h1, h2⟩ := prtK_form n E k (by omega)
    rw [prtK_succ]
    unfold prtS
    have hfs : (List.range (k + 1)).filter (repB E) = (List.range k).filter (repB E) ++ (if repB E k then [k] else []) := filter_snoc
    cases hd : (prtK n (bothE E) k).1.getD k false
    · have hrep : repB E k = true := repB_iff.2 fun h hh hj => by
        have := (h1 k (by omega)).2 ⟨h, hh, hj⟩
        rw [hd] at this; cases this
      rw [if_neg (by simp)]
      refine ⟨fun x hx => ?_, ?_⟩
      · simp only
        have e : (doneK n (prtK n (bothE E) k).1 (Gp.reachL n (bothE E) [k]) n).getD x false = ((prtK n (bothE E) k).1.getD x false || (decide (x < n) && (Gp.reachL n (bothE E) [k]).getD x false)) := by
          unfold doneK
          rw [getD_at (by simpa using hx)]
          simp
        rw [e, Bool.or_eq_true, h1 x hx, Bool.and_eq_true, Gp.reachL_get hx]
        constructor
        · rintro (⟨h, hh, hj⟩ | ⟨_, s, hs, hj⟩)
          · exact ⟨h, by omega, hj⟩
          · rw [List.mem_singleton] at hs; subst hs
            exact ⟨s, by omega, hj⟩
        · rintro ⟨h, hh, hj⟩
          by_cases hk : h = k
          · subst hk
            exact .inr ⟨decide_eq_true hx, h, List.mem_singleton.2 rfl, hj⟩
          · exact .inl ⟨h, by omega, hj⟩
      · simp only
        rw [h2, hfs, hrep, if_pos rfl, List.map_append]; rfl
    · obtain ⟨h0, hh0, hj0⟩ := (h1 k (by omega)).1 hd
      have hrep : repB E k = false := by
        cases h : repB E k
        · rfl
        · exact absurd hj0 (repB_iff.1 h h0 hh0)
      rw [if_pos rfl]
      refine ⟨fun x hx => ?_, ?_⟩
      · rw [h1 x hx]
        constructor
        · rintro ⟨h, hh, hj⟩
          exact ⟨h, by omega, hj⟩
        · rintro ⟨h, hh, hj⟩
          by_cases hk : h = k
          · subst hk
            exact ⟨h0, hh0, hj0.trans hj⟩
          · exact ⟨h, by omega, hj⟩
      · rw [h2, hfs, hrep]; simp
theorem prtL_form (n : Nat) (E : List (Nat × Nat)) : prtL n E = (repsL n E).map (clsL n E) := (prtK_form n E n (Nat.le_refl _)).2
theorem rep_ex (E : List (Nat × Nat)) (x : Nat) : ∃ h, h ≤ x ∧ repB E h = true ∧ Jn E h x := by
  induction x using Nat.strongRecOn with
  | ind x ih =>
    cases hr : repB E x
    · obtain ⟨y, hy, hj⟩ := repB_not hr
      obtain ⟨h, h1, h2, h3⟩ := ih y hy
      exact ⟨h, by omega, h2, h3.trans hj⟩
    · exact ⟨x, Nat.le_refl _, hr, .refl⟩
theorem rep_one {E : List (Nat × Nat)} {h h' x : Nat} (h1 : repB E h = true) (h2 : repB E h' = true) (j1 : Jn E h x) (j2 : Jn E h' x) : h = h' := by
  rcases Nat.lt_trichotomy h h' with hlt | he | hlt
  · exact absurd (j1.trans j2.symm) (repB_iff.1 h2 h hlt)
  · exact he
  · exact absurd (j2.trans j1.symm) (repB_iff.1 h1 h' hlt)

structure PrtI (n : Nat) (E : List (Nat × Nat)) (L : List (List Nat)) : Prop where
  len : L.length ≤ n
  ne : ∀ (k : Nat) (h : k < L.length), 0 < L[k].length
  plen : ∀ (k : Nat) (h : k < L.length), L[k].length ≤ n
  asc : ∀ (k : Nat) (h : k < L.length) (i : Nat) (hi : i + 1 < L[k].length), L[k][i] < L[k][i + 1]
  head : ∀ (k : Nat) (h : k + 1 < L.length) (h1 : 0 < L[k].length) (h2 : 0 < L[k + 1].length), L[k][0] < L[k + 1][0]
  lt : ∀ (k : Nat) (h : k < L.length), ∀ x ∈ L[k], x < n
  once : ∀ (k : Nat) (h : k < L.length) (i : Nat) (hi : i < L[k].length), L[k][i] ∉ L[k].take i
  disj : ∀ (j k : Nat) (hj : j < L.length) (hk : k < L.length) (x : Nat), x ∈ L[j] → x ∈ L[k] → j = k
  cover : ∀ x, x < n → ∃ (j : Nat) (hj : j < L.length), x ∈ L[j]
  join : ∀ x y, Gp.Rch E x y → y < n → ∀ (j : Nat) (hj : j < L.length), x ∈ L[j] → y ∈ L[j]
theorem prtI (n : Nat) (E : List (Nat × Nat)) : PrtI n E (prtL n E) := by
  have hl0 := prtK_cnt n (bothE E) n
  rw [show (prtK n (bothE E) n).2 = prtL n E from rfl] at hl0
  rw [prtL_form] at hl0 ⊢
  have hra := reps_asc n E
  have hrm : ∀ (k : Nat) (h : k < (repsL n E).length), (repsL n E)[k] < n ∧ repB E (repsL n E)[k] = true := fun k h => by
    have := List.getElem_mem h
    have := List.mem_filter.1 this
    exact ⟨List.mem_range.1 this.1, this.2⟩
  have hasc : ∀ (h : Nat) (i j : Nat) (hi : i < (clsL n E h).length) (hj : j < (clsL n E h).length), i < j → (clsL n E h)[i] < (clsL n E h)[j] := fun h i j hi hj hij => List.pairwise_iff_getElem.1 (cls_asc n E h) i j hi hj hij
  refine ⟨hl0, ?_, fun k h => by simp only [List.getElem_map]; exact partK_len _ n, ?_, ?_, ?_, ?_, ?_, ?_, ?_⟩
  · intro k h
    have hk : k < (repsL n E).length := by simpa using h
    obtain ⟨t, ht⟩ := cls_head (hrm k hk).1 (hrm k hk).2
    simp only [List.getElem_map]
    rw [ht]; simp
  · intro k h i hi
    simp only [List.getElem_map] at hi ⊢
    exact hasc _ _ _ _ _ (by omega)
  · intro k h h1 h2
    have hk : k + 1 < (repsL n E).length := by simpa using h
    obtain ⟨t, ht⟩ := cls_head (hrm k (by omega)).1 (hrm k (by omega)).2
    obtain ⟨t', ht'⟩ := cls_head (hrm (k + 1) hk).1 (hrm (k + 1) hk).2
    simp only [List.getElem_map, ht, ht', List.getElem_cons_zero]
    exact List.pairwise_iff_getElem.1 hra k (k + 1) (by omega) hk (by omega)
  · intro k h x hx
    simp only [List.getElem_map] at hx
    exact (mem_cls.1 hx).1
  · intro k h i hi hm
    simp only [List.getElem_map] at hi hm
    obtain ⟨j, hj, he⟩ := List.mem_iff_getElem.1 hm
    have hj' : j < i := by simp at hj; omega
    rw [List.getElem_take] at he
    have := hasc _ j i (by omega) hi hj'
    omega
  · intro j k hj hk x h1 h2
    simp only [List.getElem_map] at h1 h2
    have hj' : j < (repsL n E).length := by simpa using hj
    have hk' : k < (repsL n E).length := by simpa using hk
    have he := rep_one (hrm j hj').2 (hrm k hk').2 (mem_cls.1 h1).2 (mem_cls.1 h2).2
    rcases Nat.lt_trichotomy j k with h | h | h
    · have := List.pairwise_iff_getElem.1 hra j k hj' hk' h; omega
    · exact h
    · have := List.pairwise_iff_getElem.1 hra k j hk' hj' h; omega
  · intro x hx
    obtain ⟨h, h1, h2, h3⟩ := rep_ex E x
    have hm : h ∈ repsL n E := List.mem_filter.2 ⟨List.mem_range.2 (by omega), h2⟩
    obtain ⟨j, hj, he⟩ := List.mem_iff_getElem.1 hm
    refine ⟨j, by simpa using hj, ?_⟩
    simp only [List.getElem_map, he]
    exact mem_cls.2 ⟨hx, h3⟩
  · intro x y hxy hy j hj hx
    simp only [List.getElem_map] at hx ⊢
    exact mem_cls.2 ⟨hy, (mem_cls.1 hx).2.trans (Jn.of hxy)⟩

/-! The list that says of each node its part. -/
structure OfI (L : List (List Nat)) (n k i : Nat) (o : List Int) : Prop where
  len : o.length = n
  at' : ∀ (v : Nat) (hv : v < o.length), (o[v] = -1 ∧ (∀ (j : Nat) (hj : j < L.length), j < k → v ∉ L[j]) ∧ (∀ h : k < L.length, v ∉ L[k].take i)) ∨ (∃ (j : Nat) (hj : j < L.length), o[v] = (j : Int) ∧ (j < k ∧ v ∈ L[j] ∨ j = k ∧ v ∈ L[j].take i))
def cntO (o : List Int) : Nat := o.countP fun z => decide (0 ≤ z)
theorem ofI_start (L : List (List Nat)) (n : Nat) : OfI L n 0 0 (List.replicate n (-1)) ∧ cntO (List.replicate n (-1)) = 0 :=
  ⟨⟨by simp, fun v hv => .inl ⟨by simp, fun j hj h => by omega, fun h => by simp⟩⟩, by simp [cntO]⟩
theorem OfI.next {L : List (List Nat)} {n k : Nat} {o : List Int} (hk : k < L.length) (h : OfI L n k L[k].length o) : OfI L n (k + 1) 0 o := by
  refine ⟨h.len, fun v hv => ?_⟩
  rcases h.at' v hv with ⟨h1, h2, h3⟩ | ⟨j, hj, h1, h2⟩
  · refine .inl ⟨h1, fun j hj hjk => ?_, fun _ => by simp⟩
    by_cases he : j = k
    · subst he
      have := h3 hk
      rwa [List.take_length] at this
    · exact h2 j hj (by omega)
  · refine .inr ⟨j, hj, h1, .inl ?_⟩
    rcases h2 with ⟨h2, h3⟩ | ⟨rfl, h3⟩
    · exact ⟨by omega, h3⟩
    · exact ⟨by omega, List.mem_of_mem_take h3⟩
theorem OfI.free {n : Nat} {E : List (Nat × Nat)} {L : List (List Nat)} {k i : Nat} {o : List Int} (h : OfI L n k i o) (hP : PrtI n E L) (hk : k < L.length) (hi : i < L[k].length) : ∃ hv : L[k][i] < o.length, o[L[k][i]] = -1 := by
  have hv : L[k][i] < o.length := by rw [h.len]; exact hP.lt k hk _ (List.getElem_mem hi)
  refine ⟨hv, ?_⟩
  rcases h.at' _ hv with ⟨h1, _⟩ | ⟨j, hj, h1, h2⟩
  · exact h1
  · exfalso
    rcases h2 with ⟨h2, h3⟩ | ⟨rfl, h3⟩
    · have := hP.disj j k hj hk _ h3 (List.getElem_mem hi); omega
    · exact hP.once j hk i hi h3
theorem OfI.set {n : Nat} {E : List (Nat × Nat)} {L : List (List Nat)} {k i : Nat} {o : List Int} (h : OfI L n k i o) (hP : PrtI n E L) (hk : k < L.length) (hi : i < L[k].length) :
    OfI L n k (i + 1) (o.set L[k][i] (k : Int)) ∧ cntO (o.set L[k][i] (k : Int)) = cntO o + 1 := by
  obtain ⟨hv, hf⟩ := h.free hP hk hi
  refine ⟨⟨by simp [h.len], fun v hvl => ?_⟩, ?_⟩
  · have hvo : v < o.length := by simpa using hvl
    have htk : L[k].take (i + 1) = L[k].take i ++ [L[k][i]] := List.take_succ_eq_append_getElem hi
    by_cases he : L[k][i] = v
    · subst he
      refine .inr ⟨k, hk, by rw [List.getElem_set_self], .inr ⟨rfl, ?_⟩⟩
      rw [htk]; exact List.mem_append_right _ (List.mem_singleton.2 rfl)
    · rw [List.getElem_set_ne he]
      rcases h.at' v hvo with ⟨h1, h2, h3⟩ | ⟨j, hj, h1, h2⟩
      · refine .inl ⟨h1, h2, fun _ hm => ?_⟩
        rw [htk, List.mem_append, List.mem_singleton] at hm
        rcases hm with hm | hm
        · exact h3 hk hm
        · exact he hm.symm
      · refine .inr ⟨j, hj, h1, ?_⟩
        rcases h2 with h2 | ⟨rfl, h3⟩
        · exact .inl h2
        · exact .inr ⟨rfl, by rw [htk]; exact List.mem_append_left _ h3⟩
  · unfold cntO
    rw [List.countP_set hv, hf]
    simp
theorem OfI.done {n : Nat} {E : List (Nat × Nat)} {L : List (List Nat)} {o : List Int} (h : OfI L n L.length 0 o) (hP : PrtI n E L) : (∀ (v : Nat) (hv : v < o.length), ∃ (j : Nat) (hj : j < L.length), o[v] = (j : Int) ∧ v ∈ L[j]) ∧ cntO o = n := by
  have h1 : ∀ (v : Nat) (hv : v < o.length), ∃ (j : Nat) (hj : j < L.length), o[v] = (j : Int) ∧ v ∈ L[j] := fun v hv => by
    rcases h.at' v hv with ⟨_, h2, _⟩ | ⟨j, hj, h1, h2⟩
    · obtain ⟨j, hj, hm⟩ := hP.cover v (by rw [← h.len]; exact hv)
      exact absurd hm (h2 j hj hj)
    · rcases h2 with ⟨_, h3⟩ | ⟨rfl, h3⟩
      · exact ⟨j, hj, h1, h3⟩
      · omega
  refine ⟨h1, ?_⟩
  unfold cntO
  rw [← h.len, List.countP_eq_length]
  intro z hz
  obtain ⟨v, hv, rfl⟩ := List.mem_iff_getElem.1 hz
  obtain ⟨j, _, he, _⟩ := h1 v hv
  rw [he]; simp
/-- Nodes that are reached are of the same part. -/
theorem OfI.same {n : Nat} {E : List (Nat × Nat)} {L : List (List Nat)} {o : List Int} (h : OfI L n L.length 0 o) (hP : PrtI n E L) {x y : Nat} (hx : x < o.length) (hy : y < o.length) (hr : Gp.Rch E x y) : o[x] = o[y] := by
  obtain ⟨j, hj, e1, m1⟩ := (h.done hP).1 x hx
  obtain ⟨k, hk, e2, m2⟩ := (h.done hP).1 y hy
  have := hP.disj j k hj hk y (hP.join x y hr (by rw [← h.len]; exact hy) j hj m1) m2
  rw [e1, e2, this]

/-! One edge less. -/
theorem prt_none (n : Nat) : (prtL n []).length = n := by
  have h0 : ∀ x, repB [] x = true := fun x => repB_iff.2 fun h hh hj => by
    have : ∀ y, Jn [] h y → h = y := fun y hy => by
      rcases hy.head with h1 | ⟨c, h1, _⟩
      · exact h1
      · rw [Gp.inE_iff] at h1
        simp [bothE, Gp.rev] at h1
    have := this x hj
    omega
  rw [prtL_form, List.length_map, repsL, List.filter_eq_self.2 (fun x _ => h0 x), List.length_range]
theorem split_jn {E F : List (Nat × Nat)} {p q : Nat} (hE : ∀ e, e ∈ E → e = (p, q) ∨ e ∈ F) {a b : Nat} (h : Jn E a b) : Jn F a b ∨ ((Jn F p a ∨ Jn F q a) ∧ (Jn F p b ∨ Jn F q b)) := by
  induction h with
  | refl => exact .inl .refl
  | step _ he ih =>
    rename_i b c _
    have hc : Jn F b c ∨ ((Jn F p b ∨ Jn F q b) ∧ (Jn F p c ∨ Jn F q c)) := by
      rcases (inE_both E _ _).1 he with h | h
      · rcases hE _ (Gp.inE_iff.1 h) with h1 | h1
        · simp only [Prod.mk.injEq] at h1
          obtain ⟨rfl, rfl⟩ := h1
          exact .inr ⟨.inl .refl, .inr .refl⟩
        · exact .inl (.edge ((inE_both F _ _).2 (.inl (Gp.inE_iff.2 h1))))
      · rcases hE _ (Gp.inE_iff.1 h) with h1 | h1
        · simp only [Prod.mk.injEq] at h1
          obtain ⟨rfl, rfl⟩ := h1
          exact .inr ⟨.inr .refl, .inl .refl⟩
        · exact .inl (.edge ((inE_both F _ _).2 (.inr (Gp.inE_iff.2 h1))))
    rcases ih with ih | ⟨i1, i2⟩
    · rcases hc with hc | ⟨c1, c2⟩
      · exact .inl (ih.trans hc)
      · refine .inr ⟨?_, c2⟩
        rcases c1 with c1 | c1
        · exact .inl (c1.trans ih.symm)
        · exact .inr (c1.trans ih.symm)
    · rcases hc with hc | ⟨c1, c2⟩
      · refine .inr ⟨i1, ?_⟩
        rcases i2 with i2 | i2
        · exact .inl (i2.trans hc)
        · exact .inr (i2.trans hc)
      · exact .inr ⟨i1, c2⟩
theorem new_one {E F : List (Nat × Nat)} {p q : Nat} (hE : ∀ e, e ∈ E → e = (p, q) ∨ e ∈ F) {x y : Nat} (hxy : x < y) (x1 : repB F x = true) (x2 : repB E x = false) (y1 : repB F y = true) (y2 : repB E y = false) : False := by
  obtain ⟨h, hh, hj⟩ := repB_not x2
  obtain ⟨g, hg, gj⟩ := repB_not y2
  have nx : ∀ z, z < x → ¬ Jn F z x := repB_iff.1 x1
  have ny : ∀ z, z < y → ¬ Jn F z y := repB_iff.1 y1
  rcases split_jn hE hj with h1 | ⟨h1, h2⟩
  · exact nx h hh h1
  rcases split_jn hE gj with g1 | ⟨g1, g2⟩
  · exact ny g hg g1
  have hxy' : ¬ Jn F x y := ny x hxy
  rcases h2 with h2 | h2
  · rcases g2 with g2 | g2
    · exact hxy' (h2.symm.trans g2)
    · rcases h1 with h1 | h1
      · exact nx h hh (h1.symm.trans h2)
      · exact ny h (by omega) (h1.symm.trans g2)
  · rcases g2 with g2 | g2
    · rcases h1 with h1 | h1
      · exact ny h (by omega) (h1.symm.trans g2)
      · exact nx h hh (h1.symm.trans h2)
    · exact hxy' (h2.symm.trans g2)
theorem cnt_new {r s : Nat → Bool} (h1 : ∀ x, s x = true → r x = true) (h2 : ∀ x y, x < y → r x = true → s x = false → r y = true → s y = false → False) : ∀ n, ((List.range n).filter s).length ≤ ((List.range n).filter r).length ∧
    (((List.range n).filter r).length ≤ ((List.range n).filter s).length ∨ ((∃ x, x < n ∧ r x = true ∧ s x = false) ∧ ((List.range n).filter r).length ≤ ((List.range n).filter s).length + 1))
  | 0 => ⟨Nat.le_refl _, .inl (Nat.le_refl _)⟩
  | n + 1 => by
    obtain ⟨ha, hb⟩ := cnt_new h1 h2 n
    have e1 : (List.range (n + 1)).filter r = (List.range n).filter r ++ (if r n then [n] else []) := filter_snoc
    have e2 : (List.range (n + 1)).filter s = (List.range n).filter s ++ (if s n then [n] else []) := filter_snoc
    rw [e1, e2, List.length_append, List.length_append]
    cases hr : r n <;> cases hs : s n
    · simp
      refine ⟨ha, ?_⟩
      rcases hb with hb | ⟨⟨x, hx, hx'⟩, hb⟩
      · exact .inl hb
      · exact .inr ⟨⟨x, by omega, hx'⟩, hb⟩
    · have := h1 n hs
      rw [hr] at this; cases this
    · simp
      refine ⟨by omega, ?_⟩
      rcases hb with hb | ⟨⟨x, hx, hx1, hx2⟩, hb⟩
      · exact .inr ⟨⟨n, by omega, hr, hs⟩, hb⟩
      · exact (h2 x n hx hx1 hx2 hr hs).elim
    · simp
      refine ⟨ha, ?_⟩
      rcases hb with hb | ⟨⟨x, hx, hx'⟩, hb⟩
      · exact .inl hb
      · exact .inr ⟨⟨x, by omega, hx'⟩, by omega⟩
theorem prt_less (n : Nat) (E : List (Nat × Nat)) (i : Nat) (hi : i < E.length) : (prtL n E).length ≤ (prtL n (E.take i ++ E.drop (i + 1))).length ∧ (prtL n (E.take i ++ E.drop (i + 1))).length ≤ (prtL n E).length + 1 := by
  obtain ⟨p, q, hpq⟩ : ∃ p q, E[i] = (p, q) := ⟨_, _, rfl⟩
  have hE : ∀ e, e ∈ E → e = (p, q) ∨ e ∈ E.take i ++ E.drop (i + 1) := fun e he => by
    have e0 : E = E.take i ++ E[i] :: E.drop (i + 1) := by rw [← List.drop_eq_getElem_cons hi, List.take_append_drop]
    rw [e0] at he
    rcases List.mem_append.1 he with h | h
    · exact .inr (List.mem_append_left _ h)
    · rcases List.mem_cons.1 h with h | h
      · exact .inl (h.trans hpq)
      · exact .inr (List.mem_append_right _ h)
  have hF : ∀ e, e ∈ E.take i ++ E.drop (i + 1) → e ∈ E := fun e he => by
    rcases List.mem_append.1 he with h | h
    · exact List.mem_of_mem_take h
    · exact List.mem_of_mem_drop h
  have := cnt_new (r := repB (E.take i ++ E.drop (i + 1))) (s := repB E) (fun x hx => repB_iff.2 fun h hh hj => repB_iff.1 hx h hh (hj.sub hF)) (fun x y hxy a b c d => new_one hE hxy a b c d) n
  rw [prtL_form, prtL_form, List.length_map, List.length_map]
  unfold repsL
  refine ⟨this.1, ?_⟩
  rcases this.2 with h | ⟨_, h⟩
  · omega
  · exact h
theorem vtx_less {n : Nat} {E : List (Nat × Nat)} (h : Gp.vtx n E) (i : Nat) : Gp.vtx n (E.take i ++ E.drop (i + 1)) := fun e he => by
  rcases List.mem_append.1 he with h1 | h1
  · exact h e (List.mem_of_mem_take h1)
  · exact h e (List.mem_of_mem_drop h1)

end Go.Proofs.Ythnhlaljnkdmfaa
