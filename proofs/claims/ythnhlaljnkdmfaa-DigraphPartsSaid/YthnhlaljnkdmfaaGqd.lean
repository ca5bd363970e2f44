/- Lengths of longest paths, in plain words. No program is named. Conditions: none. -/
import Derived.Test.YthnhlaljnkdmfaaGpl
namespace Go.Proofs.Ythnhlaljnkdmfaa.Gp
open Go.RowKit
set_option linter.unusedVariables false
set_option linter.unusedSimpArgs false

/-- The program's inner round. -/
def depG (i : Nat) : List Nat → List Int → List Int
  | [], out => out
  | k :: r, out => depG i r (out.set k (max (out.getD k 0) (out.getD i 0 + 1)))
/-- The reference's inner round. -/
def depE (i : Nat) : Gr → List Int → List Int
  | [], out => out
  | e :: r, out => if e.1 == i && decide (out.getD e.2 0 < out.getD i 0 + 1) then depE i r (out.set e.2 (out.getD i 0 + 1)) else depE i r out
/-- One node of the order. -/
def depS (n : Nat) (E : Gr) (out : List Int) (i : Nat) : List Int := (List.range n).map fun x => if inE E i x then max (out.getD x 0) (out.getD i 0 + 1) else out.getD x 0
def depF (n : Nat) (E : Gr) (l : List Nat) : List Int := l.foldl (depS n E) (List.replicate n 0)
def depL (n : Nat) (E : Gr) : List Int := depF n E (ordL n E)
theorem depG_len (i : Nat) : ∀ (ks : List Nat) (out : List Int), (depG i ks out).length = out.length
  | [], _ => rfl
  | k :: r, out => by unfold depG; rw [depG_len i r]; simp
theorem depE_len (i : Nat) : ∀ (r : Gr) (out : List Int), (depE i r out).length = out.length
  | [], _ => rfl
  | e :: r, out => by
    unfold depE
    split
    · rw [depE_len i r]; simp
    · exact depE_len i r out
theorem depS_len (n : Nat) (E : Gr) (out : List Int) (i : Nat) : (depS n E out i).length = n := by simp [depS]
theorem depG_get (i : Nat) : ∀ (ks : List Nat) (out : List Int), i ∉ ks → (∀ k ∈ ks, k < out.length) → ∀ x, (depG i ks out).getD x 0 = if x ∈ ks then max (out.getD x 0) (out.getD i 0 + 1) else out.getD x 0
  | [], out, _, _, x => by simp [depG]
  | k :: r, out, hi, hl, x => by
    have hik : k ≠ i := fun e => hi (by rw [e]; exact List.mem_cons_self ..)
    have hk := hl k (List.mem_cons_self ..)
    unfold depG
    rw [depG_get i r _ (fun h => hi (List.mem_cons_of_mem _ h)) (fun y hy => by simpa using hl y (List.mem_cons_of_mem _ hy)) x, getD_set_ne hik]
    by_cases hx : k = x
    · subst hx
      rw [getD_set_self hk, if_pos (List.mem_cons_self ..)]
      split <;> omega
    · rw [getD_set_ne hx]
      have : x ∈ k :: r ↔ x ∈ r := by rw [List.mem_cons]; exact ⟨fun h => h.resolve_left (fun e => hx e.symm), .inr⟩
      simp only [this]
theorem depE_get (i : Nat) : ∀ (r : Gr) (out : List Int), (i, i) ∉ r → (∀ e ∈ r, e.2 < out.length) → ∀ x, (depE i r out).getD x 0 = if (i, x) ∈ r then max (out.getD x 0) (out.getD i 0 + 1) else out.getD x 0
  | [], out, _, _, x => by simp [depE]
  | e :: r, out, hi, hl, x => by
    have hi' : (i, i) ∉ r := fun h => hi (List.mem_cons_of_mem _ h)
    have he := hl e (List.mem_cons_self ..)
    obtain ⟨a, k⟩ := e
    unfold depE
    split
    · rename_i hc
      simp only [Bool.and_eq_true, beq_iff_eq, decide_eq_true_eq] at hc
      obtain ⟨rfl, hc⟩ := hc
      simp only at hi hc he ⊢
      have hik : k ≠ a := fun e => hi (by rw [e]; exact List.mem_cons_self ..)
      rw [depE_get a r _ hi' (fun y hy => by simpa using hl y (List.mem_cons_of_mem _ hy)) x, getD_set_ne hik]
      by_cases hx : k = x
      · subst hx
        rw [getD_set_self he, if_pos (List.mem_cons_self ..)]
        split <;> omega
      · rw [getD_set_ne hx]
        have : (a, x) ∈ (a, k) :: r ↔ (a, x) ∈ r := by
          rw [List.mem_cons]
          exact ⟨fun h => h.resolve_left (fun e => hx (by injection e with _ e; exact e.symm)), .inr⟩
        simp only [this]
    · rename_i hc
      simp only [Bool.and_eq_true, beq_iff_eq, decide_eq_true_eq] at hc
      rw [depE_get i r out hi' (fun y hy => hl y (List.mem_cons_of_mem _ hy)) x]
      by_cases hx : (a, k) = (i, x)
      · injection hx with h1 h2
        subst h1; subst h2
        rw [if_pos (List.mem_cons_self ..)]
        have : ¬ out.getD k 0 < out.getD a 0 + 1 := fun h => hc ⟨rfl, h⟩
        split <;> omega
      · have : (i, x) ∈ (a, k) :: r ↔ (i, x) ∈ r := by
          rw [List.mem_cons]
          exact ⟨fun h => h.resolve_left (fun e => hx e.symm), .inr⟩
        simp only [this]
theorem ext_getD {a b : List Int} {n : Nat} (ha : a.length = n) (hb : b.length = n) (h : ∀ x, x < n → a.getD x 0 = b.getD x 0) : a = b := by
  apply List.ext_getElem
  · rw [ha, hb]
  · intro i h1 h2
    have := h i (by omega)
    simpa [List.getD, h1, h2] using this
theorem depS_get {n : Nat} (E : Gr) (out : List Int) (i : Nat) {x : Nat} (hx : x < n) : (depS n E out i).getD x 0 = if inE E i x then max (out.getD x 0) (out.getD i 0 + 1) else out.getD x 0 := by
  simp [depS, List.getD, hx]
theorem depG_is {n : Nat} {E : Gr} {i : Nat} (hi : inE E i i = false) {out : List Int} (hl : out.length = n) : depG i (nxt n E i) out = depS n E out i := by
  have hni : i ∉ nxt n E i := fun h => by have := (mem_nxt.1 h).2; rw [hi] at this; cases this
  refine ext_getD (by rw [depG_len]; exact hl) (depS_len ..) (fun x hx => ?_)
  rw [depG_get i _ out hni (fun k hk => by rw [hl]; exact (mem_nxt.1 hk).1) x, depS_get E out i hx]
  have : x ∈ nxt n E i ↔ inE E i x = true := by rw [mem_nxt]; exact ⟨fun h => h.2, fun h => ⟨hx, h⟩⟩
  simp only [this]
theorem depE_is {n : Nat} {E : Gr} (hv : vtx n E) {i : Nat} (hi : inE E i i = false) {out : List Int} (hl : out.length = n) : depE i E out = depS n E out i := by
  have hni : (i, i) ∉ E := fun h => by rw [inE_iff.2 h] at hi; cases hi
  refine ext_getD (by rw [depE_len]; exact hl) (depS_len ..) (fun x hx => ?_)
  rw [depE_get i _ out hni (fun e he => by rw [hl]; exact (hv e he).2) x, depS_get E out i hx]
  simp only [inE_iff]
/-- The lengths stay small. -/
def Small (c : Nat) (out : List Int) : Prop := ∀ x, 0 ≤ out.getD x 0 ∧ out.getD x 0 ≤ (c : Int)
theorem Small.zero (n : Nat) : Small 0 (List.replicate n 0) := by
  intro x
  have : (List.replicate n (0 : Int)).getD x 0 = 0 := by
    simp only [List.getD, List.getElem?_replicate]
    split <;> rfl
  rw [this]; simp
theorem Small.depG {c i : Nat} {out : List Int} (h : Small c out) (ks : List Nat) (hi : i ∉ ks) (hl : ∀ k ∈ ks, k < out.length) : Small (c + 1) (depG i ks out) := by
  intro x
  rw [depG_get i ks out hi hl x]
  have h1 := h x
  have h2 := h i
  split <;> omega
theorem Small.depE {c i : Nat} {out : List Int} (h : Small c out) (ks : Gr) (hi : (i, i) ∉ ks) (hl : ∀ e ∈ ks, e.2 < out.length) : Small (c + 1) (depE i ks out) := by
  intro x
  rw [depE_get i ks out hi hl x]
  have h1 := h x
  have h2 := h i
  split <;> omega
theorem OInv.self {n : Nat} {E : Gr} : ∀ (f : Nat) (out : List Nat), (∀ i ∈ out, inE E i i = false) → ∀ i ∈ ordF n E f out, inE E i i = false
  | 0, _, h => h
  | f + 1, out, h => by
    unfold ordF
    cases hn : nextV n E out with
    | none => exact h
    | some v =>
      refine OInv.self f _ (fun i hi => ?_)
      rcases List.mem_append.1 hi with hi | hi
      · exact h i hi
      · rw [List.mem_singleton] at hi; subst hi
        obtain ⟨h1, h2⟩ := rdyB_iff.1 (nextV_some hn).2
        cases he : inE E i i
        · rfl
        · exact absurd (h2 i he) h1
theorem ordL_self (n : Nat) (E : Gr) : ∀ i ∈ ordL n E, inE E i i = false := OInv.self n [] (fun i hi => absurd hi (List.not_mem_nil))
theorem depF_snoc (n : Nat) (E : Gr) (l : List Nat) (i : Nat) : depF n E (l ++ [i]) = depS n E (depF n E l) i := by
  unfold depF; rw [List.foldl_append]; rfl
theorem depF_len (n : Nat) (E : Gr) : ∀ (l : List Nat), (depF n E l).length = n := by
  intro l
  rcases List.eq_nil_or_concat l with rfl | ⟨m, i, rfl⟩
  · simp [depF]
  · rw [List.concat_eq_append, depF_snoc, depS_len]
theorem depF_small {n : Nat} (E : Gr) : ∀ (l : List Nat), Small l.length (depF n E l) := by
  intro l
  induction h : l.length generalizing l with
  | zero =>
    have : l = [] := List.eq_nil_of_length_eq_zero h
    subst this
    exact Small.zero n
  | succ c ih =>
    rcases List.eq_nil_or_concat l with rfl | ⟨m, i, rfl⟩
    · simp at h
    · rw [List.concat_eq_append] at h ⊢
      have hm := ih m (by simpa using h)
      rw [depF_snoc]
      intro x
      have h1 := hm x
      have h2 := hm i
      by_cases hx : x < n
      · rw [depS_get E _ i hx]
        split <;> omega
      · have : (depS n E (depF n E m) i).getD x 0 = 0 := by
          rw [List.getD, List.getElem?_eq_none (by rw [depS_len]; omega)]; rfl
        omega

end Go.Proofs.Ythnhlaljnkdmfaa.Gp
