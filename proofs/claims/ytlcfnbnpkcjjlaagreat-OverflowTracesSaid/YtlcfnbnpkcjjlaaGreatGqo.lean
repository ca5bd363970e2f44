/- Orders, depths and loops, in plain words. No program is named. Conditions: none. -/
import Derived.Test.YtlcfnbnpkcjjlaaGreatMGp
namespace Go.Proofs.YtlcfnbnpkcjjlaaGreat.Gp
open Go.RowKit
set_option linter.unusedVariables false
set_option linter.unusedSimpArgs false

/-! Orders. -/
theorem ordF_pre {n : Nat} {E : Gr} : ∀ (f : Nat) (out : List Nat), (∀ i, i ≤ out.length → OInv n E (out.take i)) → ∀ i, i ≤ (ordF n E f out).length → OInv n E ((ordF n E f out).take i)
  | 0, _, h => h
  | f + 1, out, h => by
    unfold ordF
    cases hn : nextV n E out with
    | none => exact h
    | some v =>
      refine ordF_pre f (out ++ [v]) (fun i hi => ?_)
      rcases Nat.lt_or_ge out.length i with h1 | h1
      · have hi2 : i = (out ++ [v]).length := by simp at hi ⊢; omega
        have h0 := h out.length (Nat.le_refl _)
        rw [List.take_length] at h0
        rw [hi2, List.take_length]
        exact h0.snoc (nextV_some hn).1 (nextV_some hn).2
      · rw [List.take_append_of_le_length h1]
        exact h i h1
theorem ordL_pre {n : Nat} {E : Gr} {i : Nat} (hi : i ≤ (ordL n E).length) : OInv n E ((ordL n E).take i) := by
  refine ordF_pre n [] (fun i _ => ?_) i hi
  simp only [List.take_nil]
  exact OInv.nil n E
/-- An edge leads on. -/
theorem ordL_on {n : Nat} {E : Gr} {x j : Nat} (hj : j < (ordL n E).length) (h : inE E x (ordL n E)[j] = true) : ∃ (i : Nat) (hi : i < j), (ordL n E)[i]'(by omega) = x := by
  have hO := ordL_pre (n := n) (E := E) (i := j + 1) (by omega)
  have hm : (ordL n E)[j] ∈ (ordL n E).take (j + 1) := List.mem_take_iff_getElem.2 ⟨j, by omega, rfl⟩
  obtain ⟨i, hi, e⟩ := List.mem_take_iff_getElem.1 (hO.clo _ hm x h)
  have hij : i ≠ j := fun e2 => by
    subst e2
    have := ordL_self n E _ (List.getElem_mem hj)
    rw [← e] at h
    rw [this] at h; cases h
  exact ⟨i, by omega, e⟩
theorem ordL_all {n : Nat} {E : Gr} (h : (ordL n E).length = n) {x : Nat} (hx : x < n) : ∃ (i : Nat) (hi : i < (ordL n E).length), (ordL n E)[i] = x := by
  have hI := ordL_inv n E
  have hm : x ∈ ordL n E := by
    by_cases hm : x ∈ ordL n E
    · exact hm
    · exfalso
      have := nodup_le n (x :: ordL n E) (List.nodup_cons.2 ⟨hm, hI.nd⟩) (fun y hy => by
        rcases List.mem_cons.1 hy with e | e
        · rw [e]; exact hx
        · exact hI.lt y e)
      rw [List.length_cons] at this
      omega
  exact List.mem_iff_getElem.1 hm
theorem nodup_inj {l : List Nat} (h : l.Nodup) {i j : Nat} (hi : i < l.length) (hj : j < l.length) (e : l[i] = l[j]) : i = j := (List.getElem_inj h).1 e
/-- Where an order has all nodes no walk comes back. -/
theorem no_cycle {n : Nat} {E : Gr} (hv : vtx n E) (h : (ordL n E).length = n) : ∀ (k low b x : Nat), Wk E low b x (k + 1) → ∀ (i j : Nat) (hi : i < (ordL n E).length) (hj : j < (ordL n E).length), (ordL n E)[i] = x → (ordL n E)[j] = b → i < j := by
  intro k
  induction k with
  | zero =>
    intro low b x hw i j hi hj ei ej
    obtain ⟨y, h1, _, _, h4⟩ := hw.succ'
    have := h4.zero'
    subst this
    rw [← ej] at h1
    obtain ⟨i', hi', e⟩ := ordL_on hj h1
    have := nodup_inj (ordL_inv n E).nd hi (by omega) (ei.trans e.symm)
    omega
  | succ k ih =>
    intro low b x hw i j hi hj ei ej
    obtain ⟨y, h1, _, _, h4⟩ := hw.succ'
    obtain ⟨m, hm, em⟩ := ordL_all h (vtx_in hv h1).2
    have h2 := ih low b y h4 m j hm hj em ej
    rw [← em] at h1
    obtain ⟨i', hi', e⟩ := ordL_on hm h1
    have := nodup_inj (ordL_inv n E).nd hi (by omega) (ei.trans e.symm)
    omega
theorem no_self {n : Nat} {E : Gr} (hv : vtx n E) (h : (ordL n E).length = n) {k low x : Nat} (hx : x < n) : ¬ Wk E low x x (k + 1) := by
  intro hw
  obtain ⟨i, hi, e⟩ := ordL_all h hx
  have := no_cycle hv h k low x x hw i i hi hi e e
  omega

/-! A walk that comes back, where an order lacks nodes. -/
theorem left_pred {n : Nat} {E : Gr} {x : Nat} (hx : x < n) (ho : x ∉ ordL n E) : ∃ y, inE E y x = true ∧ y ∉ ordL n E := by
  have hn := ordL_end n E
  unfold nextV at hn
  rw [List.find?_eq_none] at hn
  have h1 := hn x (List.mem_range.2 hx)
  rw [rdyB_iff] at h1
  have h2 : ¬ ∀ a, inE E a x = true → a ∈ ordL n E := fun h => h1 ⟨ho, h⟩
  have ⟨a, ha⟩ := Classical.not_forall.1 h2
  obtain ⟨h3, h4⟩ := Classical.not_imp.1 ha
  exact ⟨a, h3, h4⟩
/-- Each node leads to the one behind it. -/
def chn (E : Gr) : List Nat → Prop
  | [] => True
  | [_] => True
  | x :: y :: r => inE E x y = true ∧ chn E (y :: r)
theorem chn_walk {E : Gr} : ∀ {r : List Nat} {h y : Nat}, chn E (h :: r) → y ∈ h :: r → ∃ k, Wk E 0 y h k
  | [], h, y, _, hy => by
    rw [List.mem_singleton] at hy; subst hy
    exact ⟨0, .zero⟩
  | z :: r, h, y, hc, hy => by
    rcases List.mem_cons.1 hy with e | e
    · subst e; exact ⟨0, .zero⟩
    · obtain ⟨k, hk⟩ := chn_walk hc.2 e
      exact ⟨k + 1, .succ hc.1 (Nat.zero_le _) (Nat.zero_le _) hk⟩
theorem back {n : Nat} {E : Gr} (hv : vtx n E) {x0 : Nat} (hx0 : x0 < n) (ho : x0 ∉ ordL n E) : ∀ m : Nat, (∃ x k, x < n ∧ Wk E 0 x x (k + 1)) ∨ ∃ h r, chn E (h :: r) ∧ (h :: r).Nodup ∧ (h :: r).length = m + 1 ∧ (∀ z ∈ h :: r, z < n) ∧ h ∉ ordL n E
  | 0 => .inr ⟨x0, [], trivial, by simp, rfl, fun z hz => by rw [List.mem_singleton] at hz; subst hz; exact hx0, ho⟩
  | m + 1 => by
    rcases back hv hx0 ho m with h | ⟨h, r, h1, h2, h3, h4, h5⟩
    · exact .inl h
    · obtain ⟨y, hy, hyo⟩ := left_pred (h4 h (List.mem_cons_self ..)) h5
      have hyn := (vtx_in hv hy).1
      by_cases hm : y ∈ h :: r
      · obtain ⟨k, hk⟩ := chn_walk h1 hm
        exact .inl ⟨y, k, hyn, .succ hy (Nat.zero_le _) (Nat.zero_le _) hk⟩
      · refine .inr ⟨y, h :: r, ⟨hy, h1⟩, List.nodup_cons.2 ⟨hm, h2⟩, by rw [List.length_cons, h3], fun z hz => ?_, hyo⟩
        rcases List.mem_cons.1 hz with e | e
        · rw [e]; exact hyn
        · exact h4 z e
theorem sub_len : ∀ (l m : List Nat), l.Nodup → (∀ x ∈ l, x ∈ m) → l.length ≤ m.length
  | [], _, _, _ => Nat.zero_le _
  | x :: r, m, hd, h => by
    obtain ⟨h1, h2⟩ := List.nodup_cons.1 hd
    have hx := h x (List.mem_cons_self ..)
    have h3 : (m.erase x).length = m.length - 1 := List.length_erase_of_mem hx
    have h4 := sub_len r (m.erase x) h2 (fun y hy => (List.mem_erase_of_ne (show y ≠ x from fun e => h1 (e ▸ hy))).2 (h y (List.mem_cons_of_mem _ hy)))
    have h5 : 0 < m.length := List.length_pos_of_mem hx
    rw [List.length_cons]; omega
theorem has_cycle {n : Nat} {E : Gr} (hv : vtx n E) (h : (ordL n E).length < n) : ∃ x k, x < n ∧ Wk E 0 x x (k + 1) := by
  have hx : ∃ x, x < n ∧ x ∉ ordL n E := by
    apply Classical.byContradiction
    intro hc
    have hall : ∀ x, x < n → x ∈ ordL n E := fun x hx => Classical.byContradiction fun hm => hc ⟨x, hx, hm⟩
    have := sub_len (List.range n) (ordL n E) (asc_nodup (range_asc n)) (fun x hx => hall x (List.mem_range.1 hx))
    rw [List.length_range] at this
    omega
  obtain ⟨x, hx, ho⟩ := hx
  rcases back hv hx ho n with h | ⟨h, r, _, h2, h3, h4, _⟩
  · exact h
  · have := nodup_le n _ h2 h4
    omega
/-- From the least node of all walks that come back. -/
theorem low_walk {E : Gr} {b : Nat} (hmin : ∀ z k, Wk E 0 z z (k + 1) → b ≤ z) : ∀ {j y : Nat}, Wk E 0 b y j → ∀ i, Wk E 0 y b i → 1 ≤ i + j → Wk E b b y j
  | 0, y, h, _, _, _ => by
    have := h.zero'
    subst this
    exact .zero
  | j + 1, y, h, i, hi, _ => by
    obtain ⟨z, h1, _, _, h4⟩ := h.succ'
    have hy : b ≤ y := by
      have := Wk.trans hi h
      rw [show j + 1 + i = (j + i) + 1 by omega] at this
      exact hmin y _ this
    have hbz : Wk E 0 z b (i + 1) := hi.snoc h1
    have hz : b ≤ z := by
      have := Wk.trans hbz h4
      rw [show j + (i + 1) = (j + i) + 1 by omega] at this
      exact hmin z _ this
    exact .succ h1 hy hz (low_walk hmin h4 (i + 1) hbz (by omega))
theorem cyc_ne {n : Nat} {E : Gr} (hv : vtx n E) (h : (ordL n E).length < n) : ∃ s, s < n ∧ cycL n E s ≠ [] := by
  obtain ⟨x, k, hx, hw⟩ := has_cycle hv h
  have hex : ∃ b, (∃ k, Wk E 0 b b (k + 1)) ∧ ∀ z, (∃ k, Wk E 0 z z (k + 1)) → b ≤ z := by
    clear hx
    induction x using Nat.strongRecOn generalizing k with
    | _ x ih =>
      by_cases hm : ∀ z, (∃ k, Wk E 0 z z (k + 1)) → x ≤ z
      · exact ⟨x, ⟨k, hw⟩, hm⟩
      · have ⟨z, hz⟩ := Classical.not_forall.1 hm
        obtain ⟨⟨k2, hz1⟩, hz2⟩ := Classical.not_imp.1 hz
        exact ih z (by omega) k2 hz1
  obtain ⟨s, ⟨k, hs⟩, hmin⟩ := hex
  have hsn : s < n := by
    obtain ⟨y, h1, _⟩ := hs.succ'
    exact (vtx_in hv h1).1
  have hl := low_walk (fun z k hz => hmin z ⟨k, hz⟩) hs 0 .zero (by omega)
  obtain ⟨y, h1, _, h3, h4⟩ := hl.succ'
  refine ⟨s, hsn, fun hc => ?_⟩
  unfold cycL at hc
  cases hb : bestL n E s (stepsL n E s s) with
  | some v => rw [hb] at hc; simp at hc
  | none =>
    have hI := stepsL_is (low := s) hv hsn
    obtain ⟨j, _, hd⟩ := Dk.of (rd := false) (k := k) ⟨h4, fun h => by cases h⟩
    have := (bestL_is n E s (stepsL n E s s)).no hb y (mem_ups.2 ⟨(vtx_in hv h1).2, h3⟩)
    unfold bstP at this
    rw [hI.get_some (vtx_in hv h1).2 hd, h1] at this
    simp at this
theorem cyc_no {n : Nat} {E : Gr} (hv : vtx n E) (h : (ordL n E).length = n) {s : Nat} (hs : s < n) : cycL n E s = [] := by
  unfold cycL
  cases hb : bestL n E s (stepsL n E s s) with
  | none => rfl
  | some v =>
    exfalso
    obtain ⟨y1, y2, _⟩ := (bestL_is n E s _).yes v hb
    obtain ⟨v1, v2⟩ := mem_ups.1 y1
    unfold bstP at y2
    simp only [Bool.and_eq_true, decide_eq_true_eq] at y2
    obtain ⟨k, _, k2⟩ := (stepsL_is (low := s) hv hs).nonneg v1 y2.1
    exact no_self hv h hs (.succ y2.2 (Nat.le_refl _) v2 k2.1.1)

/-! Loops. -/
structure LopI (n : Nat) (E : Gr) (l : List Nat) : Prop where
  pos : 0 < l.length
  le : l.length ≤ n
  ge : ∀ i, i < l.length → l.getD 0 0 ≤ l.getD i 0
  lt : ∀ i, i < l.length → l.getD i 0 < n
  nxt : ∀ i, i < l.length → inE E (l.getD i 0) (l.getD ((i + 1) % l.length) 0) = true
  inj : ∀ i j, i < l.length → j < l.length → l.getD i 0 = l.getD j 0 → i = j
theorem cyc_lop {n : Nat} {E : Gr} (hv : vtx n E) {s : Nat} (hs : s < n) (h : cycL n E s ≠ []) : LopI n E (cycL n E s) := by
  have hle := cycL_len_le hv hs
  revert h hle
  unfold cycL
  cases hb : bestL n E s (stepsL n E s s) with
  | none => intro h; exact absurd rfl h
  | some v =>
    intro _ hle
    simp only at hle ⊢
    obtain ⟨y1, y2, _⟩ := (bestL_is n E s _).yes v hb
    obtain ⟨v1, v2⟩ := mem_ups.1 y1
    unfold bstP at y2
    simp only [Bool.and_eq_true, decide_eq_true_eq] at y2
    have hI := stepsL_is (low := s) hv hs
    obtain ⟨k, k1, k2⟩ := hI.nonneg v1 y2.1
    generalize stepsL n E s s = St at *
    rw [k1, Int.toNat_natCast] at hle ⊢
    have hP := lpR_spec hv hI hs k v v1 k1
    have hlen : (lpR n E St s k v).length = k := lpR_len n E St s k v
    generalize lpR n E St s k v = L at *
    have hg : ∀ i, i < k → (s :: L).getD (i + 1) 0 = (L ++ [s]).getD i 0 := fun i hi => by
      simp [List.getD, List.getElem?_append_left (show i < L.length by omega)]
    have hst : ∀ i, i < k + 1 → (s :: L).getD i 0 < n ∧ St.getD ((s :: L).getD i 0) (-1) = if i = 0 then 0 else ((k - (i - 1) : Nat) : Int) := fun i hi => by
      cases i with
      | zero => exact ⟨hs, by rw [if_pos rfl]; exact hI.self hs⟩
      | succ i =>
        rw [hg i (by omega), if_neg (by omega)]
        exact hP.at' i (by omega)
    have hlL : (s :: L).length = k + 1 := by rw [List.length_cons, hlen]
    refine ⟨by rw [hlL]; omega, hle, fun i hi => ?_, fun i hi => (hst i (by omega)).1, fun i hi => ?_, fun i j hi hj e => ?_⟩
    · show s ≤ _
      cases i with
      | zero => exact Nat.le_refl _
      | succ i =>
        have h1 := hst (i + 1) (by omega)
        rw [if_neg (by omega)] at h1
        exact (hI.of_get h1.1 h1.2).1.1.ge (Nat.le_refl _)
    · rw [hlL] at hi ⊢
      by_cases hk0 : k = 0
      · subst hk0
        have hi0 : i = 0 := by omega
        subst hi0
        have : v = s := (hI.of_get v1 k1).1.1.zero'
        subst this
        exact y2.2
      · by_cases hil : i = k
        · subst hil
          rw [Nat.mod_self]
          obtain ⟨j, rfl⟩ : ∃ j, i = j + 1 := ⟨i - 1, by omega⟩
          rw [hg j (by omega)]
          have := hP.nxt j (by omega)
          rw [hP.lst] at this
          exact this
        · rw [Nat.mod_eq_of_lt (by omega)]
          cases i with
          | zero =>
            rw [hg 0 (by omega), hP.fst]
            exact y2.2
          | succ j =>
            rw [hg j (by omega), hg (j + 1) (by omega)]
            exact hP.nxt j (by omega)
    · rw [hlL] at hi hj
      have h1 := (hst i hi).2
      have h2 := (hst j hj).2
      rw [e, h2] at h1
      split at h1 <;> split at h1 <;> omega
theorem lopS_ne {n : Nat} {E : Gr} {best : List Nat} (s : Nat) (h : best ≠ []) : lopS n E best s ≠ [] := by
  unfold lopS
  split
  · rename_i hc; exact hc.1
  · exact h
theorem fold_ne {n : Nat} {E : Gr} : ∀ (r : List Nat) (best : List Nat), best ≠ [] → r.foldl (lopS n E) best ≠ []
  | [], _, h => h
  | s :: r, _, h => fold_ne r _ (lopS_ne s h)
theorem fold_has {n : Nat} {E : Gr} : ∀ (r : List Nat) (best : List Nat) (s : Nat), s ∈ r → cycL n E s ≠ [] → r.foldl (lopS n E) best ≠ []
  | x :: r, best, s, hs, hc => by
    rw [List.foldl_cons]
    by_cases hx : s = x
    · subst hx
      refine fold_ne r _ ?_
      unfold lopS
      split
      · exact hc
      · rename_i hn
        intro hb
        exact hn ⟨hc, .inl hb⟩
    · exact fold_has r _ s ((List.mem_cons.1 hs).resolve_left hx) hc
theorem fold_one {n : Nat} {E : Gr} (P : List Nat → Prop) (hP : ∀ s, s < n → cycL n E s ≠ [] → P (cycL n E s)) : ∀ (r : List Nat) (best : List Nat), (∀ s ∈ r, s < n) → (best = [] ∨ P best) → r.foldl (lopS n E) best = [] ∨ P (r.foldl (lopS n E) best)
  | [], _, _, h => h
  | s :: r, best, hr, h => by
    refine fold_one P hP r _ (fun x hx => hr x (List.mem_cons_of_mem _ hx)) ?_
    unfold lopS
    split
    · rename_i hc
      exact .inr (hP s (hr s (List.mem_cons_self ..)) hc.1)
    · exact h
theorem lopL_I {n : Nat} {E : Gr} (hv : vtx n E) : lopL n E = [] ∨ LopI n E (lopL n E) :=
  fold_one (LopI n E) (fun _ hs hc => cyc_lop hv hs hc) _ _ (fun s hs => List.mem_range.1 hs) (.inl rfl)
theorem lopL_ne {n : Nat} {E : Gr} (hv : vtx n E) (h : (ordL n E).length < n) : lopL n E ≠ [] := by
  obtain ⟨s, hs, hc⟩ := cyc_ne hv h
  exact fold_has _ _ s (List.mem_range.2 hs) hc
theorem lopL_no {n : Nat} {E : Gr} (hv : vtx n E) (h : (ordL n E).length = n) : lopL n E = [] := by
  rcases fold_one (fun _ => False) (fun s hs hc => hc (cyc_no hv h hs)) (List.range n) [] (fun s hs => List.mem_range.1 hs) (.inl rfl) with h1 | h1
  · exact h1
  · exact h1.elim

/-! Depths. -/
structure DepI (n : Nat) (E : Gr) (P : List Nat) (D : List Int) : Prop where
  up : ∀ x ∈ P, ∀ y, y < n → inE E x y = true → D.getD x 0 + 1 ≤ D.getD y 0
  by' : ∀ y, y < n → D.getD y 0 = 0 ∨ ∃ x ∈ P, inE E x y = true ∧ D.getD y 0 = D.getD x 0 + 1
theorem depI_pre {n : Nat} {E : Gr} : ∀ j, j ≤ (ordL n E).length → DepI n E ((ordL n E).take j) (depF n E ((ordL n E).take j))
  | 0, _ => by
    rw [List.take_zero]
    refine ⟨fun x hx => absurd hx (List.not_mem_nil), fun y hy => .inl ?_⟩
    simp [depF, List.getD, hy]
  | j + 1, hj => by
    have ih := depI_pre (n := n) (E := E) j (by omega)
    have hO := ordL_pre (n := n) (E := E) (i := j) (by omega)
    have hjl : j < (ordL n E).length := by omega
    have hin := (ordL_inv n E).lt _ (List.getElem_mem hjl)
    have hself := ordL_self n E _ (List.getElem_mem hjl)
    have hni : (ordL n E)[j] ∉ (ordL n E).take j := fun hm => by
      obtain ⟨i, hi, e⟩ := List.mem_take_iff_getElem.1 hm
      have := nodup_inj (ordL_inv n E).nd (by omega) hjl e
      omega
    rw [List.take_succ_eq_append_getElem hjl, depF_snoc]
    generalize (ordL n E)[j] = i at *
    generalize hPe : (ordL n E).take j = P at *
    have hD : ∀ y, y < n → (depS n E (depF n E P) i).getD y 0 = if inE E i y then max ((depF n E P).getD y 0) ((depF n E P).getD i 0 + 1) else (depF n E P).getD y 0 := fun y hy => depS_get E _ i hy
    have hold : ∀ x ∈ P ++ [i], (depS n E (depF n E P) i).getD x 0 = (depF n E P).getD x 0 := fun x hx => by
      rcases List.mem_append.1 hx with h1 | h1
      · rw [hD x (hO.lt x h1), if_neg]
        intro hc
        exact hni (hO.clo x h1 i hc)
      · rw [List.mem_singleton] at h1; subst h1
        rw [hD _ hin, hself]; rfl
    refine ⟨fun x hx y hy he => ?_, fun y hy => ?_⟩
    · rw [hold x hx, hD y hy]
      rcases List.mem_append.1 hx with h1 | h1
      · have := ih.up x h1 y hy he
        split <;> omega
      · rw [List.mem_singleton] at h1; subst h1
        rw [he, if_pos rfl]; omega
    · rw [hD y hy]
      by_cases hc : inE E i y = true
      · rw [if_pos hc]
        by_cases hlt : (depF n E P).getD y 0 < (depF n E P).getD i 0 + 1
        · refine .inr ⟨i, by simp, hc, ?_⟩
          rw [hold i (by simp)]; omega
        · rw [show max ((depF n E P).getD y 0) ((depF n E P).getD i 0 + 1) = (depF n E P).getD y 0 by omega]
          rcases ih.by' y hy with h1 | ⟨x, hx, h1, h2⟩
          · exact .inl h1
          · exact .inr ⟨x, List.mem_append_left _ hx, h1, by rw [hold x (List.mem_append_left _ hx)]; exact h2⟩
      · rw [if_neg hc]
        rcases ih.by' y hy with h1 | ⟨x, hx, h1, h2⟩
        · exact .inl h1
        · exact .inr ⟨x, List.mem_append_left _ hx, h1, by rw [hold x (List.mem_append_left _ hx)]; exact h2⟩
theorem depL_I (n : Nat) (E : Gr) : DepI n E (ordL n E) (depL n E) := by
  have := depI_pre (n := n) (E := E) (ordL n E).length (Nat.le_refl _)
  rw [List.take_length] at this
  exact this

end Go.Proofs.YtlcfnbnpkcjjlaaGreat.Gp
