/- The plain law of EventsWhole: the events of a record have all its rain. No function of the program is walked here. Conditions: the depths in range, at least one dry step. -/
import Derived.Test.YtdlaghjijfgncaaEvdl
import Derived.Test.YtdlaghjijfgncaaEvgt
namespace Go.Proofs.Ytdlaghjijfgncaa
open Go.RowKit
set_option linter.unusedVariables false
set_option linter.unusedSimpArgs false

def sumTo (ds : List Int) (k : Nat) : Int := sumS (ds.take k)
def pkN (ds : List Int) (F k : Nat) : Int := ((ds.take k).drop F).foldl (fun m d => max m (wetS d)) 0
def runN (ds : List Int) (F k : Nat) : Nat := ((ds.take k).drop F).foldl (fun r d => if 0 < d then 0 else r + 1) 0
theorem wetS_pos {d : Int} (h : 0 < d) : wetS d = d := by unfold wetS; rw [if_neg (by omega)]
theorem wetS_neg {d : Int} (h : ¬ 0 < d) : wetS d = 0 := by unfold wetS; split <;> omega
theorem wetS_nn (d : Int) : 0 ≤ wetS d := by unfold wetS; split <;> omega
theorem seg_step {ds : List Int} {F k : Nat} (hF : F ≤ k) (hk : k < ds.length) : (ds.take (k + 1)).drop F = (ds.take k).drop F ++ [ds[k]] := by
  rw [List.take_succ_eq_append_getElem hk, List.drop_append_of_le_length (by simp; omega)]
theorem seg_nil {ds : List Int} {k : Nat} : (ds.take k).drop k = [] := List.drop_eq_nil_of_le (by simp; omega)
theorem pkN_step {ds : List Int} {F k : Nat} (hF : F ≤ k) (hk : k < ds.length) : pkN ds F (k + 1) = max (pkN ds F k) (wetS ds[k]) := by
  unfold pkN
  rw [seg_step hF hk, List.foldl_append]
  rfl
theorem pkN_self (ds : List Int) (k : Nat) : pkN ds k k = 0 := by unfold pkN; rw [seg_nil]; rfl
theorem runN_step {ds : List Int} {F k : Nat} (hF : F ≤ k) (hk : k < ds.length) : runN ds F (k + 1) = if 0 < ds[k] then 0 else runN ds F k + 1 := by
  unfold runN
  rw [seg_step hF hk, List.foldl_append]
  rfl
theorem runN_self (ds : List Int) (k : Nat) : runN ds k k = 0 := by unfold runN; rw [seg_nil]; rfl
theorem sumTo_step {ds : List Int} {k : Nat} (hk : k < ds.length) : sumTo ds (k + 1) = sumTo ds k + wetS ds[k] := sumS_step ds k hk
theorem pkN_nn (ds : List Int) (F : Nat) : ∀ k, F ≤ k → k ≤ ds.length → 0 ≤ pkN ds F k
  | 0, h, _ => by
    obtain rfl : F = 0 := by omega
    rw [pkN_self]; exact Int.le_refl _
  | k + 1, h, hk => by
    by_cases hF : F = k + 1
    · subst hF; rw [pkN_self]; exact Int.le_refl _
    · rw [pkN_step (by omega) (by omega)]
      have := pkN_nn ds F k (by omega) (by omega)
      omega

/-- The totals of events. -/
def totSum : List Ev → Int
  | [] => 0
  | e :: r => e.Total + totSum r
theorem totSum_app (a b : List Ev) : totSum (a ++ b) = totSum a + totSum b := by
  induction a with
  | nil => simp [totSum]
  | cons x r ih => simp only [List.cons_append, totSum, ih]; omega
theorem totSum_step {l : List Ev} {k : Nat} (h : k < l.length) : totSum (l.take (k + 1)) = totSum (l.take k) + l[k].Total := by
  rw [List.take_succ_eq_append_getElem h, totSum_app]; simp [totSum]

structure WEv (ds : List Int) (dry : Int) (k : Nat) (e : Ev) (F T : Nat) : Prop where
  f : e.From = F
  t : e.To = T
  ft : F < T
  tk : T ≤ k
  wf : 0 < ds.getD F 0
  wt : 0 < ds.getD (T - 1) 0
  tot : e.Total = sumTo ds T - sumTo ds F
  pk : e.Peak = pkN ds F T
  run : ∀ j, F ≤ j → j < T → (runN ds F (j + 1) : Int) < dry
structure WLast (ds : List Int) (k : Nat) (F T : Nat) : Prop where
  sum : sumTo ds k = sumTo ds T
  pk : pkN ds F k = pkN ds F T
  run : ∀ j, T ≤ j → j ≤ k → runN ds F j = j - T
structure WInv (ds : List Int) (dry : Int) (k : Nat) (out : List Ev) : Prop where
  pw : out.Pairwise (fun a b => a.To + dry ≤ b.From)
  each : ∀ e ∈ out, ∃ F T, WEv ds dry k e F T
  cov : ∀ j, j < k → 0 < ds.getD j 0 → ∃ e ∈ out, e.From ≤ j ∧ (j : Int) < e.To
  last : ∀ out0 E, out = out0 ++ [E] → ∃ F T, WEv ds dry k E F T ∧ WLast ds k F T
  sum : totSum out = sumTo ds k

theorem WEv.succ {ds : List Int} {dry : Int} {k : Nat} {e : Ev} {F T : Nat} (h : WEv ds dry k e F T) : WEv ds dry (k + 1) e F T := ⟨h.f, h.t, h.ft, by have := h.tk; omega, h.wf, h.wt, h.tot, h.pk, h.run⟩
theorem getD_at {ds : List Int} {k : Nat} (hk : k < ds.length) : ds.getD k 0 = ds[k] := by simp [List.getD, List.getElem?_eq_getElem hk]
theorem snoc_inj {α : Type} {a b : List α} {x y : α} (h : a ++ [x] = b ++ [y]) : a = b ∧ x = y := by
  have := List.append_inj' h rfl
  simpa using this
theorem addEv_snoc {dry : Int} {k : Nat} {d : Int} (A : List Ev) (E : Ev) :
    addEv dry k d (A ++ [E]) = if (k : Int) - E.To < dry then A ++ [⟨E.From, k + 1, E.Total + d, if E.Peak < d then d else E.Peak⟩] else A ++ [E] ++ [⟨k, k + 1, d, d⟩] := by
  have hn : (A ++ [E]).length = A.length + 1 := by simp
  have hE : (A ++ [E])[A.length]'(by simp) = E := by simp
  by_cases h : (k : Int) - E.To < dry
  · rw [if_pos h, addEv_set hn hE h, set_last hn, List.take_left]
  · rw [if_neg h, addEv_far hn hE h]

theorem winv_dry {ds : List Int} {dry : Int} {k : Nat} {out : List Ev} (h : WInv ds dry k out) (hk : k < ds.length) (hd : ¬ 0 < ds[k]) : WInv ds dry (k + 1) out := by
  refine ⟨h.pw, fun e he => ?_, fun j hj hw => ?_, fun out0 E ho => ?_, ?_⟩
  · obtain ⟨F, T, q⟩ := h.each e he; exact ⟨F, T, q.succ⟩
  · by_cases hjk : j = k
    · subst hjk; rw [getD_at hk] at hw; exact absurd hw hd
    · exact h.cov j (by omega) hw
  · obtain ⟨F, T, q, l⟩ := h.last out0 E ho
    have hft := q.ft
    have htk := q.tk
    refine ⟨F, T, q.succ, ?_, ?_, fun j h1 h2 => ?_⟩
    · rw [sumTo_step hk, wetS_neg hd, l.sum]; omega
    · rw [pkN_step (by omega) hk, wetS_neg hd, ← l.pk]
      have := pkN_nn ds F k (by omega) (by omega)
      omega
    · by_cases hjk : j = k + 1
      · subst hjk
        rw [runN_step (by omega) hk, if_neg hd, l.run k (by omega) (by omega)]
        omega
      · exact l.run j h1 (by omega)
  · rw [sumTo_step hk, wetS_neg hd, h.sum]; omega

theorem wnew {ds : List Int} {dry : Int} {k : Nat} (hd1 : 1 ≤ dry) (hk : k < ds.length) (hd : 0 < ds[k]) : WEv ds dry (k + 1) ⟨k, k + 1, ds[k], ds[k]⟩ k (k + 1) ∧ WLast ds (k + 1) k (k + 1) := by
  refine ⟨⟨rfl, by show (k : Int) + 1 = _; omega, by omega, by omega, by rw [getD_at hk]; exact hd, by rw [Nat.add_sub_cancel, getD_at hk]; exact hd, ?_, ?_, fun j h1 h2 => ?_⟩, rfl, rfl, fun j h1 h2 => ?_⟩
  · rw [sumTo_step hk, wetS_pos hd]; show ds[k] = _; omega
  · rw [pkN_step (Nat.le_refl _) hk, wetS_pos hd, pkN_self]; show ds[k] = _; omega
  · obtain rfl : j = k := by omega
    rw [runN_step (Nat.le_refl _) hk, if_pos hd]; omega
  · obtain rfl : j = k + 1 := by omega
    rw [runN_step (Nat.le_refl _) hk, if_pos hd]; omega

theorem winv_push {ds : List Int} {dry : Int} {k : Nat} {out : List Ev} (h : WInv ds dry k out) (hd1 : 1 ≤ dry) (hk : k < ds.length) (hd : 0 < ds[k]) (hfar : ∀ e ∈ out, e.To + dry ≤ (k : Int)) :
    WInv ds dry (k + 1) (out ++ [⟨k, k + 1, ds[k], ds[k]⟩]) := by
  obtain ⟨n1, n2⟩ := wnew hd1 hk hd
  refine ⟨?_, fun e he => ?_, fun j hj hw => ?_, fun out0 E ho => ?_, ?_⟩
  · rw [List.pairwise_append]
    refine ⟨h.pw, by simp, fun a ha b hb => ?_⟩
    simp only [List.mem_singleton] at hb
    subst hb
    exact hfar a ha
  · rcases List.mem_append.1 he with he | he
    · obtain ⟨F, T, q⟩ := h.each e he; exact ⟨F, T, q.succ⟩
    · simp only [List.mem_singleton] at he; subst he; exact ⟨_, _, n1⟩
  · by_cases hjk : j = k
    · subst hjk
      exact ⟨_, List.mem_append_right _ (List.mem_singleton.2 rfl), Int.le_refl _, by show (j : Int) < (j : Int) + 1; omega⟩
    · obtain ⟨e, he, q⟩ := h.cov j (by omega) hw
      exact ⟨e, List.mem_append_left _ he, q⟩
  · obtain ⟨_, rfl⟩ := snoc_inj ho
    exact ⟨_, _, n1, n2⟩
  · rw [totSum_app, sumTo_step hk, wetS_pos hd, h.sum]; simp only [totSum]; omega

theorem winv_step {ds : List Int} {dry : Int} {k : Nat} {out : List Ev} (h : WInv ds dry k out) (hd1 : 1 ≤ dry) (hk : k < ds.length) (hd : 0 < ds[k]) : WInv ds dry (k + 1) (addEv dry k ds[k] out) := by
  rcases List.eq_nil_or_concat out with rfl | ⟨A, E, rfl⟩
  · rw [addEv_nil]
    have := winv_push h hd1 hk hd (by simp)
    simpa using this
  · rw [List.concat_eq_append] at h ⊢
    rw [addEv_snoc]
    obtain ⟨F, T, q, l⟩ := h.last A E rfl
    have hpw := h.pw
    rw [List.pairwise_append] at hpw
    obtain ⟨hpA, _, hAE⟩ := hpw
    have hft := q.ft
    have htk := q.tk
    have hf := q.f
    have ht := q.t
    by_cases hq : (k : Int) - E.To < dry
    · rw [if_pos hq]
      have hpk0 := pkN_nn ds F k (by omega) (by omega)
      have w1 : WEv ds dry (k + 1) ⟨E.From, k + 1, E.Total + ds[k], if E.Peak < ds[k] then ds[k] else E.Peak⟩ F (k + 1) := by
        refine ⟨hf, by show (k : Int) + 1 = _; omega, by omega, by omega, q.wf, by rw [Nat.add_sub_cancel, getD_at hk]; exact hd, ?_, ?_, fun j h1 h2 => ?_⟩
        · rw [sumTo_step hk, wetS_pos hd, l.sum]
          have := q.tot
          show E.Total + ds[k] = _
          omega
        · rw [pkN_step (by omega) hk, wetS_pos hd, l.pk, ← q.pk]
          show (if E.Peak < ds[k] then ds[k] else E.Peak) = _
          split <;> omega
        · by_cases hjk : j = k
          · subst hjk
            rw [runN_step (by omega) hk, if_pos hd]; omega
          · by_cases hjT : j < T
            · exact q.run j h1 hjT
            · rw [l.run (j + 1) (by omega) (by omega)]; omega
      have w2 : WLast ds (k + 1) F (k + 1) := by
        refine ⟨rfl, rfl, fun j h1 h2 => ?_⟩
        obtain rfl : j = k + 1 := by omega
        rw [runN_step (by omega) hk, if_pos hd]; omega
      refine ⟨?_, fun e he => ?_, fun j hj hw => ?_, fun out0 E' ho => ?_, ?_⟩
      · rw [List.pairwise_append]
        refine ⟨hpA, by simp, fun a ha b hb => ?_⟩
        simp only [List.mem_singleton] at hb
        subst hb
        exact hAE a ha E (by simp)
      · rcases List.mem_append.1 he with he | he
        · obtain ⟨F', T', q'⟩ := h.each e (List.mem_append_left _ he); exact ⟨F', T', q'.succ⟩
        · simp only [List.mem_singleton] at he; subst he; exact ⟨_, _, w1⟩
      · by_cases hjk : j = k
        · subst hjk
          exact ⟨_, List.mem_append_right _ (List.mem_singleton.2 rfl), by show E.From ≤ _; omega, by show (j : Int) < (j : Int) + 1; omega⟩
        · obtain ⟨e, he, c1, c2⟩ := h.cov j (by omega) hw
          rcases List.mem_append.1 he with he | he
          · exact ⟨e, List.mem_append_left _ he, c1, c2⟩
          · simp only [List.mem_singleton] at he
            subst he
            exact ⟨_, List.mem_append_right _ (List.mem_singleton.2 rfl), c1, by show (j : Int) < (k : Int) + 1; omega⟩
      · obtain ⟨_, rfl⟩ := snoc_inj ho
        exact ⟨_, _, w1, w2⟩
      · have h1 := h.sum
        rw [totSum_app] at h1 ⊢
        rw [sumTo_step hk, wetS_pos hd]
        simp only [totSum] at h1 ⊢
        omega
    · rw [if_neg hq]
      refine winv_push h hd1 hk hd (fun e he => ?_)
      rcases List.mem_append.1 he with he | he
      · have := hAE e he E (by simp)
        omega
      · simp only [List.mem_singleton] at he
        subst he; omega

theorem whole_go (ds : List Int) (dry : Int) (hd1 : 1 ≤ dry) : ∀ (n k : Nat) (out : List Ev), k + n = ds.length → WInv ds dry k out → WInv ds dry ds.length (splitGo dry (ds.drop k) k out)
  | 0, k, out, hk, h => by
    rw [List.drop_eq_nil_of_le (by omega)]
    simp only [splitGo]
    obtain rfl : k = ds.length := by omega
    exact h
  | n + 1, k, out, hk, h => by
    have hlt : k < ds.length := by omega
    rw [List.drop_eq_getElem_cons hlt]
    by_cases hd : ds[k] ≤ 0
    · rw [splitGo_dry hd]
      exact whole_go ds dry hd1 n (k + 1) _ (by omega) (winv_dry h hlt (by omega))
    · rw [splitGo_wet hd]
      exact whole_go ds dry hd1 n (k + 1) _ (by omega) (winv_step h hd1 hlt (by omega))
theorem whole_law (ds : List Int) (dry : Int) (hd1 : 1 ≤ dry) : WInv ds dry ds.length (splitGo dry ds 0 []) := by
  have h := whole_go ds dry hd1 ds.length 0 [] (by omega) ⟨by simp, by simp, fun j hj => absurd hj (Nat.not_lt_zero _), fun o E h => by simp at h, by simp [totSum, sumTo, sumS]⟩
  exact h

/-- How many events have step j. -/
def covN (l : List Ev) (j : Nat) : Nat := (l.filter fun e => decide (e.From ≤ (j : Int)) && decide ((j : Int) < e.To)).length
theorem covN_app (a b : List Ev) (j : Nat) : covN (a ++ b) j = covN a j + covN b j := by
  unfold covN; rw [List.filter_append, List.length_append]
theorem covN_le {dry : Int} (hd1 : 1 ≤ dry) : ∀ {l : List Ev}, l.Pairwise (fun a b => a.To + dry ≤ b.From) → ∀ j, covN l j ≤ 1
  | [], _, j => by simp [covN]
  | e :: r, hp, j => by
    rw [List.pairwise_cons] at hp
    have ih := covN_le hd1 hp.2 j
    unfold covN at ih ⊢
    rw [List.filter_cons]
    split
    · rename_i hq
      simp only [Bool.and_eq_true, decide_eq_true_eq] at hq
      have : (r.filter fun e => decide (e.From ≤ (j : Int)) && decide ((j : Int) < e.To)) = [] := by
        rw [List.filter_eq_nil_iff]
        intro b hb
        have := hp.1 b hb
        simp only [Bool.and_eq_true, decide_eq_true_eq]
        omega
      rw [this]; simp
    · exact ih
theorem covN_wet {ds : List Int} {dry : Int} (hd1 : 1 ≤ dry) (j : Nat) (hj : j < ds.length) (hw : 0 < ds[j]) : covN (splitGo dry ds 0 []) j = 1 := by
  have h := whole_law ds dry hd1
  have h1 := covN_le hd1 h.pw j
  obtain ⟨e, he, c1, c2⟩ := h.cov j hj (by rw [getD_at hj]; exact hw)
  have : 0 < covN (splitGo dry ds 0 []) j := by
    unfold covN
    exact List.length_pos_of_mem (List.mem_filter.2 ⟨he, by simp [c1, c2]⟩)
  omega
theorem sumTo_all (ds : List Int) : sumTo ds ds.length = sumS ds := by unfold sumTo; rw [List.take_length]

end Go.Proofs.Ytdlaghjijfgncaa
