/- The plain law of EventsDry: dry runs and wet steps are the record. No function of the program is walked here. Conditions: none. -/
import Derived.Test.YtdlaghjijfgncaaEvp
import Derived.Test.YtdlaghjijfgncaaEvt
namespace Go.Proofs.Ytdlaghjijfgncaa
open Go.RowKit
set_option linter.unusedVariables false
set_option linter.unusedSimpArgs false

/-- How many steps spans have. -/
def spanSum : List (Int × Int) → Int
  | [] => 0
  | p :: r => (p.2 - p.1 + 1) + spanSum r
/-- How many steps events have. -/
def lenSum : List Ev → Int
  | [] => 0
  | e :: r => (e.To - e.From) + lenSum r
theorem spanSum_app (a b : List (Int × Int)) : spanSum (a ++ b) = spanSum a + spanSum b := by
  induction a with
  | nil => simp [spanSum]
  | cons x r ih => simp only [List.cons_append, spanSum, ih]; omega
theorem lenSum_app (a b : List Ev) : lenSum (a ++ b) = lenSum a + lenSum b := by
  induction a with
  | nil => simp [lenSum]
  | cons x r ih => simp only [List.cons_append, lenSum, ih]; omega
theorem spanSum_step {l : List (Int × Int)} {k : Nat} (h : k < l.length) : spanSum (l.take (k + 1)) = spanSum (l.take k) + (l[k].2 - l[k].1 + 1) := by
  rw [List.take_succ_eq_append_getElem h, spanSum_app]; simp [spanSum]
theorem lenSum_step {l : List Ev} {k : Nat} (h : k < l.length) : lenSum (l.take (k + 1)) = lenSum (l.take k) + (l[k].To - l[k].From) := by
  rw [List.take_succ_eq_append_getElem h, lenSum_app]; simp [lenSum]
theorem set_last {α : Type} {l : List α} {n : Nat} (hn : l.length = n + 1) (y : α) : l.set n y = l.take n ++ [y] := by
  rw [List.set_eq_take_append_cons_drop, if_pos (by omega), List.drop_eq_nil_of_le (by omega)]
theorem take_last {α : Type} {l : List α} {n : Nat} (hn : l.length = n + 1) : l = l.take n ++ [l[n]'(by omega)] := by
  have h := List.take_succ_eq_append_getElem (l := l) (i := n) (by omega)
  rw [List.take_of_length_le (by omega)] at h
  exact h

structure DInv (ds : List Int) (k : Nat) (out : List (Int × Int)) : Prop where
  sum : spanSum out + (overN 0 (ds.take k) : Int) = k
  each : ∀ p ∈ out, 0 ≤ p.1 ∧ p.1 ≤ p.2 ∧ p.2 < k ∧ ∀ j (_ : j < ds.length), p.1 ≤ (j : Int) → (j : Int) ≤ p.2 → ds[j] ≤ 0
  gap : ∀ i (h : i + 1 < out.length), (out[i]'(by omega)).2 + 2 ≤ out[i + 1].1

theorem dinv_step {ds : List Int} {k : Nat} {out : List (Int × Int)} (h : DInv ds k out) (hk : k < ds.length) : DInv ds (k + 1) (if 0 < ds[k] then out else addDry k out) := by
  have hs := overN_step (depth := 0) hk
  by_cases hd : 0 < ds[k]
  · rw [if_pos hd] at hs ⊢
    refine ⟨by have := h.sum; omega, fun p hp => ?_, h.gap⟩
    obtain ⟨a, b, c, d⟩ := h.each p hp
    exact ⟨a, b, by omega, d⟩
  · rw [if_neg hd] at hs ⊢
    by_cases hne : 0 < out.length
    · obtain ⟨n, hn⟩ : ∃ n, out.length = n + 1 := ⟨out.length - 1, by omega⟩
      obtain ⟨E, hE⟩ : ∃ E, out[n]'(by omega) = E := ⟨_, rfl⟩
      have hEm : E ∈ out := by rw [← hE]; exact List.getElem_mem _
      obtain ⟨e1, e2, e3, e4⟩ := h.each E hEm
      have htl := take_last hn
      rw [hE] at htl
      by_cases hq : E.2 = (k : Int) - 1
      · rw [addDry_set hn hE hq]
        refine ⟨?_, fun p hp => ?_, fun i hi => ?_⟩
        · have h1 := h.sum
          rw [htl, spanSum_app] at h1
          rw [set_last hn, spanSum_app]
          simp only [spanSum] at h1 ⊢
          omega
        · rcases List.mem_or_eq_of_mem_set hp with hp | rfl
          · obtain ⟨a, b, c, d⟩ := h.each p hp
            exact ⟨a, b, by omega, d⟩
          · refine ⟨e1, by simp only; omega, by simp only; omega, fun j hj h1 h2 => ?_⟩
            simp only at h1 h2
            by_cases hjk : j = k
            · subst hjk; omega
            · exact e4 j hj h1 (by omega)
        · have hg := h.gap i (by simpa using hi)
          have hi' : i + 1 < out.length := by simpa using hi
          have s1 : (out.set n (E.1, (k : Int)))[i] = out[i] := List.getElem_set_ne (by omega) (by simp; omega)
          by_cases hin : n = i + 1
          · have s2 : (out.set n (E.1, (k : Int)))[i + 1] = (E.1, (k : Int)) := by subst hin; exact List.getElem_set_self _
            have s3 : out[i + 1] = E := by subst hin; exact hE
            rw [s1, s2]
            rw [s3] at hg
            exact hg
          · have s2 : (out.set n (E.1, (k : Int)))[i + 1] = out[i + 1] := List.getElem_set_ne hin (by simp; omega)
            rw [s1, s2]
            exact hg
      · rw [addDry_far hn hE hq]
        refine ⟨?_, fun p hp => ?_, fun i hi => ?_⟩
        · have h1 := h.sum
          rw [spanSum_app]
          simp only [spanSum]
          omega
        · rcases List.mem_append.1 hp with hp | hp
          · obtain ⟨a, b, c, d⟩ := h.each p hp
            exact ⟨a, b, by omega, d⟩
          · simp only [List.mem_singleton] at hp
            subst hp
            refine ⟨by simp only; omega, Int.le_refl _, by simp only; omega, fun j hj h1 h2 => ?_⟩
            simp only at h1 h2
            obtain rfl : j = k := by omega
            omega
        · simp only [List.length_append, List.length_cons, List.length_nil] at hi
          by_cases hin : i + 1 = out.length
          · rw [List.getElem_append_left (by omega)]
            obtain rfl : i = n := by omega
            rw [List.getElem_append_right (by omega)]
            simp only [hn, Nat.sub_self, List.getElem_cons_zero]
            rw [hE]
            omega
          · rw [List.getElem_append_left (by omega), List.getElem_append_left (by omega)]
            exact h.gap i (by omega)
    · obtain rfl : out = [] := List.eq_nil_of_length_eq_zero (by omega)
      rw [addDry_nil]
      refine ⟨?_, fun p hp => ?_, fun i hi => absurd hi (by simp)⟩
      · have h1 := h.sum
        simp only [spanSum] at h1 ⊢
        omega
      · simp only [List.mem_singleton] at hp
        subst hp
        refine ⟨by simp only; omega, Int.le_refl _, by simp only; omega, fun j hj h1 h2 => ?_⟩
        simp only at h1 h2
        obtain rfl : j = k := by omega
        omega

theorem dryGo_inv (ds : List Int) : ∀ (n k : Nat) (out : List (Int × Int)), k + n = ds.length → DInv ds k out → DInv ds ds.length (dryGo (ds.drop k) k out)
  | 0, k, out, hk, h => by
    rw [List.drop_eq_nil_of_le (by omega)]
    simp only [dryGo]
    obtain rfl : k = ds.length := by omega
    exact h
  | n + 1, k, out, hk, h => by
    have hlt : k < ds.length := by omega
    rw [List.drop_eq_getElem_cons hlt]
    have hs := dinv_step h hlt
    by_cases hd : 0 < ds[k]
    · rw [if_pos hd] at hs
      rw [dryGo_wet hd]
      exact dryGo_inv ds n (k + 1) _ (by omega) hs
    · rw [if_neg hd] at hs
      rw [dryGo_dry hd]
      exact dryGo_inv ds n (k + 1) _ (by omega) hs
theorem dry_law (ds : List Int) : DInv ds ds.length (dryGo ds 0 []) := by
  have h := dryGo_inv ds ds.length 0 [] (by omega) ⟨by simp [spanSum, overN], by simp, by simp⟩
  exact h

theorem EvsOk.add {dry : Int} {k : Nat} {d : Int} {out : List Ev} (h : EvsOk k out) (h0 : 0 < d) (hd : d ≤ 4194304) : EvsOk (k + 1) (addEv dry k d out) := by
  have hnew : EvOk (k + 1) ⟨k, k + 1, d, d⟩ := ⟨by show (0 : Int) ≤ k; omega, by show (k : Int) < (k : Int) + 1; omega, by show (k : Int) + 1 ≤ _; omega, by show 1 ≤ d; omega, hd, by show d ≤ d; omega, by show d ≤ _; omega⟩
  by_cases hne : 0 < out.length
  · obtain ⟨n, hn⟩ : ∃ n, out.length = n + 1 := ⟨out.length - 1, by omega⟩
    obtain ⟨E, hE⟩ : ∃ E, out[n]'(by omega) = E := ⟨_, rfl⟩
    have hEm : E ∈ out := by rw [← hE]; exact List.getElem_mem _
    obtain ⟨z1, z2, z3, z4, z5, z6, z7⟩ := h.2 E hEm
    by_cases hq : (k : Int) - E.To < dry
    · rw [addEv_set hn hE hq]
      refine h.set n _ ⟨z1, by show E.From < (k : Int) + 1; omega, by show (k : Int) + 1 ≤ _; omega, ?_, ?_, ?_, by show E.Total + d ≤ _; omega⟩
      all_goals
        simp only
        split <;> omega
    · rw [addEv_far hn hE hq]
      exact h.push _ hnew
  · obtain rfl : out = [] := List.eq_nil_of_length_eq_zero (by omega)
    rw [addEv_nil]
    exact h.push _ hnew
theorem splitGo_okP {dry : Int} : ∀ (r : List Int) (k : Nat) (out : List Ev), (∀ d ∈ r, d ≤ 4194304) → EvsOk k out → EvsOk (k + r.length) (splitGo dry r k out)
  | [], k, out, _, h => h
  | d :: r, k, out, hd, h => by
    have hr : ∀ x ∈ r, x ≤ 4194304 := fun x hx => hd x (List.mem_cons_of_mem _ hx)
    rw [show k + (d :: r).length = k + 1 + r.length from by simp only [List.length_cons]; omega]
    by_cases h0 : d ≤ 0
    · rw [splitGo_dry h0]; exact splitGo_okP r (k + 1) out hr h.succ
    · rw [splitGo_wet h0]; exact splitGo_okP r (k + 1) _ hr (h.add (by omega) (hd d (by simp)))
theorem split_ok {dry : Int} {ds : List Int} (hd : ∀ d ∈ ds, d ≤ 4194304) : EvsOk ds.length (splitGo dry ds 0 []) := by
  have := splitGo_okP (dry := dry) ds 0 [] hd ⟨by simp, by simp⟩
  simpa using this
theorem split_all {dry : Int} {ds : List Int} (hd : ∀ d ∈ ds, d ≤ 4194304) : (splitGo dry ds 0 []).filter (fun x => decide (0 ≤ x.Total)) = splitGo dry ds 0 [] := by
  rw [List.filter_eq_self]
  intro x hx
  have := (split_ok hd).2 x hx
  have h1 := this.p1
  have h2 := this.pt
  simp only [decide_eq_true_eq]
  omega

/-- With one dry step: as many steps as are wet. -/
theorem lenSum_add {k : Nat} {d : Int} {out : List Ev} (h : ∀ e ∈ out, e.To ≤ (k : Int)) : lenSum (addEv 1 k d out) = lenSum out + 1 ∧ ∀ e ∈ addEv 1 k d out, e.To ≤ ((k + 1 : Nat) : Int) := by
  by_cases hne : 0 < out.length
  · obtain ⟨n, hn⟩ : ∃ n, out.length = n + 1 := ⟨out.length - 1, by omega⟩
    obtain ⟨E, hE⟩ : ∃ E, out[n]'(by omega) = E := ⟨_, rfl⟩
    have hEm : E ∈ out := by rw [← hE]; exact List.getElem_mem _
    have htl := take_last hn
    rw [hE] at htl
    have hEk := h E hEm
    by_cases hq : (k : Int) - E.To < 1
    · rw [addEv_set hn hE hq]
      constructor
      · rw [set_last hn, lenSum_app]
        have h1 : lenSum out = lenSum (out.take n) + (E.To - E.From) := by
          have := congrArg lenSum htl
          rw [lenSum_app] at this
          simp only [lenSum] at this
          omega
        simp only [lenSum]
        omega
      · intro e he
        rcases List.mem_or_eq_of_mem_set he with he | rfl
        · have := h e he; omega
        · show (k : Int) + 1 ≤ _; omega
    · rw [addEv_far hn hE hq]
      constructor
      · rw [lenSum_app]; simp only [lenSum]; omega
      · intro e he
        rcases List.mem_append.1 he with he | he
        · have := h e he; omega
        · simp only [List.mem_singleton] at he
          subst he
          show (k : Int) + 1 ≤ _; omega
  · obtain rfl : out = [] := List.eq_nil_of_length_eq_zero (by omega)
    rw [addEv_nil]
    constructor
    · simp only [lenSum]; omega
    · intro e he
      simp only [List.mem_singleton] at he
      subst he
      show (k : Int) + 1 ≤ _; omega
theorem lenSum_go : ∀ (r : List Int) (k : Nat) (out : List Ev), (∀ e ∈ out, e.To ≤ (k : Int)) → lenSum (splitGo 1 r k out) = lenSum out + (overN 0 r : Int)
  | [], k, out, _ => by simp [splitGo, overN]
  | d :: r, k, out, h => by
    by_cases h0 : d ≤ 0
    · rw [splitGo_dry h0, lenSum_go r (k + 1) out (fun e he => by have := h e he; omega)]
      have : overN 0 (d :: r) = overN 0 r := by unfold overN; rw [List.filter_cons, if_neg (by simp; omega)]
      rw [this]
    · obtain ⟨a, b⟩ := lenSum_add (d := d) h
      rw [splitGo_wet h0, lenSum_go r (k + 1) _ b, a]
      have : overN 0 (d :: r) = overN 0 r + 1 := by unfold overN; rw [List.filter_cons, if_pos (by simp; omega)]; simp
      rw [this]
      omega
theorem lenSum_law (ds : List Int) : lenSum (splitGo 1 ds 0 []) = (overN 0 ds : Int) := by
  rw [lenSum_go ds 0 [] (by simp)]
  simp [lenSum]
theorem overN_mono {a b : Int} (h : a ≤ b) (ds : List Int) : overN b ds ≤ overN a ds := by
  unfold overN
  induction ds with
  | nil => simp
  | cons d r ih =>
    rw [List.filter_cons, List.filter_cons]
    by_cases h1 : b < d
    · rw [if_pos (by simpa using h1), if_pos (by simp; omega)]
      simp only [List.length_cons]; omega
    · rw [if_neg (by simpa using h1)]
      split
      · simp only [List.length_cons]; omega
      · exact ih

end Go.Proofs.Ytdlaghjijfgncaa
