/- The plain law under Spills: what the program computes is what the reference computes. No program is named. Conditions: none. -/
import Derived.Test.YtbkihndidbmhoaaMOv
namespace Go.Proofs.Ytbkihndidbmhoaa
open Go.RowKit
set_option linter.unusedVariables false
set_option linter.unusedSimpArgs false

theorem getD_last {α : Type} (l : List α) (d : α) (h : l ≠ []) : l.getLast? = some (l.getD (l.length - 1) d) := by
  rw [List.getLast?_eq_getElem?]
  have : l.length - 1 < l.length := by have := List.length_pos_iff.2 h; omega
  simp [List.getD, List.getElem?_eq_getElem this]

theorem runs_is_spills (dry : Int) : ∀ (xs : List Int) (k : Nat) (out : List Ev) (op : Bool) (last : Int), k + xs.length ≤ 10000 → (∀ v ∈ xs, 0 ≤ v ∧ v ≤ 1125899906842624) → (op = false ↔ out = []) →
    (∀ x, out.getLast? = some x → x.To = last + 1 ∧ 0 ≤ last ∧ last < k) → runsGo dry xs k out = spillsGo dry xs k out op last
  | [], _, _, _, _, _, _, _, _ => rfl
  | v :: r, k, out, op, last, hk, hv, hop, hl => by
    have hv0 := hv v (by simp)
    have hk' : k + 1 + r.length ≤ 10000 := by simp at hk; omega
    have hv' : ∀ v ∈ r, 0 ≤ v ∧ v ≤ 1125899906842624 := fun x hx => hv x (by simp [hx])
    by_cases h0 : v = 0
    · simp only [runsGo, spillsGo, if_pos h0]
      exact runs_is_spills dry r (k + 1) out op last hk' hv' hop (fun x hx => by have := hl x hx; omega)
    · have hw : wrap64 (0 + v) = v := by rw [Int.zero_add]; exact IntWalk.wrap64_in _ (by omega)
      have hmx : (if (0 : Int) < v then v else 0) = v := by rw [if_pos (by omega)]
      have happ : ∀ out : List Ev, (out ++ [(⟨k, 0, 0, 0⟩ : Ev)]).set ((out ++ [(⟨k, 0, 0, 0⟩ : Ev)]).length - 1) ⟨((out ++ [(⟨k, 0, 0, 0⟩ : Ev)]).getD ((out ++ [(⟨k, 0, 0, 0⟩ : Ev)]).length - 1) default).From, k + 1,
          wrap64 (((out ++ [(⟨k, 0, 0, 0⟩ : Ev)]).getD ((out ++ [(⟨k, 0, 0, 0⟩ : Ev)]).length - 1) default).Total + v),
          if ((out ++ [(⟨k, 0, 0, 0⟩ : Ev)]).getD ((out ++ [(⟨k, 0, 0, 0⟩ : Ev)]).length - 1) default).Peak < v then v else ((out ++ [(⟨k, 0, 0, 0⟩ : Ev)]).getD ((out ++ [(⟨k, 0, 0, 0⟩ : Ev)]).length - 1) default).Peak⟩ = out ++ [⟨k, k + 1, v, v⟩] := by
        intro out
        have e : (out ++ [(⟨k, 0, 0, 0⟩ : Ev)]).length - 1 = out.length := by simp
        have e2 : (out ++ [(⟨k, 0, 0, 0⟩ : Ev)]).getD out.length default = ⟨k, 0, 0, 0⟩ := by simp
        rw [e, e2]
        dsimp only
        rw [hw, hmx, List.set_append_right _ _ (Nat.le_refl _), Nat.sub_self]
        rfl
      have hlast : ∀ (o : List Ev) (f t : Int), ∀ x, (o ++ [(⟨f, k + 1, t, v⟩ : Ev)]).getLast? = some x → x.To = (k : Int) + 1 ∧ 0 ≤ (k : Int) ∧ (k : Int) < ((k + 1 : Nat) : Int) := by
        intro o f t x hx
        simp at hx
        subst hx
        exact ⟨rfl, by omega, by omega⟩
      by_cases hout : out = []
      · have hopf : op = false := hop.2 hout
        simp only [runsGo, spillsGo, if_neg h0, hopf, true_or, if_true, happ]
        rw [if_neg (by rw [hout]; simp)]
        exact runs_is_spills dry r (k + 1) _ true k hk' hv' (by simp) (hlast out k v)
      · have hopt : op = true := by cases op; exact absurd (hop.1 rfl) hout; rfl
        obtain ⟨q1, q2, q3⟩ := hl _ (getD_last out default hout)
        have hw2 : wrap64 ((k : Int) - (out.getD (out.length - 1) default).To) = k - last - 1 := by
          rw [q1, IntWalk.wrap64_in _ (by omega)]; omega
        have hlen := List.length_pos_iff.2 hout
        by_cases hd : dry ≤ k - last - 1
        · simp only [runsGo, spillsGo, if_neg h0, hopt, hd, or_true, if_true, happ]
          rw [if_neg (by rw [hw2]; omega)]
          exact runs_is_spills dry r (k + 1) _ true k hk' hv' (by simp) (hlast out k v)
        · simp only [runsGo, spillsGo, if_neg h0, hopt, hd, or_false, Bool.true_eq_false, if_false]
          rw [if_pos ⟨hlen, by rw [hw2]; omega⟩]
          refine runs_is_spills dry r (k + 1) _ true k hk' hv' (by simp; exact hout) ?_
          intro x hx
          rw [getD_last _ default (by simpa using hout)] at hx
          simp only [List.length_set, Option.some.injEq] at hx
          have e : (out.set (out.length - 1) (⟨(out.getD (out.length - 1) default).From, k + 1, wrap64 ((out.getD (out.length - 1) default).Total + v), if (out.getD (out.length - 1) default).Peak < v then v else (out.getD (out.length - 1) default).Peak⟩ : Ev)).getD (out.length - 1) default = ⟨(out.getD (out.length - 1) default).From, k + 1, wrap64 ((out.getD (out.length - 1) default).Total + v), if (out.getD (out.length - 1) default).Peak < v then v else (out.getD (out.length - 1) default).Peak⟩ := by
            simp only [List.getD]
            rw [List.getElem?_set_self (by omega)]; rfl
          rw [e] at hx
          subst hx
          exact ⟨rfl, by omega, by simp; omega⟩

theorem volBad_ok (v : Int) : volBad v = !volOk v := by
  unfold volBad volOk
  by_cases h1 : v < 0 <;> by_cases h2 : 1125899906842624 < v <;> simp [h1, h2] <;> omega

/-- Spills is as specified. -/
theorem spills_law (xs : List Int) (dry : Int) : spillsM xs dry = rspillsM xs dry := by
  unfold spillsM rspillsM
  by_cases h1 : 10000 < xs.length
  · rw [if_pos h1, if_pos h1]
  · rw [if_neg h1, if_neg h1]
    have e : xs.any volBad = !xs.all volOk := by
      induction xs with
      | nil => rfl
      | cons x r ih => simp only [List.any_cons, List.all_cons, volBad_ok, ih (by simp at h1; omega), Bool.not_and]
    rw [e]
    cases h2 : xs.all volOk
    · simp
    · simp only [Bool.not_true, Bool.false_eq_true, false_or, Bool.true_eq_false, if_false]
      by_cases h3 : dry < 1
      · simp [h3]
      · simp only [h3, if_false]
        by_cases h4 : bigGo 0 xs = true
        · simp [h4]
        · simp only [h4, if_false]
          rw [runs_is_spills dry xs 0 [] false 0 (by omega) ?_ (by simp) (by simp)]
          intro v hv
          have := List.all_eq_true.1 h2 v hv
          unfold volOk at this
          simp at this
          exact this

end Go.Proofs.Ytbkihndidbmhoaa
