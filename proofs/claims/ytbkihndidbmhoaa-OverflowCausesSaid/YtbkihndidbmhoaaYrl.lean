/- Yearly, as a plain function, and its law. No program is named. Conditions: none. -/
import Derived.Test.YtbkihndidbmhoaaMClk
import Derived.Test.YtbkihndidbmhoaaMOv
namespace Go.Proofs.Ytbkihndidbmhoaa
open Go.RowKit
set_option linter.unusedVariables false
set_option linter.unusedSimpArgs false

/-- One event more in year y. -/
def yStep (out : List (Int × Int)) (y : Int) : List (Int × Int) :=
  let o := if out.length = 0 ∨ (out.getD (out.length - 1) (0, 0)).1 ≠ y then out ++ [(y, 0)] else out
  o.set (o.length - 1) ((o.getD (o.length - 1) (0, 0)).1, wrap64 ((o.getD (o.length - 1) (0, 0)).2 + 1))

def yearlyGo (f : Int → Int × Int) : List Ev → List (Int × Int) → List (Int × Int) × Int
  | [], out => (out, 0)
  | x :: r, out => if (f x.From).1 ≠ 0 then ([], (f x.From).1) else yearlyGo f r (yStep out (f x.From).2)

noncomputable def yearlyM (xs : List Ev) (t s : Int) : List (Int × Int) × Int :=
  if rightM xs = false then ([], 1)
  else if t < -68719476736 ∨ 68719476736 < t ∨ s < 1 ∨ 86400 < s then ([], 2)
  else yearlyGo (fun F => splitM (t + s * F)) xs []

theorem right_from : ∀ (xs : List Ev) (l : Int), 0 ≤ l → rightGo l xs = true → ∀ x ∈ xs, 0 ≤ x.From ∧ x.From ≤ 10000
  | x :: r, l, h0, h, y, hy => by
    simp only [rightGo] at h
    split at h
    · cases h
    · rename_i hb
      have hb' : evBad l x = false := by simpa using hb
      unfold evBad at hb'
      simp only [Bool.or_eq_false_iff, decide_eq_false_iff_not] at hb'
      obtain ⟨⟨⟨⟨⟨⟨⟨⟨e1, e2⟩, e3⟩, _⟩, _⟩, _⟩, _⟩, _⟩, _⟩ := hb'
      rcases List.mem_cons.1 hy with rfl | hy
      · omega
      · exact right_from r x.To (by omega) h y hy

theorem right_from' {xs : List Ev} (h : rightM xs = true) : ∀ x ∈ xs, 0 ≤ x.From ∧ x.From ≤ 10000 := by
  unfold rightM at h
  split at h
  · cases h
  · exact right_from xs 0 (Int.le_refl 0) h

/-- What the years' numbers should be: k events from 'next' on are dealt out to years that ascend. -/
def YOK (yr : Nat → Int) (k : Nat) : Option Int → Nat → List (Int × Int) → Prop
  | _, next, [] => next = k
  | prev, next, (y, c) :: r => ∃ n : Nat, c = n ∧ 1 ≤ n ∧ next + n ≤ k ∧ (∀ p, prev = some p → p < y) ∧ (∀ i, next ≤ i → i < next + n → yr i = y) ∧ YOK yr k (some y) (next + n) r

theorem yStep_nil (y : Int) : yStep [] y = [(y, 1)] := by
  have hw1 : wrap64 1 = 1 := IntWalk.wrap64_in _ (by omega)
  simp [yStep, hw1]

theorem yStep_one (z c y : Int) (h0 : 0 ≤ c) (h1 : c ≤ 1000000) : yStep [(z, c)] y = if z = y then [(z, c + 1)] else [(z, c), (y, 1)] := by
  have hw : wrap64 (c + 1) = c + 1 := IntWalk.wrap64_in _ (by omega)
  have hw1 : wrap64 1 = 1 := IntWalk.wrap64_in _ (by omega)
  by_cases h : z = y
  · simp [yStep, h, hw]
  · simp [yStep, h, hw1]

theorem yStep_cons (p q : Int × Int) (r : List (Int × Int)) (y : Int) : yStep (p :: q :: r) y = p :: yStep (q :: r) y := by
  have e : (p :: q :: r).getD ((p :: q :: r).length - 1) (0, 0) = (q :: r).getD ((q :: r).length - 1) (0, 0) := by simp [List.getD]
  simp only [yStep, e]
  by_cases h : ((q :: r).getD ((q :: r).length - 1) (0, 0)).1 = y
  · have c1 : ¬ ((p :: q :: r).length = 0 ∨ ((q :: r).getD ((q :: r).length - 1) (0, 0)).1 ≠ y) := by
      rintro (h' | h')
      · simp at h'
      · exact h' h
    have c2 : ¬ ((q :: r).length = 0 ∨ ((q :: r).getD ((q :: r).length - 1) (0, 0)).1 ≠ y) := by
      rintro (h' | h')
      · simp at h'
      · exact h' h
    rw [if_neg c1, if_neg c2, e]
    simp
  · have c1 : ((p :: q :: r).length = 0 ∨ ((q :: r).getD ((q :: r).length - 1) (0, 0)).1 ≠ y) := .inr h
    have c2 : ((q :: r).length = 0 ∨ ((q :: r).getD ((q :: r).length - 1) (0, 0)).1 ≠ y) := .inr h
    rw [if_pos c1, if_pos c2]
    simp

theorem yok_step (yr : Nat → Int) (k : Nat) (hk : k ≤ 100000) (hm : ∀ i j, i ≤ j → j ≤ k → yr i ≤ yr j) : ∀ (out : List (Int × Int)) (prev : Option Int) (next : Nat), out ≠ [] → YOK yr k prev next out → YOK yr (k + 1) prev next (yStep out (yr k))
  | [], _, _, h, _ => absurd rfl h
  | [(z, c)], prev, next, _, h => by
    obtain ⟨n, rfl, h1, h2, h3, h4, h5⟩ := h
    simp only [YOK] at h5
    rw [yStep_one z n _ (by omega) (by omega)]
    by_cases hz : z = yr k
    · rw [if_pos hz]
      refine ⟨n + 1, by omega, by omega, by omega, h3, ?_, ?_⟩
      · intro i hi1 hi2
        by_cases hik : i = k
        · rw [hik, hz]
        · exact h4 i hi1 (by omega)
      · simp only [YOK]; omega
    · rw [if_neg hz]
      have hzy : z < yr k := by
        have e1 := h4 next (Nat.le_refl _) (by omega)
        have e2 := hm next k (by omega) (Nat.le_refl _)
        omega
      refine ⟨n, rfl, h1, by omega, h3, h4, 1, rfl, Nat.le_refl _, by omega, ?_, ?_, ?_⟩
      · intro p hp
        simp only [Option.some.injEq] at hp
        rw [← hp]; exact hzy
      · intro i hi1 hi2
        rw [show i = k by omega]
      · simp only [YOK]; omega
  | p :: q :: r, prev, next, _, h => by
    rw [yStep_cons]
    obtain ⟨z, c⟩ := p
    obtain ⟨n, rfl, h1, h2, h3, h4, h5⟩ := h
    exact ⟨n, rfl, h1, by omega, h3, h4, yok_step yr k hk hm (q :: r) (some z) (next + n) (by simp) h5⟩

theorem yok_first (yr : Nat → Int) : YOK yr 1 none 0 (yStep [] (yr 0)) := by
  rw [yStep_nil]
  refine ⟨1, rfl, Nat.le_refl _, Nat.le_refl _, by simp, ?_, ?_⟩
  · intro i _ h; rw [show i = 0 by omega]
  · simp [YOK]

/-- All years: the events of the years are all events, each in its year. -/
theorem yearly_ok (f : Int → Int × Int) (xs : List Ev) (hl : xs.length ≤ 100000) (h0 : ∀ x ∈ xs, (f x.From).1 = 0) (hm : ∀ i j (_ : i ≤ j) (hj : j < xs.length), (f (xs[i]'(by omega)).From).2 ≤ (f xs[j].From).2) :
    ∃ out, yearlyGo f xs [] = (out, 0) ∧ YOK (fun i => (f (xs.getD i default).From).2) xs.length none 0 out := by
  have key : ∀ (r : List Ev) (k : Nat) (out : List (Int × Int)), xs.drop k = r → k ≤ xs.length → (k = 0 → out = []) → (0 < k → out ≠ []) → YOK (fun i => (f (xs.getD i default).From).2) k none 0 out →
      ∃ out', yearlyGo f r out = (out', 0) ∧ YOK (fun i => (f (xs.getD i default).From).2) xs.length none 0 out' := by
    intro r
    induction r with
    | nil =>
      intro k out hr hk _ _ hy
      have hkl : xs.length = k := by
        have := congrArg List.length hr
        simp at this; omega
      exact ⟨out, rfl, by rw [hkl]; exact hy⟩
    | cons x r ih =>
      intro k out hr hk hz hnz hy
      have hkl : k < xs.length := by
        apply Nat.lt_of_not_le; intro h'
        rw [List.drop_eq_nil_of_le h'] at hr; cases hr
      rw [List.drop_eq_getElem_cons hkl] at hr
      simp only [List.cons.injEq] at hr
      obtain ⟨hx, hr⟩ := hr
      have hxm : x ∈ xs := by rw [← hx]; exact List.getElem_mem hkl
      have hgk : xs.getD k default = x := by simp [List.getD, List.getElem?_eq_getElem hkl, hx]
      simp only [yearlyGo]
      rw [if_neg (by rw [h0 x hxm]; simp)]
      refine ih (k + 1) _ hr (by omega) (by omega) ?_ ?_
      · intro _ he
        have := congrArg List.length he
        simp only [yStep, List.length_set, List.length_nil] at this
        split at this
        · simp at this
        · rename_i h
          rw [this] at h
          simp at h
      · rcases Nat.eq_zero_or_pos k with h | h
        · subst h
          rw [hz rfl]
          have := yok_first (fun i => (f (xs.getD i default).From).2)
          simp only [hgk] at this
          exact this
        · have := yok_step (fun i => (f (xs.getD i default).From).2) k (by omega) ?_ out none 0 (hnz h) hy
          · simp only [hgk] at this
            exact this
          · intro i j hij hj
            have := hm i j hij (by omega)
            simpa [List.getD, List.getElem?_eq_getElem (show i < xs.length by omega), List.getElem?_eq_getElem (show j < xs.length by omega)] using this
  exact key xs 0 [] rfl (Nat.zero_le _) (fun _ => rfl) (fun h => absurd h (Nat.lt_irrefl _)) (by simp [YOK])

end Go.Proofs.Ytbkihndidbmhoaa
