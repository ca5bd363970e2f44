/- Plain laws on the spills of volumes: the spills written forward, each step in one of them, a longer dry time joins them. No program is named. Conditions: none. -/
import Derived.Test.YtbkihndidbmhoaaLaw1
namespace Go.Proofs.Ytbkihndidbmhoaa
open Go.RowKit
set_option linter.unusedVariables false
set_option linter.unusedSimpArgs false

/-- The spills, the open one in hand. -/
def evGo (d : Int) : List Int → Nat → Option Ev → List Ev
  | [], _, none => []
  | [], _, some e => [e]
  | v :: r, k, none => if v = 0 then evGo d r (k + 1) none else evGo d r (k + 1) (some ⟨k, k + 1, v, v⟩)
  | v :: r, k, some e =>
    if v = 0 then evGo d r (k + 1) (some e)
    else if d ≤ k - e.To then e :: evGo d r (k + 1) (some ⟨k, k + 1, v, v⟩)
    else evGo d r (k + 1) (some ⟨e.From, k + 1, e.Total + v, if e.Peak < v then v else e.Peak⟩)

def lsum (l : List Int) : Int := l.foldr (· + ·) 0
theorem lsum_cons (x : Int) (l : List Int) : lsum (x :: l) = x + lsum l := rfl
theorem lsum_nonneg (l : List Int) (h : ∀ v ∈ l, 0 ≤ v) : 0 ≤ lsum l := by
  induction l with
  | nil => exact Int.le_refl 0
  | cons x r ih => rw [lsum_cons]; have := h x (by simp); have := ih (fun v hv => h v (by simp [hv])); omega
theorem lsum_le (l : List Int) (h : ∀ v ∈ l, v ≤ 4294967295) : lsum l ≤ 4294967295 * l.length := by
  induction l with
  | nil => simp [lsum]
  | cons x r ih => rw [lsum_cons]; have := h x (by simp); have := ih (fun v hv => h v (by simp [hv])); simp only [List.length_cons]; omega

theorem spillsGo_ev (d : Int) : ∀ (xs : List Int) (k : Nat) (pre : List Ev) (e : Ev), (∀ v ∈ xs, 0 ≤ v) → 0 ≤ e.Total → e.Total + lsum xs ≤ 1152921504606846976 → 0 ≤ e.Peak →
    spillsGo d xs k (pre ++ [e]) true (e.To - 1) = pre ++ evGo d xs k (some e)
  | [], _, _, _, _, _, _, _ => rfl
  | v :: r, k, pre, e, hv, h0, hs, hp => by
    have hv0 := hv v (by simp)
    have hv' : ∀ v ∈ r, 0 ≤ v := fun x hx => hv x (by simp [hx])
    have hr := lsum_nonneg r hv'
    rw [lsum_cons] at hs
    by_cases hz : v = 0
    · simp only [spillsGo, evGo, if_pos hz]
      exact spillsGo_ev d r (k + 1) pre e hv' h0 (by omega) hp
    · have e1 : (k : Int) - (e.To - 1) - 1 = k - e.To := by omega
      by_cases hd : d ≤ k - e.To
      · simp only [spillsGo, evGo, if_neg hz, e1, hd, or_true, if_true]
        have e2 : (pre ++ [e] ++ [(⟨k, 0, 0, 0⟩ : Ev)]).length - 1 = (pre ++ [e]).length := by simp
        have e3 : (pre ++ [e] ++ [(⟨k, 0, 0, 0⟩ : Ev)]).getD (pre ++ [e]).length default = ⟨k, 0, 0, 0⟩ := by simp [List.getD]
        rw [e2, e3]
        dsimp only
        rw [List.set_append_right _ _ (Nat.le_refl _), Nat.sub_self, List.set_cons_zero, Int.zero_add, IntWalk.wrap64_in _ (by omega), if_pos (show (0 : Int) < v by omega)]
        have := spillsGo_ev d r (k + 1) (pre ++ [e]) ⟨k, k + 1, v, v⟩ hv' (by omega) (by show v + lsum r ≤ _; omega) (by omega)
        rw [show ((⟨k, k + 1, v, v⟩ : Ev).To - 1) = (k : Int) from by simp] at this
        rw [this]; simp
      · simp only [spillsGo, evGo, if_neg hz, e1, hd, or_false, Bool.true_eq_false, if_false]
        have e2 : (pre ++ [e]).length - 1 = pre.length := by simp
        have e3 : (pre ++ [e]).getD pre.length default = e := by simp [List.getD]
        rw [e2, e3]
        rw [List.set_append_right _ _ (Nat.le_refl _), Nat.sub_self, List.set_cons_zero, IntWalk.wrap64_in _ (by omega)]
        have := spillsGo_ev d r (k + 1) pre ⟨e.From, k + 1, e.Total + v, if e.Peak < v then v else e.Peak⟩ hv' (by show 0 ≤ e.Total + v; omega) (by show e.Total + v + lsum r ≤ _; omega) (by show 0 ≤ (if e.Peak < v then v else e.Peak); split <;> omega)
        rw [show ((⟨e.From, k + 1, e.Total + v, if e.Peak < v then v else e.Peak⟩ : Ev).To - 1) = (k : Int) from by simp] at this
        exact this

theorem spillsGo_ev0 (d : Int) : ∀ (xs : List Int) (k : Nat) (l : Int), (∀ v ∈ xs, 0 ≤ v) → lsum xs ≤ 1152921504606846976 → spillsGo d xs k [] false l = evGo d xs k none
  | [], _, _, _, _ => rfl
  | v :: r, k, l, hv, hs => by
    have hv0 := hv v (by simp)
    have hv' : ∀ v ∈ r, 0 ≤ v := fun x hx => hv x (by simp [hx])
    have hr := lsum_nonneg r hv'
    rw [lsum_cons] at hs
    by_cases hz : v = 0
    · simp only [spillsGo, evGo, if_pos hz]
      exact spillsGo_ev0 d r (k + 1) l hv' (by omega)
    · simp only [spillsGo, evGo, if_neg hz, true_or, if_true]
      have := spillsGo_ev d r (k + 1) [] ⟨k, k + 1, v, v⟩ hv' (by omega) (by show v + lsum r ≤ _; omega) (by omega)
      rw [show ((⟨k, k + 1, v, v⟩ : Ev).To - 1) = (k : Int) from by simp] at this
      simp only [List.nil_append] at this ⊢
      rw [← this]
      simp only [List.length_cons, List.length_nil, Nat.add_sub_cancel, List.getD_cons_zero, List.set_cons_zero, Int.zero_add]
      rw [IntWalk.wrap64_in _ (by omega), if_pos (show (0 : Int) < v by omega)]

/-- x lies within y. -/
def within (x y : Ev) : Prop := y.From ≤ x.From ∧ x.To ≤ y.To ∧ x.Total ≤ y.Total ∧ x.Peak ≤ y.Peak

theorem evGo_head (d : Int) : ∀ (r : List Int) (k : Nat) (f : Ev), (∀ v ∈ r, 0 ≤ v) → f.To ≤ k → ∃ y t, evGo d r k (some f) = y :: t ∧ within f y
  | [], _, f, _, _ => ⟨f, [], rfl, by unfold within; omega⟩
  | v :: r, k, f, hv, hk => by
    have hv0 := hv v (by simp)
    have hv' : ∀ v ∈ r, 0 ≤ v := fun x hx => hv x (by simp [hx])
    by_cases hz : v = 0
    · simp only [evGo, if_pos hz]; exact evGo_head d r (k + 1) f hv' (by omega)
    · by_cases hd : d ≤ k - f.To
      · simp only [evGo, if_neg hz, if_pos hd]; exact ⟨f, _, rfl, by unfold within; omega⟩
      · simp only [evGo, if_neg hz, if_neg hd]
        obtain ⟨y, t, h1, h2⟩ := evGo_head d r (k + 1) ⟨f.From, k + 1, f.Total + v, if f.Peak < v then v else f.Peak⟩ hv' (by simp)
        refine ⟨y, t, h1, ?_⟩
        unfold within at *
        simp only at h2
        obtain ⟨q1, q2, q3, q4⟩ := h2
        refine ⟨q1, by omega, by omega, ?_⟩
        split at q4 <;> omega

/-- A longer dry time joins whole spills. -/
theorem evGo_joins (d m : Int) (hm : 0 ≤ m) : ∀ (r : List Int) (k : Nat) (e f : Ev), (∀ v ∈ r, 0 ≤ v) → e.To = f.To → f.To ≤ k → f.From ≤ k → 0 ≤ f.Total → within e f →
    (evGo (d + m) r k (some f)).length ≤ (evGo d r k (some e)).length ∧ ∀ x ∈ evGo d r k (some e), ∃ y ∈ evGo (d + m) r k (some f), within x y
  | [], _, e, f, _, _, _, _, _, h => ⟨by simp [evGo], fun x hx => ⟨f, by simp [evGo], by simp [evGo] at hx; rw [hx]; exact h⟩⟩
  | v :: r, k, e, f, hv, hT, hk, hF, h0, h => by
    have hv0 := hv v (by simp)
    have hv' : ∀ v ∈ r, 0 ≤ v := fun x hx => hv x (by simp [hx])
    by_cases hz : v = 0
    · simp only [evGo, if_pos hz]; exact evGo_joins d m hm r (k + 1) e f hv' hT (by omega) (by omega) h0 h
    · have hw : within ⟨k, k + 1, v, v⟩ ⟨k, k + 1, v, v⟩ := by unfold within; simp
      by_cases h1 : d + m ≤ k - f.To
      · have h2 : d ≤ k - e.To := by omega
        simp only [evGo, if_neg hz, if_pos h1, if_pos h2]
        obtain ⟨q1, q2⟩ := evGo_joins d m hm r (k + 1) ⟨k, k + 1, v, v⟩ ⟨k, k + 1, v, v⟩ hv' rfl (by simp) (by simp; omega) (by simpa using hv0) hw
        refine ⟨by simp; exact q1, ?_⟩
        intro x hx
        rcases List.mem_cons.1 hx with rfl | hx
        · exact ⟨f, by simp, h⟩
        · obtain ⟨y, hy, hxy⟩ := q2 x hx
          exact ⟨y, by simp [hy], hxy⟩
      · have hf' : within f ⟨f.From, k + 1, f.Total + v, if f.Peak < v then v else f.Peak⟩ := by
          unfold within; simp only; refine ⟨by omega, by omega, by omega, ?_⟩; split <;> omega
        by_cases h2 : d ≤ k - e.To
        · simp only [evGo, if_neg hz, if_neg h1, if_pos h2]
          have hw2 : within ⟨k, k + 1, v, v⟩ ⟨f.From, k + 1, f.Total + v, if f.Peak < v then v else f.Peak⟩ := by
            unfold within; simp only; refine ⟨hF, by omega, by omega, ?_⟩; split <;> omega
          obtain ⟨q1, q2⟩ := evGo_joins d m hm r (k + 1) ⟨k, k + 1, v, v⟩ ⟨f.From, k + 1, f.Total + v, if f.Peak < v then v else f.Peak⟩ hv' rfl (by simp) (by simp; omega) (by simp; omega) hw2
          refine ⟨by simp; omega, ?_⟩
          intro x hx
          rcases List.mem_cons.1 hx with rfl | hx
          · obtain ⟨y, t, hy, hfy⟩ := evGo_head (d + m) r (k + 1) ⟨f.From, k + 1, f.Total + v, if f.Peak < v then v else f.Peak⟩ hv' (by simp)
            refine ⟨y, by rw [hy]; simp, ?_⟩
            unfold within at *
            omega
          · exact q2 x hx
        · simp only [evGo, if_neg hz, if_neg h1, if_neg h2]
          refine evGo_joins d m hm r (k + 1) _ _ hv' rfl (by simp) (by simp; omega) (by simp; omega) ?_
          unfold within at *
          simp only
          refine ⟨by omega, by omega, by omega, ?_⟩
          split <;> split <;> omega

end Go.Proofs.Ytbkihndidbmhoaa
