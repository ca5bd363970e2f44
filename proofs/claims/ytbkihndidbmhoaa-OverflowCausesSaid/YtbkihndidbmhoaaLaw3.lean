/- Plain laws on the spills, second part: joining from the beginning on; one volume more. No program is named. Conditions: none. -/
import Derived.Test.YtbkihndidbmhoaaLaw2
namespace Go.Proofs.Ytbkihndidbmhoaa
open Go.RowKit
set_option linter.unusedVariables false
set_option linter.unusedSimpArgs false

theorem evGo_joins0 (d m : Int) (hm : 0 ≤ m) : ∀ (r : List Int) (k : Nat), (∀ v ∈ r, 0 ≤ v) →
    (evGo (d + m) r k none).length ≤ (evGo d r k none).length ∧ ∀ x ∈ evGo d r k none, ∃ y ∈ evGo (d + m) r k none, within x y
  | [], _, _ => ⟨by simp [evGo], fun x hx => by simp [evGo] at hx⟩
  | v :: r, k, hv => by
    have hv0 := hv v (by simp)
    have hv' : ∀ v ∈ r, 0 ≤ v := fun x hx => hv x (by simp [hx])
    by_cases hz : v = 0
    · simp only [evGo, if_pos hz]; exact evGo_joins0 d m hm r (k + 1) hv'
    · simp only [evGo, if_neg hz]
      exact evGo_joins d m hm r (k + 1) ⟨k, k + 1, v, v⟩ ⟨k, k + 1, v, v⟩ hv' rfl (by simp) (by simp; omega) (by simpa using hv0) (by unfold within; simp)

theorem evGo_zero (d : Int) : ∀ (r : List Int) (k : Nat) (s : Option Ev), evGo d (r ++ [0]) k s = evGo d r k s
  | [], _, none => by simp [evGo]
  | [], _, some e => by simp [evGo]
  | v :: r, k, none => by
    by_cases hz : v = 0
    · simp only [List.cons_append, evGo, if_pos hz]; exact evGo_zero d r (k + 1) none
    · simp only [List.cons_append, evGo, if_neg hz]; exact evGo_zero d r (k + 1) _
  | v :: r, k, some e => by
    by_cases hz : v = 0
    · simp only [List.cons_append, evGo, if_pos hz]; exact evGo_zero d r (k + 1) _
    · by_cases hd : d ≤ k - e.To
      · simp only [List.cons_append, evGo, if_neg hz, if_pos hd, evGo_zero d r (k + 1) _]
      · simp only [List.cons_append, evGo, if_neg hz, if_neg hd]; exact evGo_zero d r (k + 1) _

theorem evGo_snoc (d n : Int) (hn : n ≠ 0) : ∀ (r : List Int) (k : Nat) (s : Option Ev), ∃ pre last, evGo d (r ++ [n]) k s = pre ++ [last] ∧ last.To = ((k + r.length : Nat) : Int) + 1 ∧ (evGo d r k s = pre ∨ ∃ l, evGo d r k s = pre ++ [l])
  | [], k, none => ⟨[], ⟨k, k + 1, n, n⟩, by simp [evGo, hn], by simp, .inl (by simp [evGo])⟩
  | [], k, some e => by
    by_cases hd : d ≤ k - e.To
    · exact ⟨[e], ⟨k, k + 1, n, n⟩, by simp [evGo, hn, hd], by simp, .inl (by simp [evGo])⟩
    · exact ⟨[], ⟨e.From, k + 1, e.Total + n, if e.Peak < n then n else e.Peak⟩, by simp [evGo, hn, hd], by simp, .inr ⟨e, by simp [evGo]⟩⟩
  | v :: r, k, none => by
    have e1 : ((k + (v :: r).length : Nat) : Int) = ((k + 1 + r.length : Nat) : Int) := by simp; omega
    rw [e1]
    by_cases hz : v = 0
    · simp only [List.cons_append, evGo, if_pos hz]; exact evGo_snoc d n hn r (k + 1) none
    · simp only [List.cons_append, evGo, if_neg hz]; exact evGo_snoc d n hn r (k + 1) _
  | v :: r, k, some e => by
    have e1 : ((k + (v :: r).length : Nat) : Int) = ((k + 1 + r.length : Nat) : Int) := by simp; omega
    rw [e1]
    by_cases hz : v = 0
    · simp only [List.cons_append, evGo, if_pos hz]; exact evGo_snoc d n hn r (k + 1) _
    · by_cases hd : d ≤ k - e.To
      · simp only [List.cons_append, evGo, if_neg hz, if_pos hd]
        obtain ⟨pre, last, h1, h2, h3⟩ := evGo_snoc d n hn r (k + 1) (some ⟨k, k + 1, v, v⟩)
        refine ⟨e :: pre, last, by rw [h1]; rfl, h2, ?_⟩
        rcases h3 with h3 | ⟨l, h3⟩
        · exact .inl (by rw [h3])
        · exact .inr ⟨l, by rw [h3]; rfl⟩
      · simp only [List.cons_append, evGo, if_neg hz, if_neg hd]; exact evGo_snoc d n hn r (k + 1) _

end Go.Proofs.Ytbkihndidbmhoaa
