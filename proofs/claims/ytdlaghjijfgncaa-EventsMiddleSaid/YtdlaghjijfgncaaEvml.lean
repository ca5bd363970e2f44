/- The plain law of EventsMiddle: quantiles do not descend, lie among the totals, are reached by as many events as they should; the longest event. No function of the program is walked here. Conditions: the numbers in range, the list not empty. -/
import Derived.Test.YtdlaghjijfgncaaEvqr
import Derived.Test.YtdlaghjijfgncaaEvn
namespace Go.Proofs.Ytdlaghjijfgncaa
open Go.RowKit
set_option linter.unusedVariables false
set_option linter.unusedSimpArgs false

def qJ (num den : Int) (n : Nat) : Nat := (max (qK num den n) 1 - 1).toNat
def qV (l : List Ev) (num den : Int) : Int := (sortedT l).getD (qJ num den l.length) 0

theorem qJ_lt {num den : Int} {n : Nat} (h1 : 1 ≤ den) (h2 : 0 ≤ num) (h3 : num ≤ den) (h0 : 0 < n) : qJ num den n < n := by
  have := qK_bd (n := n) h1 h2 h3
  unfold qJ
  omega
theorem qK_mono {a b den : Int} {n : Nat} (h1 : 1 ≤ den) (hab : a ≤ b) : qK a den n ≤ qK b den n := by
  unfold qK
  have h := Int.mul_le_mul_of_nonneg_right hab (show (0 : Int) ≤ n by omega)
  exact Int.ediv_le_ediv (by omega) (by omega)
theorem qV_at {l : List Ev} {num den : Int} (h1 : 1 ≤ den) (h2 : 0 ≤ num) (h3 : num ≤ den) (h0 : 0 < l.length) :
    qV l num den = (sortedT l)[qJ num den l.length]'(by rw [sortedT_len]; exact qJ_lt h1 h2 h3 h0) := by
  have hl : qJ num den l.length < (sortedT l).length := by rw [sortedT_len]; exact qJ_lt h1 h2 h3 h0
  simp only [qV, List.getD, List.getElem?_eq_getElem hl, Option.getD_some]
theorem pw_le {T : List Int} (hp : T.Pairwise (· ≤ ·)) (i j : Nat) (hi : i < T.length) (hj : j < T.length) (h : i ≤ j) : T[i] ≤ T[j] := by
  rcases Nat.lt_or_eq_of_le h with h | rfl
  · exact List.pairwise_iff_getElem.1 hp i j hi hj h
  · exact Int.le_refl _
theorem mid_le {l : List Ev} {a b den : Int} (h1 : 1 ≤ den) (ha : 0 ≤ a) (hab : a ≤ b) (hb : b ≤ den) (h0 : 0 < l.length) : qV l a den ≤ qV l b den := by
  rw [qV_at h1 ha (by omega) h0, qV_at h1 (by omega) hb h0]
  refine pw_le (sortedT_sorted l) _ _ _ _ ?_
  have := qK_mono (n := l.length) h1 hab
  unfold qJ
  omega
/-- Whether one of the first k events has the total t. -/
def amongT (l : List Ev) (t : Int) (k : Nat) : Bool := (l.take k).any fun x => x.Total == t
theorem amongT_step {l : List Ev} {t : Int} {k : Nat} (h : k < l.length) : amongT l t (k + 1) = (amongT l t k || (l[k].Total == t)) := by
  unfold amongT
  rw [List.take_succ_eq_append_getElem h, List.any_append]
  simp
theorem mid_among {l : List Ev} {num den : Int} (h1 : 1 ≤ den) (h2 : 0 ≤ num) (h3 : num ≤ den) (h0 : 0 < l.length) : amongT l (qV l num den) l.length = true := by
  rw [qV_at h1 h2 h3 h0]
  have hl : qJ num den l.length < (sortedT l).length := by rw [sortedT_len]; exact qJ_lt h1 h2 h3 h0
  have hm : (sortedT l)[qJ num den l.length] ∈ totalsM l := (List.mergeSort_perm (totalsM l) _).mem_iff.1 (List.getElem_mem hl)
  unfold amongT
  rw [List.take_length, List.any_eq_true]
  simp only [totalsM, List.mem_map] at hm
  obtain ⟨x, hx, e⟩ := hm
  exact ⟨x, hx, by simp [e, totalsM]⟩
theorem mid_enough {l : List Ev} {num den : Int} (h1 : 1 ≤ den) (h2 : 0 ≤ num) (h3 : num ≤ den) (h0 : 0 < l.length) : num * l.length ≤ (cntLe l (qV l num den) l.length : Int) * den := by
  have hl : qJ num den l.length < (sortedT l).length := by rw [sortedT_len]; exact qJ_lt h1 h2 h3 h0
  rw [qV_at h1 h2 h3 h0]
  have hc := (cnt_sorted (sortedT_sorted l) (sortedT l)[qJ num den l.length] _ hl).1 (Int.le_refl _)
  rw [← cnt_perm] at hc
  have hK2 : num * l.length + den - 1 < (qK num den l.length + 1) * den := by
    unfold qK
    exact Int.lt_ediv_add_one_mul_self _ (by omega)
  rw [Int.add_mul, Int.one_mul] at hK2
  have hle : qK num den l.length ≤ (cntLe l ((sortedT l)[qJ num den l.length]) l.length : Int) := by
    have : (qK num den l.length) ≤ (qJ num den l.length : Int) + 1 := by unfold qJ; omega
    omega
  have hmul := Int.mul_le_mul_of_nonneg_right hle (show 0 ≤ den by omega)
  omega
theorem mid_less {l : List Ev} {num den : Int} (h1 : 1 ≤ den) (h2 : 0 ≤ num) (h3 : num ≤ den) (h0 : 0 < l.length) (hp : 0 < cntLe l (qV l num den - 1) l.length) : (cntLe l (qV l num den - 1) l.length : Int) * den < num * l.length := by
  have hl : qJ num den l.length < (sortedT l).length := by rw [sortedT_len]; exact qJ_lt h1 h2 h3 h0
  rw [qV_at h1 h2 h3 h0] at hp ⊢
  have hc := (cnt_sorted (sortedT_sorted l) ((sortedT l)[qJ num den l.length] - 1) _ hl).2 (by omega)
  rw [← cnt_perm] at hc
  have hK1 : qK num den l.length * den ≤ num * l.length + den - 1 := by
    unfold qK
    exact Int.ediv_mul_le _ (by omega)
  have hle : (cntLe l ((sortedT l)[qJ num den l.length] - 1) l.length : Int) ≤ qK num den l.length - 1 := by
    have : (qJ num den l.length : Int) ≤ max (qK num den l.length) 1 - 1 := by unfold qJ; omega
    omega
  have hmul := Int.mul_le_mul_of_nonneg_right hle (show 0 ≤ den by omega)
  rw [Int.sub_mul, Int.one_mul] at hmul
  omega

theorem longTo_le (l : List Ev) : ∀ k, longTo l k ≤ k
  | 0 => Nat.le_refl _
  | k + 1 => by
    simp only [longTo]
    split
    · omega
    · have := longTo_le l k; omega
/-- The first longest. -/
theorem longTo_law (l : List Ev) : ∀ k i, i < k → spanOf l i ≤ spanOf l (longTo l k) ∧ (spanOf l i = spanOf l (longTo l k) → longTo l k ≤ i)
  | 0, i, h => absurd h (Nat.not_lt_zero _)
  | k + 1, i, h => by
    have hk := longTo_le l k
    simp only [longTo]
    by_cases hik : i = k
    · subst hik
      split
      · exact ⟨Int.le_refl _, fun _ => Nat.le_refl _⟩
      · exact ⟨by omega, fun _ => hk⟩
    · have ih := longTo_law l k i (by omega)
      split
      · exact ⟨by omega, fun e => by omega⟩
      · exact ih

end Go.Proofs.Ytdlaghjijfgncaa
