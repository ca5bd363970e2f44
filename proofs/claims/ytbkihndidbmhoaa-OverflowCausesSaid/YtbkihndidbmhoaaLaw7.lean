/- Plain laws for the ranks: the spills in order, the worst ones unique. No program is named. Conditions: none. -/
import Derived.Test.YtbkihndidbmhoaaLaw5
import Derived.Test.YtbkihndidbmhoaaOv6
import Derived.Test.YtbkihndidbmhoaaYrl
namespace Go.Proofs.Ytbkihndidbmhoaa
open Go.RowKit
set_option linter.unusedVariables false
set_option linter.unusedSimpArgs false

theorem right_mono : ∀ (xs : List Ev) (l : Int), rightGo l xs = true → (∀ x ∈ xs, l ≤ x.From) ∧ xs.Pairwise fun a b => a.From ≤ b.From
  | [], _, _ => ⟨by simp, List.Pairwise.nil⟩
  | x :: r, l, h => by
    simp only [rightGo] at h
    split at h
    · cases h
    · rename_i hb
      have hb' : evBad l x = false := by simpa using hb
      unfold evBad at hb'
      simp only [Bool.or_eq_false_iff, decide_eq_false_iff_not] at hb'
      obtain ⟨⟨⟨⟨⟨⟨⟨⟨e1, e2⟩, e3⟩, _⟩, _⟩, _⟩, _⟩, _⟩, _⟩ := hb'
      obtain ⟨q1, q2⟩ := right_mono r x.To h
      refine ⟨?_, List.pairwise_cons.2 ⟨fun y hy => ?_, q2⟩⟩
      · intro y hy
        rcases List.mem_cons.1 hy with rfl | hy
        · omega
        · have := q1 y hy; omega
      · have := q1 y hy; omega

theorem ranks_all (xs : List Int) (hl : xs.length ≤ 200) (hv : ∀ v ∈ xs, 0 ≤ v ∧ v ≤ 4294967295) (t s : Int) (t1 : -2147483648 ≤ t) (t2 : t ≤ 2147483647) (s1 : 1 ≤ s) (s2 : s ≤ 65536) :
    ∃ (A : List Ev) (out : List (Int × Int)), spillsM xs 1 = (A, 0) ∧ rightM A = true ∧ A.length ≤ 200 ∧ (∀ x ∈ A, 0 ≤ x.From ∧ x.From ≤ 10000) ∧
      yearlyM A t s = (out, 0) ∧ YOK (fun i => (splitM (t + s * (A.getD i default).From)).2) A.length none 0 out ∧ ∀ x ∈ A, (splitM (t + s * x.From)).1 = 0 := by
  obtain ⟨A, S0, m, h1, hcov, hS, hcnt, hSb, hpos, hm, hcount⟩ := covers_all 1 xs hl hv (by omega)
  have hrM : rightM A = true := by
    have hright := cover_right 1 (by omega) xs hv (by omega) _ 0 (-1) hcov
    unfold rightM
    rw [if_neg (show ¬ 10000 < A.length by omega)]
    exact hright
  have hF := right_from' hrM
  have hrG : rightGo 0 A = true := by
    unfold rightM at hrM
    rw [if_neg (show ¬ 10000 < A.length by omega)] at hrM
    exact hrM
  have hP := (right_mono A 0 hrG).2
  have hz : ∀ x ∈ A, (splitM (t + s * x.From)).1 = 0 := by
    intro x hx
    obtain ⟨f1, f2⟩ := hF x hx
    have m0 : 0 ≤ s * x.From := Int.mul_nonneg (by omega) f1
    have m1 : s * x.From ≤ 65536 * 10000 := Int.mul_le_mul s2 f2 f1 (by omega)
    exact split_ok _ (by omega) (by omega)
  obtain ⟨out, ho1, ho2⟩ := yearly_ok (fun F => splitM (t + s * F)) A (by omega) hz (by
    intro i j hij hj
    have hle : (A[i]'(by omega)).From ≤ A[j].From := by
      rcases Nat.lt_or_ge i j with h | h
      · exact List.pairwise_iff_getElem.1 hP i j (by omega) hj h
      · have : i = j := by omega
        subst this; exact Int.le_refl _
    refine split_mono (hz _ (List.getElem_mem _)) (hz _ (List.getElem_mem _)) ?_
    have := Int.mul_le_mul_of_nonneg_left hle (show 0 ≤ s by omega)
    omega)
  refine ⟨A, out, h1, hrM, by omega, hF, ?_, ho2, hz⟩
  unfold yearlyM
  rw [if_neg (by rw [hrM]; simp), if_neg (by omega)]
  exact ho1

/-- The worst ones, from the law of order alone. -/
theorem worst_is {A : List Ev} {S S' : List Int} (h : SortedOf (wR A) (iota A.length) S) (h' : SortedOf (wR A) (iota A.length) S') : S' = S :=
  sorted_unique (wR_asymm A) S' S (h'.1.trans h.1.symm) h'.2 h.2

theorem sorted_mem {A : List Ev} {S : List Int} (h : SortedOf (wR A) (iota A.length) S) : S.length = A.length ∧ ∀ x ∈ S, 0 ≤ x ∧ x < A.length := by
  refine ⟨by rw [h.1.length_eq, iota_len], fun x hx => ?_⟩
  exact (iota_mem A.length x).1 (h.1.mem_iff.1 hx)

theorem sorted_ne {A : List Ev} {S : List Int} (h : SortedOf (wR A) (iota A.length) S) (i j : Nat) (hij : i < j) (hj : j < S.length) : wR A (S[i]'(by omega)) S[j] :=
  List.pairwise_iff_getElem.1 h.2 i j (by omega) hj hij

end Go.Proofs.Ytbkihndidbmhoaa
