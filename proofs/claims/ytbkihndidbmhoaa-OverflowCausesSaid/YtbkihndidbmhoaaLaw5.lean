/- Plain laws on the spills, fourth part: what the law of covers needs of Count. No program is named. Conditions: none. -/
import Derived.Test.YtbkihndidbmhoaaLaw4
import Derived.Test.YtbkihndidbmhoaaOv10
import Derived.Test.YtbkihndidbmhoaaOv9
namespace Go.Proofs.Ytbkihndidbmhoaa
open Go.RowKit
set_option linter.unusedVariables false
set_option linter.unusedSimpArgs false

theorem lsumE_map : ∀ l : List Ev, lsumE l = lsum (l.map (·.Total))
  | [] => rfl
  | x :: r => by simp only [lsumE, List.map_cons, lsum_cons, lsumE_map r]

theorem cover_total (d : Int) (l : List Int) (hl : ∀ n ∈ l, 0 ≤ n) : ∀ (xs : List Ev) (p : Nat) (en : Int), cover d l p en xs → ∀ x ∈ xs, 0 ≤ x.Total
  | x :: r, p, en, h, y, hy => by
    obtain ⟨⟨f, t, he⟩, hr⟩ := h
    rcases List.mem_cons.1 hy with rfl | hy
    · rw [he.tot]; exact lsum_nonneg _ (fun v hv => hl v (mem_seg hv))
    · exact cover_total d l hl r _ _ hr y hy

/-- All that the law of covers uses of the spills. -/
theorem covers_all (d : Int) (xs : List Int) (hl : xs.length ≤ 200) (hv : ∀ v ∈ xs, 0 ≤ v ∧ v ≤ 4294967295) (hd : 1 ≤ d) : ∃ (A : List Ev) (S m : Int), spillsM xs d = (A, 0) ∧ cover d xs 0 (-d) A ∧ lsumE A = S ∧ A.length ≤ xs.length ∧
    S ≤ 858993459000 ∧ (∀ x ∈ A, 0 ≤ x.Total) ∧ m ≤ S ∧ ∀ e, CountIs A e → e = .returned (.tuple #[.int .i64 A.length, .int .i64 S, .int .i64 m, .int .i64 0]) := by
  have h1 := spillsM_ok xs d (by omega) hv hd
  have hcov := evGo_cover0 d hd xs (fun n h => (hv n h).1) xs 0 rfl (Nat.zero_le _) (by simp [seg])
  have hsum := evGo_sum d xs 0 none
  have hcnt := evGo_count d xs 0 none
  have hright := cover_right d (by omega) xs hv (by omega) _ 0 (-d) hcov
  have hT := lsum_le xs (fun v h => (hv v h).2)
  generalize evGo d xs 0 none = A at *
  have hpos := cover_total d xs (fun n h => (hv n h).1) A 0 (-d) hcov
  have hS : lsumE A = lsum xs := by
    rw [lsumE_map]; unfold tsum at hsum; rw [hsum]; simp
  have hcnt' : A.length ≤ xs.length := by simpa using hcnt
  obtain ⟨m, m1, m2⟩ := countGo_ok A 0 0 (by omega) (by omega) hpos (by rw [hS]; omega)
  rw [hS, Int.zero_add] at m1 m2
  clear hsum hcnt
  have hrM : rightM A = true := by
    unfold rightM
    rw [if_neg (show ¬ 10000 < A.length by omega)]
    exact hright
  refine ⟨A, lsum xs, m, h1, hcov, hS, hcnt', by omega, hpos, m2, ?_⟩
  intro e he
  unfold CountIs at he
  rw [hrM, m1] at he
  simpa using he

end Go.Proofs.Ytbkihndidbmhoaa
