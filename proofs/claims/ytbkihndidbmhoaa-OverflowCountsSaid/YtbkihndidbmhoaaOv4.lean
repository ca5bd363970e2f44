/- right, many, Count. Conditions: none. -/
import Derived.Test.YtbkihndidbmhoaaOv3
import Derived.Lib.Hide
namespace Go.Proofs.Ytbkihndidbmhoaa
open Go.RowKit
set_option linter.unusedVariables false
set_option linter.unusedSimpArgs false

def manyB (n : Int) : Bool := (decide (200 < n) && decide (n ≤ 10000)) || decide (10010 < n)

set_option maxHeartbeats 400000 in
theorem many_any (n : Int) (w : World) : Calls Try.prog 11 #[.int .i64 n] w fun e w' => e = .returned (.bool (manyB n)) ∧ Below w.heap.size w w' := by
  unfold manyB
  by_cases h1 : 200 < n <;> by_cases h2 : n ≤ 10000 <;> by_cases h3 : 10010 < n <;> first | (exfalso; omega) | skip
  all_goals
    go_enter Try.func11, Try.ntmps11
    go_wp2_with fail
    go_ret
    exact ⟨ret_bool (by simp <;> omega), Below.refl _ _⟩

/-- An event that is not right behind 'last'. -/
def evBad (last : Int) (x : Ev) : Bool :=
  decide (x.From < last) || decide (x.To ≤ x.From) || decide (10000 < x.To) || decide (x.Peak < 1) || decide (1125899906842624 < x.Peak) || decide (x.Total < x.Peak) || decide (1152921504606846976 < x.Total) ||
  decide (x.To - x.From < x.Total / x.Peak) || (decide (x.Total / x.Peak = x.To - x.From) && decide (0 < x.Total % x.Peak))

def rightGo (last : Int) : List Ev → Bool
  | [] => true
  | x :: r => if evBad last x then false else rightGo x.To r

def rightM (xs : List Ev) : Bool := if 10000 < xs.length then false else rightGo 0 xs

set_option maxRecDepth 100000 in
set_option maxHeartbeats 2000000 in
theorem right_any (xs : List Ev) (v : Value) (w : World) (hv : IsEvs w v xs) :
    Calls Try.prog 45 #[v] w fun e w' => e = .returned (.bool (rightM xs)) ∧ Below w.heap.size w w' := by
  obtain ⟨a, cap, rfl, hcap, hbig, hs⟩ := hv
  unfold rightM
  by_cases h0 : 10000 < xs.length
  · rw [if_pos h0]
    go_enter Try.func45, Try.ntmps45
    go_wp2_with fail
    go_ret
    exact ⟨rfl, Below.refl _ _⟩
  · rw [if_neg h0]
    go_enter Try.func45, Try.ntmps45
    go_wp2_with fail
    go_loopw [3, 11] (fun s3 s6 wr => ∃ (k : Nat) (t : Int), k ≤ xs.length ∧ s6 = .int .i64 k ∧ s3 = .int .i64 t ∧ 0 ≤ t ∧ Below w.heap.size w wr ∧ Hid (rightGo 0 xs = rightGo t (xs.drop k))) (fun _ i _ => xs.length - (intOf i).toNat)
    case atStart => exact ⟨0, 0, Nat.zero_le _, rfl, rfl, by omega, Below.refl _ _, rfl⟩
    case round =>
      obtain ⟨k, t, hk, rfl, rfl, ht0, hb, hm⟩ := hrel
      by_cases hlt : k < xs.length
      · obtain ⟨b, off, rfl, c1, c2, c3, c4⟩ := (hs.mono hb).ev k hlt
        have hdrop : Hid (xs.drop k = xs[k] :: xs.drop (k + 1)) := List.drop_eq_getElem_cons hlt
        clear hs
        generalize xs[k] = x at *
        have hfalse : evBad t x = true → rightGo 0 xs = false := by
          intro h; rw [hm.out, hdrop.out]; simp [rightGo, h]
        have HF := Lib.hid hfalse
        clear hfalse
        by_cases q1 : x.From < t
        · go_wp2_with fail
          go_ret
          exact ⟨ret_bool (HF.out (by simp [evBad, q1])).symm, by repeat' (first | exact Below.refl _ _ | assumption | refine Below.more ?_ ?_ _ | refine Below.alloc ?_ ?_ _ | refine Below.drew ?_ | refine below_drewN ?_ _ | refine Below.setCell ?_ ?_ _ | exact Below.size (by assumption) | (simp [go_sem, size_more]; done) | (simp [go_sem, size_more]; omega))⟩
        by_cases q2 : x.To ≤ x.From
        · go_wp2_with fail
          go_ret
          exact ⟨ret_bool (HF.out (by simp [evBad, q2])).symm, by repeat' (first | exact Below.refl _ _ | assumption | refine Below.more ?_ ?_ _ | refine Below.alloc ?_ ?_ _ | refine Below.drew ?_ | refine below_drewN ?_ _ | refine Below.setCell ?_ ?_ _ | exact Below.size (by assumption) | (simp [go_sem, size_more]; done) | (simp [go_sem, size_more]; omega))⟩
        by_cases q3 : 10000 < x.To
        · go_wp2_with fail
          go_ret
          exact ⟨ret_bool (HF.out (by simp [evBad, q3])).symm, by repeat' (first | exact Below.refl _ _ | assumption | refine Below.more ?_ ?_ _ | refine Below.alloc ?_ ?_ _ | refine Below.drew ?_ | refine below_drewN ?_ _ | refine Below.setCell ?_ ?_ _ | exact Below.size (by assumption) | (simp [go_sem, size_more]; done) | (simp [go_sem, size_more]; omega))⟩
        by_cases q4 : x.Peak < 1
        · go_wp2_with fail
          go_ret
          exact ⟨ret_bool (HF.out (by simp [evBad, q4])).symm, by repeat' (first | exact Below.refl _ _ | assumption | refine Below.more ?_ ?_ _ | refine Below.alloc ?_ ?_ _ | refine Below.drew ?_ | refine below_drewN ?_ _ | refine Below.setCell ?_ ?_ _ | exact Below.size (by assumption) | (simp [go_sem, size_more]; done) | (simp [go_sem, size_more]; omega))⟩
        by_cases q5 : 1125899906842624 < x.Peak
        · go_wp2_with fail
          go_ret
          exact ⟨ret_bool (HF.out (by simp [evBad, q5])).symm, by repeat' (first | exact Below.refl _ _ | assumption | refine Below.more ?_ ?_ _ | refine Below.alloc ?_ ?_ _ | refine Below.drew ?_ | refine below_drewN ?_ _ | refine Below.setCell ?_ ?_ _ | exact Below.size (by assumption) | (simp [go_sem, size_more]; done) | (simp [go_sem, size_more]; omega))⟩
        by_cases q6 : x.Total < x.Peak
        · go_wp2_with fail
          go_ret
          exact ⟨ret_bool (HF.out (by simp [evBad, q6])).symm, by repeat' (first | exact Below.refl _ _ | assumption | refine Below.more ?_ ?_ _ | refine Below.alloc ?_ ?_ _ | refine Below.drew ?_ | refine below_drewN ?_ _ | refine Below.setCell ?_ ?_ _ | exact Below.size (by assumption) | (simp [go_sem, size_more]; done) | (simp [go_sem, size_more]; omega))⟩
        by_cases q7 : 1152921504606846976 < x.Total
        · go_wp2_with fail
          go_ret
          exact ⟨ret_bool (HF.out (by simp [evBad, q7])).symm, by repeat' (first | exact Below.refl _ _ | assumption | refine Below.more ?_ ?_ _ | refine Below.alloc ?_ ?_ _ | refine Below.drew ?_ | refine below_drewN ?_ _ | refine Below.setCell ?_ ?_ _ | exact Below.size (by assumption) | (simp [go_sem, size_more]; done) | (simp [go_sem, size_more]; omega))⟩
        have b1 : 0 ≤ x.Total := by omega
        have b2 : 1 ≤ x.Peak := by omega
        have b3 : 0 ≤ x.From := by omega
        have b4 : x.To ≤ 10000 := by omega
        have b5 : x.From < x.To := by omega
        have b6 : x.Total ≤ 1152921504606846976 := by omega
        have b7 : 0 ≤ x.Total / x.Peak := Int.ediv_nonneg (by omega) (by omega)
        have b8 : x.Total / x.Peak ≤ x.Total := Int.ediv_le_self _ (by omega)
        have z0 : (x.Peak == 0) = false := by simp; omega
        by_cases q8 : x.To - x.From < x.Total / x.Peak
        · go_wp2_with fail
          go_quiet (fail)
          go_wp2_with fail
          go_ret
          exact ⟨ret_bool (HF.out (by simp [evBad, q8])).symm, by repeat' (first | exact Below.refl _ _ | assumption | refine Below.more ?_ ?_ _ | refine Below.alloc ?_ ?_ _ | refine Below.drew ?_ | refine below_drewN ?_ _ | refine Below.setCell ?_ ?_ _ | exact Below.size (by assumption) | (simp [go_sem, size_more]; done) | (simp [go_sem, size_more]; omega))⟩
        have q8' : decide (x.To - x.From < x.Total / x.Peak) = false := by simpa using q8
        have Q8 := Lib.hid q8
        clear q8
        have hgood : x.Total / x.Peak ≠ x.To - x.From ∨ ¬ 0 < x.Total % x.Peak → evBad t x = false := by
          intro h
          have q8 := Q8.out
          rcases h with h | h <;> simp [evBad, h] <;> omega
        have HG := Lib.hid hgood
        clear hgood
        by_cases q9 : x.Total / x.Peak = x.To - x.From
        · have q9' : (x.Total / x.Peak == x.To - x.From) = true := by simpa using q9
          have Q9 := Lib.hid q9
          clear q9
          by_cases q10 : 0 < x.Total % x.Peak
          · go_wp2_with fail
            go_quiet (fail)
            go_wp2_with fail
            go_ret
            exact ⟨ret_bool (HF.out (by simp [evBad, Q9.out, q10])).symm, by repeat' (first | exact Below.refl _ _ | assumption | refine Below.more ?_ ?_ _ | refine Below.alloc ?_ ?_ _ | refine Below.drew ?_ | refine below_drewN ?_ _ | refine Below.setCell ?_ ?_ _ | exact Below.size (by assumption) | (simp [go_sem, size_more]; done) | (simp [go_sem, size_more]; omega))⟩
          · go_wp2_with fail
            go_quiet (fail)
            go_wp2_with fail
            go_roundw
            case rel => exact ⟨k + 1, _, by omega, by go_num, rfl, by omega, by repeat' (first | exact Below.refl _ _ | assumption | refine Below.more ?_ ?_ _ | refine Below.alloc ?_ ?_ _ | refine Below.drew ?_ | refine below_drewN ?_ _ | refine Below.setCell ?_ ?_ _ | exact Below.size (by assumption) | (simp [go_sem, size_more]; done) | (simp [go_sem, size_more]; omega)), hm.out.trans (by rw [hdrop.out]; simp [rightGo, HG.out (.inr q10)])⟩
            case measure => simp [intOf]; omega
        · have q9' : (x.Total / x.Peak == x.To - x.From) = false := by simpa using q9
          have Q9 := Lib.hid q9
          clear q9
          go_wp2_with fail
          go_quiet (fail)
          go_wp2_with fail
          go_roundw
          case rel => exact ⟨k + 1, _, by omega, by go_num, rfl, by omega, by repeat' (first | exact Below.refl _ _ | assumption | refine Below.more ?_ ?_ _ | refine Below.alloc ?_ ?_ _ | refine Below.drew ?_ | refine below_drewN ?_ _ | refine Below.setCell ?_ ?_ _ | exact Below.size (by assumption) | (simp [go_sem, size_more]; done) | (simp [go_sem, size_more]; omega)), hm.out.trans (by rw [hdrop.out]; simp [rightGo, HG.out (.inl Q9.out)])⟩
          case measure => simp [intOf]; omega
      · go_wp2_with fail
        go_ret
        refine ⟨ret_bool ?_, hb⟩
        rw [hm.out, List.drop_eq_nil_of_le (by omega)]; rfl

end Go.Proofs.Ytbkihndidbmhoaa
