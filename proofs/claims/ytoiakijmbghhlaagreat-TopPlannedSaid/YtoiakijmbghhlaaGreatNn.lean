/- Nodes that are right, the program's side. Conditions: the node reads as data. -/
import Derived.Test.YtoiakijmbghhlaaGreatLst
import Derived.Test.YtoiakijmbghhlaaGreatMNam
import Derived.Test.YtoiakijmbghhlaaGreatNix
namespace Go.Proofs.YtoiakijmbghhlaaGreat
open Go.RowKit
set_option linter.unusedVariables false
set_option linter.unusedSimpArgs false

def btwB (n lo hi : Int) : Bool := decide (lo ≤ n) && decide (n ≤ hi)
theorem posB_btw (n : Int) : btwB n (-16777216) 16777216 = posB n := by
  simp [btwB, posB]
theorem between_any (n lo hi : Int) (w : World) : Calls Tryz.prog 191 #[.int .i64 n, .int .i64 lo, .int .i64 hi] w fun e w' => e = .returned (.bool (btwB n lo hi)) ∧ w' = w := by
  by_cases h1 : lo ≤ n <;> by_cases h2 : n ≤ hi
  all_goals
    go_enter Tryz.func191, Tryz.ntmps191
    go_wp2_with fail
    go_ret
    exact ⟨ret_bool (by simp [btwB, h1, h2]), rfl⟩

theorem ent239 : ∀ args w, (callFunc 239 args).run Tryz.prog w = .ok (.enter 239 args) w := by
  intro args w
  simp [go_sem]
theorem level1_any (n : Int) (w : World) : Calls Tryz.prog 239 #[.int .i64 n] w fun e w' => e = .returned (.bool (!lvlB n)) ∧ Below w.heap.size w w' := by
  by_cases h1 : n < -4194304 <;> by_cases h2 : 4194304 < n
  all_goals
    go_enter Tryz.func239, Tryz.ntmps239
    go_wp2_with fail
    go_ret
    exact ⟨ret_bool (by simp [lvlB]; omega), Below.refl _ _⟩

set_option maxHeartbeats 400000 in
theorem level_any (xs : List Int) (v : Value) (w : World) (hv : IsInts w v xs) :
    Calls Tryz.prog 192 #[v] w fun e w' => e = .returned (.bool (xs.all lvlB)) ∧ Below w.heap.size w w' := by
  have he : xs.all lvlB = !(xs.any fun n => !lvlB n) := by simp [List.all_eq_not_any_not]
  rw [he]
  clear he
  cases ht : xs.any fun n => !lvlB n
  all_goals
    go_enter Tryz.func192, Tryz.ntmps192
    go_wp2_with fail
    refine Calls.to (containsInts 239 #[] ent239 (fun n => !lvlB n) xs v w hv (fun W _ x _ => level1_any x W)) ?_
    rintro e w1 rfl hb
    go_wp2_with fail
    go_ret
    exact ⟨rfl, hb⟩

theorem eqKn0 (x y : Int) (w : World) : (binOp .eql 100 (.agg #[.int .i64 x, .int .i64 y]) (.agg #[.int .i64 0, .int .i64 0])).run Tryz.prog w = .ok (.bool (decide (x = 0 ∧ y = 0))) w := by
  simp [go_sem]
  by_cases h1 : x = 0 <;> by_cases h2 : y = 0 <;> simp [h1, h2]

theorem lastK_eq {xs : List Kn} (h : 1 ≤ xs.length) : lastK xs = xs[xs.length - 1]'(by omega) := by
  simp [lastK, List.getD, List.getElem?_eq_getElem (show xs.length - 1 < xs.length by omega)]
theorem shapeB_false {xs : List Kn} {d : Int} (h : tabB xs = false) : shapeB xs d = false := by simp [shapeB, h]
theorem shapeB_is {xs : List Kn} {d : Int} (h : tabB xs = true) (h1 : 1 ≤ xs.length) : shapeB xs d = (decide ((xs[0]'(by omega)).X = 0 ∧ (xs[0]'(by omega)).Y = 0) && decide ((xs[xs.length - 1]'(by omega)).X = d) && decide ((xs[xs.length - 1]'(by omega)).Y ≤ 1125899906842624)) := by
  simp only [shapeB, h, lastK_eq h1, List.getD, List.getElem?_eq_getElem (show 0 < xs.length by omega), Option.getD_some, Bool.true_and]

set_option maxHeartbeats 2000000 in
theorem shaped_any (xs : List Kn) (v : Value) (d : Int) (w : World) (hv : IsKns w v xs) :
    Calls Tryz.prog 193 #[v, .int .i64 d] w fun e w' => e = .returned (.bool (shapeB xs d)) ∧ Below w.heap.size w w' := by
  have hv0 := hv
  obtain ⟨a, cap, rfl, hcap, hbig, hs⟩ := hv
  cases ht : tabB xs
  · have HS := Lib.hid (shapeB_false (d := d) ht)
    have HT := Lib.hid ht
    clear ht
    go_enter Tryz.func193, Tryz.ntmps193
    go_wp2_with fail
    refine Calls.to (tvalid_any xs _ _ hv0) ?_
    rintro e w1 rfl hb
    rw [HT.out]
    go_wp2_with fail
    go_ret
    exact ⟨ret_bool HS.out.symm, hb⟩
  · have h1 := (tabB_len ht).1
    have HS := Lib.hid (shapeB_is (d := d) ht h1)
    have HT := Lib.hid ht
    clear ht
    go_enter Tryz.func193, Tryz.ntmps193
    go_wp2_with fail
    refine Calls.to (tvalid_any xs _ _ hv0) ?_
    rintro e w1 rfl hb
    rw [HT.out]
    have hs1 := hs.mono hb
    obtain ⟨b, off, rfl, c1, c2⟩ := hs1.kn 0 (by omega)
    obtain ⟨d1, d2⟩ := hs1.knAt (xs.length - 1) (by omega)
    rw [Nat.zero_mul, Nat.add_zero] at c1 c2
    have e0 := eqKn0
    clear hs hs1 hv0
    generalize xs[0] = x0 at *
    generalize xs[xs.length - 1] = xl at *
    by_cases q1 : x0.X = 0 ∧ x0.Y = 0
    · have r1 : decide (x0.X = 0 ∧ x0.Y = 0) = true := decide_eq_true q1
      have Q1 := Lib.hid q1
      clear q1
      by_cases q2 : xl.X = d
      · have r2 := beqT q2
        have Q2 := Lib.hid q2
        clear q2
        by_cases q3 : xl.Y ≤ 1125899906842624
        · have r3 : decide (xl.Y ≤ 1125899906842624) = true := decide_eq_true q3
          go_wp2_with fail
          go_ret
          exact ⟨ret_bool (HS.out.trans (by simp [Q1.out, Q2.out, q3])).symm, by repeat' (first | exact Below.refl _ _ | assumption | refine Below.more ?_ ?_ _ | refine Below.alloc ?_ ?_ _ | refine Below.drew ?_ | refine below_drewN ?_ _ | refine Below.setCell ?_ ?_ _ | exact Below.size (by assumption) | (simp [go_sem, size_more]; done) | (simp [go_sem, size_more]; omega))⟩
        · have r3 : decide (xl.Y ≤ 1125899906842624) = false := decide_eq_false q3
          go_wp2_with fail
          go_ret
          exact ⟨ret_bool (HS.out.trans (by simp [Q1.out, Q2.out, q3])).symm, by repeat' (first | exact Below.refl _ _ | assumption | refine Below.more ?_ ?_ _ | refine Below.alloc ?_ ?_ _ | refine Below.drew ?_ | refine below_drewN ?_ _ | refine Below.setCell ?_ ?_ _ | exact Below.size (by assumption) | (simp [go_sem, size_more]; done) | (simp [go_sem, size_more]; omega))⟩
      · have r2 := beqF q2
        have Q2 := Lib.hid q2
        clear q2
        go_wp2_with fail
        go_ret
        exact ⟨ret_bool (HS.out.trans (by simp [Q1.out, Q2.out])).symm, by repeat' (first | exact Below.refl _ _ | assumption | refine Below.more ?_ ?_ _ | refine Below.alloc ?_ ?_ _ | refine Below.drew ?_ | refine below_drewN ?_ _ | refine Below.setCell ?_ ?_ _ | exact Below.size (by assumption) | (simp [go_sem, size_more]; done) | (simp [go_sem, size_more]; omega))⟩
    · have r1 : decide (x0.X = 0 ∧ x0.Y = 0) = false := decide_eq_false q1
      have Q1 := Lib.hid q1
      clear q1
      go_wp2_with fail
      go_ret
      exact ⟨ret_bool (HS.out.trans (by simp [Q1.out])).symm, by repeat' (first | exact Below.refl _ _ | assumption | refine Below.more ?_ ?_ _ | refine Below.alloc ?_ ?_ _ | refine Below.drew ?_ | refine below_drewN ?_ _ | refine Below.setCell ?_ ?_ _ | exact Below.size (by assumption) | (simp [go_sem, size_more]; done) | (simp [go_sem, size_more]; omega))⟩

end Go.Proofs.YtoiakijmbghhlaaGreat
