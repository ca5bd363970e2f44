/- The closure of OverflowJoins, and Spills at small volumes. Conditions: volumes below 2^32, at most 201 of them. -/
import Derived.Test.YtbkihndidbmhoaaOv8
import Derived.Test.YtbkihndidbmhoaaLaw2
namespace Go.Proofs.Ytbkihndidbmhoaa
open Go.RowKit
set_option linter.unusedVariables false
set_option linter.unusedSimpArgs false

theorem bigGo_sum : ∀ (xs : List Int) (s : Int), (∀ v ∈ xs, 0 ≤ v) → 0 ≤ s → s + lsum xs ≤ 1152921504606846976 → bigGo s xs = false
  | [], _, _, _, _ => rfl
  | v :: r, s, hv, h0, hs => by
    have hv0 := hv v (by simp)
    have hv' : ∀ v ∈ r, 0 ≤ v := fun x hx => hv x (by simp [hx])
    have hr := lsum_nonneg r hv'
    rw [lsum_cons] at hs
    rw [bigGo, IntWalk.wrap64_in _ (by omega), if_neg (by omega)]
    exact bigGo_sum r (s + v) hv' (by omega) (by omega)

theorem spillsM_ok (xs : List Int) (d : Int) (hl : xs.length ≤ 1000) (hv : ∀ v ∈ xs, 0 ≤ v ∧ v ≤ 4294967295) (hd : 1 ≤ d) : spillsM xs d = (evGo d xs 0 none, 0) := by
  have hs := lsum_le xs (fun v h => (hv v h).2)
  have hb : bigGo 0 xs = false := bigGo_sum xs 0 (fun v h => (hv v h).1) (Int.le_refl 0) (by omega)
  have ha : xs.any volBad = false := by
    rw [List.any_eq_false]
    intro v h
    have := hv v h
    unfold volBad
    simp; omega
  unfold spillsM
  rw [if_neg (by omega), ha, hb, if_neg (by simp; omega), if_neg (by simp), spillsGo_ev0 d xs 0 0 (fun v h => (hv v h).1) (by omega)]

theorem IsC.pre {α : Type} {enc : α → List Value} {k : Nat} {w : World} {a : Option Addr} {xs ys : List α} (h : IsC enc k w a (xs ++ ys)) : IsC enc k w a xs := by
  intro i hi
  obtain ⟨b, off, e, hc⟩ := h i (by simp; omega)
  refine ⟨b, off, e, fun j hj => ?_⟩
  rw [hc j hj]
  simp [List.getElem_append_left hi]

def withinB (x y : Ev) : Bool := decide (y.From ≤ x.From) && decide (x.To ≤ y.To) && decide (x.Total ≤ y.Total) && decide (x.Peak ≤ y.Peak)

theorem ent18 : ∀ args w, (callFunc 18 args).run Try.prog w = .ok (.enter 18 args) w := by
  intro args w
  simp [go_sem]

set_option maxHeartbeats 1000000 in
theorem join1_any (x y : Ev) (B : Nat) (w : World) (h0 : w.cell? ⟨B, 0, none⟩ = some (.int .i64 x.From)) (h1 : w.cell? ⟨B, 1, none⟩ = some (.int .i64 x.To)) (h2 : w.cell? ⟨B, 2, none⟩ = some (.int .i64 x.Total)) (h3 : w.cell? ⟨B, 3, none⟩ = some (.int .i64 x.Peak)) :
    Calls Try.prog 18 #[vEv y, .pointer (some ⟨B, 0, none⟩)] w fun e w' => e = .returned (.bool (withinB x y)) ∧ Below w.heap.size w w' := by
  unfold withinB
  obtain ⟨y1, y2, y3, y4⟩ := y
  obtain ⟨x1, x2, x3, x4⟩ := x
  simp only at *
  by_cases q1 : y1 ≤ x1
  · by_cases q2 : x2 ≤ y2
    · by_cases q3 : x3 ≤ y3
      · go_enter Try.func18, Try.ntmps18
        go_wp2_with fail
        go_ret
        exact ⟨ret_bool (by simp [q1, q2, q3]), by repeat' (first | exact Below.refl _ _ | assumption | refine Below.more ?_ ?_ _ | refine Below.alloc ?_ ?_ _ | refine Below.drew ?_ | refine below_drewN ?_ _ | refine Below.setCell ?_ ?_ _ | exact Below.size (by assumption) | (simp [go_sem, size_more]; done) | (simp [go_sem, size_more]; omega))⟩
      · go_enter Try.func18, Try.ntmps18
        go_wp2_with fail
        go_ret
        exact ⟨ret_bool (by simp [q1, q2]; omega), by repeat' (first | exact Below.refl _ _ | assumption | refine Below.more ?_ ?_ _ | refine Below.alloc ?_ ?_ _ | refine Below.drew ?_ | refine below_drewN ?_ _ | refine Below.setCell ?_ ?_ _ | exact Below.size (by assumption) | (simp [go_sem, size_more]; done) | (simp [go_sem, size_more]; omega))⟩
    · go_enter Try.func18, Try.ntmps18
      go_wp2_with fail
      go_ret
      exact ⟨ret_bool (by simp [q1]; omega), by repeat' (first | exact Below.refl _ _ | assumption | refine Below.more ?_ ?_ _ | refine Below.alloc ?_ ?_ _ | refine Below.drew ?_ | refine below_drewN ?_ _ | refine Below.setCell ?_ ?_ _ | exact Below.size (by assumption) | (simp [go_sem, size_more]; done) | (simp [go_sem, size_more]; omega))⟩
  · go_enter Try.func18, Try.ntmps18
    go_wp2_with fail
    go_ret
    exact ⟨ret_bool (by simp; omega), by repeat' (first | exact Below.refl _ _ | assumption | refine Below.more ?_ ?_ _ | refine Below.alloc ?_ ?_ _ | refine Below.drew ?_ | refine below_drewN ?_ _ | refine Below.setCell ?_ ?_ _ | exact Below.size (by assumption) | (simp [go_sem, size_more]; done) | (simp [go_sem, size_more]; omega))⟩

end Go.Proofs.Ytbkihndidbmhoaa
