/- Levels; whether a pump is on; its starts: the program's side and the reference's. Conditions: the link reads as data. -/
import Derived.Test.YtmpegbebjefkaaaGreatPva
namespace Go.Proofs.YtmpegbebjefkaaaGreat
open Go.RowKit
set_option linter.unusedVariables false
set_option linter.unusedSimpArgs false

def onB (up down : Int) (was : Bool) (n : Int) : Bool := decide (up ≤ n) || (was && decide (down ≤ n))
def levB (n : Int) : Bool := btwB n (-4194304) 4194304

theorem r33level_any (n : Int) (w : World) : Calls Tryz.prog 13 #[.int .i64 n] w fun e w' => e = .returned (.bool (levB n)) ∧ w' = w := by
  by_cases h1 : -4194304 ≤ n <;> by_cases h2 : n ≤ 4194304
  all_goals
    go_enter Tryz.func13, Tryz.ntmps13
    go_wp2_with fail
    go_ret
    exact ⟨ret_bool (by simp [levB, btwB, h1, h2]), rfl⟩

set_option maxHeartbeats 1000000 in
theorem pon_any (l : Lk) (was : Bool) (n : Int) (w : World) : Calls Tryz.prog 22 #[vLk l, .bool was, .int .i64 n] w fun e w' => e = .returned (.bool (onB l.Up l.Down was n)) ∧ Below w.heap.size w w' := by
  cases h1 : decide (l.Up ≤ n)
  · cases was
    · have H : Hid (onB l.Up l.Down false n = false) := by show _ = _; simp [onB, h1]
      rw [H.out]
      go_enter Tryz.func22, Tryz.ntmps22
      go_wp2_with fail
      go_ret
      exact ⟨rfl, by repeat' (first | exact Below.refl _ _ | assumption | refine Below.more ?_ ?_ _ | refine Below.alloc ?_ ?_ _ | refine Below.drew ?_ | refine below_drewN ?_ _ | refine Below.setCell ?_ ?_ _ | exact Below.size (by assumption) | (simp [go_sem, size_more]; done) | (simp [go_sem, size_more]; omega))⟩
    · cases h2 : decide (l.Down ≤ n)
      · have H : Hid (onB l.Up l.Down true n = false) := by show _ = _; simp only [onB, h1, h2]; rfl
        rw [H.out]
        go_enter Tryz.func22, Tryz.ntmps22
        go_wp2_with fail
        go_ret
        exact ⟨rfl, by repeat' (first | exact Below.refl _ _ | assumption | refine Below.more ?_ ?_ _ | refine Below.alloc ?_ ?_ _ | refine Below.drew ?_ | refine below_drewN ?_ _ | refine Below.setCell ?_ ?_ _ | exact Below.size (by assumption) | (simp [go_sem, size_more]; done) | (simp [go_sem, size_more]; omega))⟩
      · have H : Hid (onB l.Up l.Down true n = true) := by show _ = _; simp only [onB, h1, h2]; rfl
        rw [H.out]
        go_enter Tryz.func22, Tryz.ntmps22
        go_wp2_with fail
        go_ret
        exact ⟨rfl, by repeat' (first | exact Below.refl _ _ | assumption | refine Below.more ?_ ?_ _ | refine Below.alloc ?_ ?_ _ | refine Below.drew ?_ | refine below_drewN ?_ _ | refine Below.setCell ?_ ?_ _ | exact Below.size (by assumption) | (simp [go_sem, size_more]; done) | (simp [go_sem, size_more]; omega))⟩
  · have H : Hid (onB l.Up l.Down was n = true) := by show _ = _; simp only [onB, h1]; rfl
    rw [H.out]
    go_enter Tryz.func22, Tryz.ntmps22
    go_wp2_with fail
    go_ret
    exact ⟨rfl, by repeat' (first | exact Below.refl _ _ | assumption | refine Below.more ?_ ?_ _ | refine Below.alloc ?_ ?_ _ | refine Below.drew ?_ | refine below_drewN ?_ _ | refine Below.setCell ?_ ?_ _ | exact Below.size (by assumption) | (simp [go_sem, size_more]; done) | (simp [go_sem, size_more]; omega))⟩
set_option maxHeartbeats 1000000 in
theorem r33on_any (l : Lk) (was : Bool) (n : Int) (w : World) : Calls Tryz.prog 14 #[vLk l, .bool was, .int .i64 n] w fun e w' => e = .returned (.bool (onB l.Up l.Down was n)) ∧ Below w.heap.size w w' := by
  cases h1 : decide (l.Up ≤ n)
  · cases was
    · have H : Hid (onB l.Up l.Down false n = false) := by show _ = _; simp [onB, h1]
      rw [H.out]
      go_enter Tryz.func14, Tryz.ntmps14
      go_wp2_with fail
      go_ret
      exact ⟨rfl, by repeat' (first | exact Below.refl _ _ | assumption | refine Below.more ?_ ?_ _ | refine Below.alloc ?_ ?_ _ | refine Below.drew ?_ | refine below_drewN ?_ _ | refine Below.setCell ?_ ?_ _ | exact Below.size (by assumption) | (simp [go_sem, size_more]; done) | (simp [go_sem, size_more]; omega))⟩
    · cases h2 : decide (l.Down ≤ n)
      · have H : Hid (onB l.Up l.Down true n = false) := by show _ = _; simp only [onB, h1, h2]; rfl
        rw [H.out]
        go_enter Tryz.func14, Tryz.ntmps14
        go_wp2_with fail
        go_ret
        exact ⟨rfl, by repeat' (first | exact Below.refl _ _ | assumption | refine Below.more ?_ ?_ _ | refine Below.alloc ?_ ?_ _ | refine Below.drew ?_ | refine below_drewN ?_ _ | refine Below.setCell ?_ ?_ _ | exact Below.size (by assumption) | (simp [go_sem, size_more]; done) | (simp [go_sem, size_more]; omega))⟩
      · have H : Hid (onB l.Up l.Down true n = true) := by show _ = _; simp only [onB, h1, h2]; rfl
        rw [H.out]
        go_enter Tryz.func14, Tryz.ntmps14
        go_wp2_with fail
        go_ret
        exact ⟨rfl, by repeat' (first | exact Below.refl _ _ | assumption | refine Below.more ?_ ?_ _ | refine Below.alloc ?_ ?_ _ | refine Below.drew ?_ | refine below_drewN ?_ _ | refine Below.setCell ?_ ?_ _ | exact Below.size (by assumption) | (simp [go_sem, size_more]; done) | (simp [go_sem, size_more]; omega))⟩
  · have H : Hid (onB l.Up l.Down was n = true) := by show _ = _; simp only [onB, h1]; rfl
    rw [H.out]
    go_enter Tryz.func14, Tryz.ntmps14
    go_wp2_with fail
    go_ret
    exact ⟨rfl, by repeat' (first | exact Below.refl _ _ | assumption | refine Below.more ?_ ?_ _ | refine Below.alloc ?_ ?_ _ | refine Below.drew ?_ | refine below_drewN ?_ _ | refine Below.setCell ?_ ?_ _ | exact Below.size (by assumption) | (simp [go_sem, size_more]; done) | (simp [go_sem, size_more]; omega))⟩

set_option maxHeartbeats 1000000 in
theorem r33valid_any (l : Lk) (w : World) (hg : gLk w l) : Calls Tryz.prog 8 #[vLk l] w fun e w' => e = .returned (.bool (pumpB l)) ∧ Below w.heap.size w w' := by
  have hb0 : Below w.heap.size w (w.alloc (.cells (eLk l).toArray 25)) := (Below.refl _ _).alloc (Nat.le_refl _) _
  by_cases hk : l.Kind = 4
  · have HP : Hid (pumpB l = lkB l) := by show _ = _; simp [pumpB, hk]
    rw [HP.out]
    have u : (l.Kind == 4) = true := beqT hk
    have hr := r26RightLink_any l _ (rdLk.mono hg hb0)
    obtain ⟨nm, fr, tt, kd, ln, up, dn, sc, wi, he, cu⟩ := l
    simp only at hk
    subst hk
    generalize lkB ⟨nm, fr, tt, 4, ln, up, dn, sc, wi, he, cu⟩ = b at *
    clear hg
    go_enter Tryz.func8, Tryz.ntmps8
    go_wp2_with fail
    refine Calls.go hb0 hr ?_
    rintro e w1 rfl _ hb1
    go_wp2_with fail
    go_ret
    exact ⟨rfl, hb1⟩
  · have HP : Hid (pumpB l = false) := by show _ = _; simp [pumpB, hk]
    rw [HP.out]
    have u : (l.Kind == 4) = false := beqF hk
    have u2 : decide (l.Kind = 4) = false := decide_eq_false hk
    go_enter Tryz.func8, Tryz.ntmps8
    go_wp2_with fail
    go_ret
    exact ⟨rfl, by repeat' (first | exact Below.refl _ _ | assumption | refine Below.more ?_ ?_ _ | refine Below.alloc ?_ ?_ _ | refine Below.drew ?_ | refine below_drewN ?_ _ | refine Below.setCell ?_ ?_ _ | exact Below.size (by assumption) | (simp [go_sem, size_more]; done) | (simp [go_sem, size_more]; omega))⟩

end Go.Proofs.YtmpegbebjefkaaaGreat
