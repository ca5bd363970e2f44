/- clock.Split. Conditions: none. -/
import Derived.Test.YtbkihndidbmhoaaClm
namespace Go.Proofs.Ytbkihndidbmhoaa
open Go.RowKit
set_option linter.unusedVariables false
set_option linter.unusedSimpArgs false

theorem instant_any (t : Int) (w : World) : Calls Try.prog 52 #[.int .i64 t] w fun e w' => e = .returned (.bool (decide (-68719476736 ≤ t) && decide (t ≤ 68719476736))) ∧ w' = w := by
  by_cases h : -68719476736 ≤ t
  all_goals
    go_enter Try.func52, Try.ntmps52
    go_wp2_with fail
    go_ret
    exact ⟨ret_bool (by simp <;> omega), rfl⟩

theorem floor_any (a : Int) (w : World) (h1 : -1000000000000 ≤ a) (h2 : a ≤ 1000000000000) : Calls Try.prog 53 #[.int .i64 a, .int .i64 86400] w fun e w' => e = .returned (.int .i64 (a / 86400)) ∧ w' = w := by
  by_cases h0 : 0 ≤ a
  · go_enter Try.func53, Try.ntmps53
    go_wp2_with fail
    go_ret
    exact ⟨rfl, rfl⟩
  · obtain ⟨b, rfl⟩ : ∃ b : Int, a = -b := ⟨-a, by omega⟩
    have hb0 : 0 ≤ b := by omega
    have e1 : (-b).tdiv 86400 = -(b / 86400) := by rw [Int.neg_tdiv, Int.tdiv_eq_ediv_of_nonneg hb0]
    have e2 : (-b).tmod 86400 = -(b % 86400) := by rw [Int.neg_tmod, Int.tmod_eq_emod_of_nonneg hb0]
    obtain ⟨q, hq⟩ : ∃ q, b / 86400 = q := ⟨_, rfl⟩
    obtain ⟨r, hr⟩ : ∃ r, b % 86400 = r := ⟨_, rfl⟩
    have q1 : 0 ≤ q := by omega
    have q2 : q ≤ 1000000000000 := by omega
    have r1 : 0 ≤ r := by omega
    rw [hq] at e1
    rw [hr] at e2
    by_cases h3 : 0 < r
    · have hres : -b / 86400 = -q - 1 := by omega
      have HRES := Lib.hid hres; have HQ := Lib.hid hq; have HR := Lib.hid hr
      clear hres hq hr
      rw [HRES.out]
      go_enter Try.func53, Try.ntmps53
      go_wp2_with fail
      go_ret
      exact ⟨rfl, rfl⟩
    · have hres : -b / 86400 = -q := by omega
      have HRES := Lib.hid hres; have HQ := Lib.hid hq; have HR := Lib.hid hr
      clear hres hq hr
      rw [HRES.out]
      go_enter Try.func53, Try.ntmps53
      go_wp2_with fail
      go_ret
      exact ⟨rfl, rfl⟩

/-- What Split hands back. -/
def SplitIs (t : Int) (e : Ending) : Prop := ∃ m d s : Int, e = .returned (.tuple #[.agg #[.int .i64 (splitM t).2, .int .i64 m, .int .i64 d], .int .i64 s, .int .i64 (splitM t).1])

set_option maxRecDepth 100000 in
set_option maxHeartbeats 2000000 in
theorem split_any (t : Int) (w : World) : Calls Try.prog 28 #[.int .i64 t] w fun e w' => SplitIs t e ∧ Below w.heap.size w w' := by
  by_cases hi : t < -68719476736 ∨ 68719476736 < t
  · have hm : splitM t = (2, 0) := by unfold splitM; rw [if_pos hi]
    have HM := Lib.hid hm
    have hd : (decide (-68719476736 ≤ t) && decide (t ≤ 68719476736)) = false := by simp; omega
    have HD := Lib.hid hd
    clear hm hd
    go_enter Try.func28, Try.ntmps28
    go_wp2_with fail
    refine (instant_any t _).mono ?_
    rintro e w1 ⟨rfl, rfl⟩
    rw [HD.out]
    go_wp2_with fail
    refine bodyPost_ret (v := .tuple #[.agg #[.int .i64 0, .int .i64 0, .int .i64 0], .int .i64 0, .int .i64 2]) (by simp [results, Try.results28, go_sem]) rfl ⟨⟨0, 0, 0, ?_⟩, by repeat' (first | exact Below.refl _ _ | assumption | refine Below.more ?_ ?_ _ | refine Below.alloc ?_ ?_ _ | refine Below.drew ?_ | refine below_drewN ?_ _ | refine Below.setCell ?_ ?_ _ | exact Below.size (by assumption) | (simp [go_sem, size_more]; done) | (simp [go_sem, size_more]; omega))⟩
    rw [HM.out]
  · have hd : (decide (-68719476736 ≤ t) && decide (t ≤ 68719476736)) = true := by simp; omega
    have HD := Lib.hid hd
    have n1 : -1000000 ≤ t / 86400 := by omega
    have n2 : t / 86400 ≤ 1000000 := by omega
    have t1 : -1000000000000 ≤ t := by omega
    have t2 : t ≤ 1000000000000 := by omega
    have HI := Lib.hid hi
    obtain ⟨n, hn⟩ : ∃ n, t / 86400 = n := ⟨_, rfl⟩
    rw [hn] at n1 n2
    have p1 : -100000000000 ≤ t - n * 86400 := by omega
    have p2 : t - n * 86400 ≤ 100000000000 := by omega
    have HN := Lib.hid hn
    clear hd hi hn
    by_cases hb : n < bef 1 ∨ bef 10000 ≤ n
    · have hm : splitM t = (20, 0) := by unfold splitM; rw [if_neg HI.out, HN.out, if_pos hb]
      have HM := Lib.hid hm; have HB := Lib.hid hb
      clear hm hb
      go_enter Try.func28, Try.ntmps28
      go_wp2_with fail
      refine (instant_any t _).mono ?_
      rintro e w1 ⟨rfl, rfl⟩
      rw [HD.out]
      go_wp2_with fail
      refine (floor_any t _ t1 t2).mono ?_
      rintro e w1 ⟨rfl, rfl⟩
      rw [HN.out]
      go_wp2_with fail
      refine Calls.to (dateOf_bad n _ HB.out n1 n2) ?_
      rintro e w2 rfl hb2
      have hbb : Below w.heap.size w w2 := by
        refine Below.trans ?_ (hb2.mono (by simp))
        repeat' (first | exact Below.refl _ _ | assumption | refine Below.more ?_ ?_ _ | refine Below.alloc ?_ ?_ _ | refine Below.drew ?_ | refine below_drewN ?_ _ | refine Below.setCell ?_ ?_ _ | exact Below.size (by assumption) | (simp [go_sem, size_more]; done) | (simp [go_sem, size_more]; omega))
      have hz : w.heap.size < w2.heap.size := by have := hb2.size; simp at this; omega
      have c0 : w2.cell? ⟨w.heap.size, 0, none⟩ = some (.int .i64 0) := (hb2.cell (p := ⟨w.heap.size, 0, none⟩) (by simp)).trans (by simp [go_sem])
      have c1 : w2.cell? ⟨w.heap.size, 1, none⟩ = some (.int .i64 0) := (hb2.cell (p := ⟨w.heap.size, 1, none⟩) (by simp)).trans (by simp [go_sem])
      have c2 : w2.cell? ⟨w.heap.size, 2, none⟩ = some (.int .i64 0) := (hb2.cell (p := ⟨w.heap.size, 2, none⟩) (by simp)).trans (by simp [go_sem])
      have f0 : w2.frozen? ⟨w.heap.size, 0, none⟩ = false := (hb2.frozen (p := ⟨w.heap.size, 0, none⟩) (by simp)).trans (by simp [go_sem])
      have f1 : w2.frozen? ⟨w.heap.size, 1, none⟩ = false := (hb2.frozen (p := ⟨w.heap.size, 1, none⟩) (by simp)).trans (by simp [go_sem])
      have f2 : w2.frozen? ⟨w.heap.size, 2, none⟩ = false := (hb2.frozen (p := ⟨w.heap.size, 2, none⟩) (by simp)).trans (by simp [go_sem])
      clear hb2
      go_wp2_with fail
      refine bodyPost_ret (v := .tuple #[.agg #[.int .i64 0, .int .i64 0, .int .i64 0], .int .i64 0, .int .i64 20]) (by simp (maxDischargeDepth := 9) [results, Try.results28, go_sem, c0, c1, c2]) rfl ⟨⟨0, 0, 0, ?_⟩, by repeat' (first | exact Below.refl _ _ | assumption | refine Below.more ?_ ?_ _ | refine Below.alloc ?_ ?_ _ | refine Below.drew ?_ | refine below_drewN ?_ _ | refine Below.setCell ?_ ?_ _ | exact Below.size (by assumption) | (simp [go_sem, size_more]; done) | (simp [go_sem, size_more]; omega))⟩
      rw [HM.out]
    · obtain ⟨y, hy⟩ := year_exists n (by omega) (by omega)
      have hm : splitM t = (0, y) := by unfold splitM; rw [if_neg HI.out, HN.out, if_neg hb, yearOf_eq hy]
      have HM := Lib.hid hm; have HY := Lib.hid hy
      clear hm hb hy
      go_enter Try.func28, Try.ntmps28
      go_wp2_with fail
      refine (instant_any t _).mono ?_
      rintro e w1 ⟨rfl, rfl⟩
      rw [HD.out]
      go_wp2_with fail
      refine (floor_any t _ t1 t2).mono ?_
      rintro e w1 ⟨rfl, rfl⟩
      rw [HN.out]
      go_wp2_with fail
      refine Calls.to (dateOf_ok n y _ HY.out) ?_
      rintro e w2 ⟨m, d, rfl⟩ hb2
      have hbb : Below w.heap.size w w2 := by
        refine Below.trans ?_ (hb2.mono (by simp))
        repeat' (first | exact Below.refl _ _ | assumption | refine Below.more ?_ ?_ _ | refine Below.alloc ?_ ?_ _ | refine Below.drew ?_ | refine below_drewN ?_ _ | refine Below.setCell ?_ ?_ _ | exact Below.size (by assumption) | (simp [go_sem, size_more]; done) | (simp [go_sem, size_more]; omega))
      have hz : w.heap.size < w2.heap.size := by have := hb2.size; simp at this; omega
      have c0 : w2.cell? ⟨w.heap.size, 0, none⟩ = some (.int .i64 0) := (hb2.cell (p := ⟨w.heap.size, 0, none⟩) (by simp)).trans (by simp [go_sem])
      have c1 : w2.cell? ⟨w.heap.size, 1, none⟩ = some (.int .i64 0) := (hb2.cell (p := ⟨w.heap.size, 1, none⟩) (by simp)).trans (by simp [go_sem])
      have c2 : w2.cell? ⟨w.heap.size, 2, none⟩ = some (.int .i64 0) := (hb2.cell (p := ⟨w.heap.size, 2, none⟩) (by simp)).trans (by simp [go_sem])
      have f0 : w2.frozen? ⟨w.heap.size, 0, none⟩ = false := (hb2.frozen (p := ⟨w.heap.size, 0, none⟩) (by simp)).trans (by simp [go_sem])
      have f1 : w2.frozen? ⟨w.heap.size, 1, none⟩ = false := (hb2.frozen (p := ⟨w.heap.size, 1, none⟩) (by simp)).trans (by simp [go_sem])
      have f2 : w2.frozen? ⟨w.heap.size, 2, none⟩ = false := (hb2.frozen (p := ⟨w.heap.size, 2, none⟩) (by simp)).trans (by simp [go_sem])
      clear hb2
      go_wp2_with fail
      refine bodyPost_ret (v := .tuple #[.agg #[.int .i64 y, .int .i64 m, .int .i64 d], .int .i64 (t - n * 86400), .int .i64 0]) (by simp (maxDischargeDepth := 9) [results, Try.results28, go_sem, c0, c1, c2]) rfl ⟨⟨m, d, t - n * 86400, ?_⟩, by repeat' (first | exact Below.refl _ _ | assumption | refine Below.more ?_ ?_ _ | refine Below.alloc ?_ ?_ _ | refine Below.drew ?_ | refine below_drewN ?_ _ | refine Below.setCell ?_ ?_ _ | exact Below.size (by assumption) | (simp [go_sem, size_more]; done) | (simp [go_sem, size_more]; omega))⟩
      rw [HM.out]

end Go.Proofs.Ytbkihndidbmhoaa
