/- The reference's Split: the same as the program's. Conditions: none. -/
import Derived.Test.YtbkihndidbmhoaaOv21
namespace Go.Proofs.Ytbkihndidbmhoaa
open Go.RowKit
set_option linter.unusedVariables false
set_option linter.unusedSimpArgs false

set_option maxRecDepth 100000 in
set_option maxHeartbeats 2000000 in
theorem r5split_any (t : Int) (w : World) : Calls Try.prog 58 #[.int .i64 t] w fun e w' => SplitIs t e ∧ Below w.heap.size w w' := by
  by_cases hi : t < -68719476736 ∨ 68719476736 < t
  · have hm : splitM t = (2, 0) := by unfold splitM; rw [if_pos hi]
    have HM := Lib.hid hm
    have hd : (decide (-68719476736 ≤ t) && decide (t ≤ 68719476736)) = false := by simp; omega
    have HD := Lib.hid hd
    clear hm hd
    go_enter Try.func58, Try.ntmps58
    go_wp2_with fail
    refine (r5inst_any t _).mono ?_
    rintro e w1 ⟨rfl, rfl⟩
    rw [HD.out]
    go_wp2_with fail
    refine bodyPost_ret (v := .tuple #[.agg #[.int .i64 0, .int .i64 0, .int .i64 0], .int .i64 0, .int .i64 2]) (by simp (maxDischargeDepth := 9) [results, Try.results58, go_sem]) rfl ⟨⟨0, 0, 0, ?_⟩, by repeat' (first | exact Below.refl _ _ | assumption | refine Below.more ?_ ?_ _ | refine Below.alloc ?_ ?_ _ | refine Below.drew ?_ | refine below_drewN ?_ _ | refine Below.setCell ?_ ?_ _ | exact Below.size (by assumption) | (simp [go_sem, size_more]; done) | (simp [go_sem, size_more]; omega))⟩
    rw [HM.out]
  · have hd : (decide (-68719476736 ≤ t) && decide (t ≤ 68719476736)) = true := by simp; omega
    have HD := Lib.hid hd
    have n1 : -1000000 ≤ t / 86400 := by omega
    have n2 : t / 86400 ≤ 1000000 := by omega
    have t1 : -1000000000000 ≤ t := by omega
    have t2 : t ≤ 1000000000000 := by omega
    have HI := Lib.hid hi
    obtain ⟨n, hn⟩ : ∃ n, t / 86400 = n := ⟨_, rfl⟩
    rw [hn] at n1 n2
    have p1 : -100000000000 ≤ t - n * 86400 := by omega
    have p2 : t - n * 86400 ≤ 100000000000 := by omega
    have HN := Lib.hid hn
    clear hd hi hn
    by_cases hb : n < bef 1 ∨ bef 10000 ≤ n
    · have hm : splitM t = (20, 0) := by unfold splitM; rw [if_neg HI.out, HN.out, if_pos hb]
      have HM := Lib.hid hm
      have hq : Hid ((decide (bef 1 ≤ n) && decide (n < bef 10000)) = false) := by show _ = _; rw [Bool.eq_false_iff]; simp; omega
      clear hm hb
      go_enter Try.func58, Try.ntmps58
      go_wp2_with fail
      refine (r5inst_any t _).mono ?_
      rintro e w1 ⟨rfl, rfl⟩
      rw [HD.out]
      go_wp2_with fail
      refine (r5floor_any t _ t1 t2).mono ?_
      rintro e w1 ⟨rfl, rfl⟩
      rw [HN.out]
      go_wp2_with fail
      refine Calls.to (r5dated_any n _) ?_
      rintro e w2 rfl hb2
      rw [hq.out]
      have hbb : Below w.heap.size w w2 := by
        refine Below.trans ?_ (hb2.mono (by simp))
        repeat' (first | exact Below.refl _ _ | assumption | refine Below.more ?_ ?_ _ | refine Below.alloc ?_ ?_ _ | refine Below.drew ?_ | refine below_drewN ?_ _ | refine Below.setCell ?_ ?_ _ | exact Below.size (by assumption) | (simp [go_sem, size_more]; done) | (simp [go_sem, size_more]; omega))
      have hz : w.heap.size < w2.heap.size := by have := hb2.size; simp at this; omega
      have c0 : w2.cell? ⟨w.heap.size, 0, none⟩ = some (.int .i64 0) := (hb2.cell (p := ⟨w.heap.size, 0, none⟩) (by simp)).trans (by simp [go_sem])
      have c1 : w2.cell? ⟨w.heap.size, 1, none⟩ = some (.int .i64 0) := (hb2.cell (p := ⟨w.heap.size, 1, none⟩) (by simp)).trans (by simp [go_sem])
      have c2 : w2.cell? ⟨w.heap.size, 2, none⟩ = some (.int .i64 0) := (hb2.cell (p := ⟨w.heap.size, 2, none⟩) (by simp)).trans (by simp [go_sem])
      have f0 : w2.frozen? ⟨w.heap.size, 0, none⟩ = false := (hb2.frozen (p := ⟨w.heap.size, 0, none⟩) (by simp)).trans (by simp [go_sem])
      have f1 : w2.frozen? ⟨w.heap.size, 1, none⟩ = false := (hb2.frozen (p := ⟨w.heap.size, 1, none⟩) (by simp)).trans (by simp [go_sem])
      have f2 : w2.frozen? ⟨w.heap.size, 2, none⟩ = false := (hb2.frozen (p := ⟨w.heap.size, 2, none⟩) (by simp)).trans (by simp [go_sem])
      clear hb2
      go_wp2_with fail
      refine bodyPost_ret (v := .tuple #[.agg #[.int .i64 0, .int .i64 0, .int .i64 0], .int .i64 0, .int .i64 20]) (by simp (maxDischargeDepth := 9) [results, Try.results58, go_sem, c0, c1, c2]) rfl ⟨⟨0, 0, 0, ?_⟩, by repeat' (first | exact Below.refl _ _ | assumption | refine Below.more ?_ ?_ _ | refine Below.alloc ?_ ?_ _ | refine Below.drew ?_ | refine below_drewN ?_ _ | refine Below.setCell ?_ ?_ _ | exact Below.size (by assumption) | (simp [go_sem, size_more]; done) | (simp [go_sem, size_more]; omega))⟩
      rw [HM.out]
    · obtain ⟨y, hy⟩ := year_exists n (by omega) (by omega)
      have hm : splitM t = (0, y) := by unfold splitM; rw [if_neg HI.out, HN.out, if_neg hb, yearOf_eq hy]
      have hq : Hid ((decide (bef 1 ≤ n) && decide (n < bef 10000)) = true) := by show _ = _; simp; omega
      have HM := Lib.hid hm; have HY := Lib.hid hy
      clear hm hb hy
      go_enter Try.func58, Try.ntmps58
      go_wp2_with fail
      refine (r5inst_any t _).mono ?_
      rintro e w1 ⟨rfl, rfl⟩
      rw [HD.out]
      go_wp2_with fail
      refine (r5floor_any t _ t1 t2).mono ?_
      rintro e w1 ⟨rfl, rfl⟩
      rw [HN.out]
      go_wp2_with fail
      refine Calls.to (r5dated_any n _) ?_
      rintro e w2 rfl hb2
      rw [hq.out]
      have hbb : Below w.heap.size w w2 := by
        refine Below.trans ?_ (hb2.mono (by simp))
        repeat' (first | exact Below.refl _ _ | assumption | refine Below.more ?_ ?_ _ | refine Below.alloc ?_ ?_ _ | refine Below.drew ?_ | refine below_drewN ?_ _ | refine Below.setCell ?_ ?_ _ | exact Below.size (by assumption) | (simp [go_sem, size_more]; done) | (simp [go_sem, size_more]; omega))
      have hz : w.heap.size < w2.heap.size := by have := hb2.size; simp at this; omega
      have c0 : w2.cell? ⟨w.heap.size, 0, none⟩ = some (.int .i64 0) := (hb2.cell (p := ⟨w.heap.size, 0, none⟩) (by simp)).trans (by simp [go_sem])
      have c1 : w2.cell? ⟨w.heap.size, 1, none⟩ = some (.int .i64 0) := (hb2.cell (p := ⟨w.heap.size, 1, none⟩) (by simp)).trans (by simp [go_sem])
      have c2 : w2.cell? ⟨w.heap.size, 2, none⟩ = some (.int .i64 0) := (hb2.cell (p := ⟨w.heap.size, 2, none⟩) (by simp)).trans (by simp [go_sem])
      have f0 : w2.frozen? ⟨w.heap.size, 0, none⟩ = false := (hb2.frozen (p := ⟨w.heap.size, 0, none⟩) (by simp)).trans (by simp [go_sem])
      have f1 : w2.frozen? ⟨w.heap.size, 1, none⟩ = false := (hb2.frozen (p := ⟨w.heap.size, 1, none⟩) (by simp)).trans (by simp [go_sem])
      have f2 : w2.frozen? ⟨w.heap.size, 2, none⟩ = false := (hb2.frozen (p := ⟨w.heap.size, 2, none⟩) (by simp)).trans (by simp [go_sem])
      clear hb2
      go_wp2_with fail
      refine Calls.go hbb (r5dateOf_any n y _ HY.out) ?_
      rintro e w3 ⟨m, d, rfl⟩ hb3' hb3
      have hz3 : w.heap.size < w3.heap.size := by have := hb3'.size; omega
      have c0 := (hb3'.cell (p := ⟨w.heap.size, 0, none⟩) hz).trans c0
      have c1 := (hb3'.cell (p := ⟨w.heap.size, 1, none⟩) hz).trans c1
      have c2 := (hb3'.cell (p := ⟨w.heap.size, 2, none⟩) hz).trans c2
      have f0 := (hb3'.frozen (p := ⟨w.heap.size, 0, none⟩) hz).trans f0
      have f1 := (hb3'.frozen (p := ⟨w.heap.size, 1, none⟩) hz).trans f1
      have f2 := (hb3'.frozen (p := ⟨w.heap.size, 2, none⟩) hz).trans f2
      clear hb3' hz
      go_wp2_with fail
      refine bodyPost_ret (v := .tuple #[.agg #[.int .i64 y, .int .i64 m, .int .i64 d], .int .i64 (t - n * 86400), .int .i64 0]) (by simp (maxDischargeDepth := 9) [results, Try.results58, go_sem, c0, c1, c2]) rfl ⟨⟨m, d, t - n * 86400, ?_⟩, by repeat' (first | exact Below.refl _ _ | assumption | refine Below.more ?_ ?_ _ | refine Below.alloc ?_ ?_ _ | refine Below.drew ?_ | refine below_drewN ?_ _ | refine Below.setCell ?_ ?_ _ | exact Below.size (by assumption) | (simp [go_sem, size_more]; done) | (simp [go_sem, size_more]; omega))⟩
      rw [HM.out]

end Go.Proofs.Ytbkihndidbmhoaa
