/- The reference's calendar: DateOf and Dated. Conditions: the numbers' range. -/
import Derived.Test.YtbkihndidbmhoaaOv20
namespace Go.Proofs.Ytbkihndidbmhoaa
open Go.RowKit
set_option linter.unusedVariables false
set_option linter.unusedSimpArgs false

set_option maxRecDepth 100000 in
set_option maxHeartbeats 2000000 in
theorem r5dated_any (n : Int) (w : World) : Calls Try.prog 86 #[.int .i64 n] w fun e w' => e = .returned (.bool (decide (bef 1 ≤ n) && decide (n < bef 10000))) ∧ Below w.heap.size w w' := by
  have v1 : Hid (bef 1 + 1 - 1 + mcum 1 1 = -730119) := by show _ = _; decide
  have v2 : Hid (bef 9999 + 31 - 1 + mcum 9999 12 = 2921939) := by show _ = _; decide
  rw [bef_1, bef_10000]
  by_cases h1 : -730119 ≤ n
  · have d1 : decide (-730119 ≤ n) = true := by simpa using h1
    go_enter Try.func86, Try.ntmps86
    go_wp2_with fail
    refine Calls.to (r5number_any 1 1 1 _ (by omega) (by omega) (by omega) (by omega) (by omega) (by omega)) ?_
    rintro e w1 rfl hb1
    rw [v1.out]
    go_wp2_with fail
    refine Calls.go hb1 (r5number_any 9999 12 31 _ (by omega) (by omega) (by omega) (by omega) (by omega) (by omega)) ?_
    rintro e w2 rfl _ hb2
    rw [v2.out]
    go_wp2_with fail
    go_ret
    exact ⟨ret_bool (by rw [Bool.eq_iff_iff]; simp <;> omega), hb2⟩
  · have d1 : decide (-730119 ≤ n) = false := by simpa using h1
    go_enter Try.func86, Try.ntmps86
    go_wp2_with fail
    refine Calls.to (r5number_any 1 1 1 _ (by omega) (by omega) (by omega) (by omega) (by omega) (by omega)) ?_
    rintro e w1 rfl hb1
    rw [v1.out]
    go_wp2_with fail
    go_ret
    exact ⟨ret_bool (by rw [Bool.eq_iff_iff]; simp <;> omega), hb1⟩

set_option maxRecDepth 100000 in
set_option maxHeartbeats 4000000 in
theorem r5dateOf_any (n y : Int) (w : World) (hy : IsYear n y) :
    Calls Try.prog 87 #[.int .i64 n] w fun e w' => (∃ m d, e = .returned (.agg #[.int .i64 y, .int .i64 m, .int .i64 d])) ∧ Below w.heap.size w w' := by
  have HYY := Lib.hid hy
  obtain ⟨y1, y2, y3, y4⟩ := hy
  have hbb := bef_bound y y1 (by omega)
  have hbb2 := bef_bound (y + 1) (by omega) (by omega)
  have H2 := Lib.hid bef_2000
  have HB1 : Hid (bef 1 ≤ n) := by have := bef_mono y1; show _ ≤ _; omega
  have HB2 : Hid (n < bef 10000) := by have := bef_mono (a := y + 1) (b := 10000) (by omega); show _ < _; omega
  clear y3 y4
  have n1 : -800000 ≤ n := by have := HB1.out; rw [bef_1] at this; omega
  have n2 : n ≤ 3000000 := by have := HB2.out; rw [bef_10000] at this; omega
  go_enter Try.func87, Try.ntmps87
  go_wp2_with fail
  go_loop [3, 4] (fun s3 s4 => ∃ lo hi : Int, 1 ≤ lo ∧ lo ≤ hi ∧ hi ≤ 9999 ∧ s3 = .int .i64 lo ∧ s4 = .int .i64 hi ∧ Hid (bef lo ≤ n) ∧ Hid (n < bef (hi + 1))) (fun a b => (intOf b - intOf a).toNat)
  case atStart => exact ⟨1, 9999, by omega, by omega, by omega, rfl, rfl, HB1.out, HB2.out⟩
  case round =>
    obtain ⟨lo, hi, q1, q2, q3, rfl, rfl, hlo, hhi⟩ := hrel
    by_cases hlt : lo < hi
    · obtain ⟨md, hmd⟩ : ∃ md, (lo + hi + 1) / 2 = md := ⟨_, rfl⟩
      have p1 : lo < md := by omega
      have p2 : md ≤ hi := by omega
      have hm := bef_bound md (by omega) (by omega)
      by_cases hc : bef md ≤ n
      · have d1 : decide (bef md + 730119 - (bef 2000 + 730119) ≤ n) = true := by have := H2.out; simp; omega
        have HC := Lib.hid hc
        clear hc
        go_wp2_with fail
        refine (r5before_any md _ (by omega) (by omega)).mono ?_
        rintro e w1 ⟨rfl, rfl⟩
        go_wp2_with fail
        refine (r5before_any 2000 _ (by omega) (by omega)).mono ?_
        rintro e w1 ⟨rfl, rfl⟩
        rw [H2.out]
        have hcc := HC.out
        go_wp2_with fail
        go_round
        case measure => simp [intOf]; omega
        case rel => exact ⟨md, hi, by omega, by omega, by omega, rfl, rfl, HC.out, hhi.out⟩
      · have HC : Hid (n < bef (md - 1 + 1)) := by show _ < _; rw [show md - 1 + 1 = md by omega]; omega
        clear hc
        go_wp2_with fail
        refine (r5before_any md _ (by omega) (by omega)).mono ?_
        rintro e w1 ⟨rfl, rfl⟩
        go_wp2_with fail
        refine (r5before_any 2000 _ (by omega) (by omega)).mono ?_
        rintro e w1 ⟨rfl, rfl⟩
        rw [H2.out]
        have hcc : n < bef md := by have := HC.out; rw [show md - 1 + 1 = md by omega] at this; exact this
        go_wp2_with fail
        go_round
        case measure => simp [intOf]; omega
        case rel => exact ⟨lo, md - 1, by omega, by omega, by omega, rfl, rfl, hlo.out, HC.out⟩
    · obtain rfl : lo = hi := by omega
      have hyl : y = lo := isYear_unique HYY.out ⟨q1, by omega, hlo.out, hhi.out⟩
      subst hyl
      have hD1 : Hid (n - bef y < 365 + lp y) := by
        have h1 := hhi.out
        rw [bef_succ] at h1
        show _ < _; omega
      have hD0 : 0 ≤ n - bef y := by have := hlo.out; omega
      have hD2 : n - bef y ≤ 365 := by have := hD1.out; have := lp01 y; omega
      go_wp2_with fail
      refine (r5before_any y _ (by omega) (by omega)).mono ?_
      rintro e w1 ⟨rfl, rfl⟩
      go_wp2_with fail
      refine (r5before_any 2000 _ (by omega) (by omega)).mono ?_
      rintro e w1 ⟨rfl, rfl⟩
      rw [H2.out]
      have r0 : (w.alloc (.cells #[.int .i64 0, .int .i64 0, .int .i64 0] 64)).cell? ⟨w.heap.size, 0, none⟩ = some (.int .i64 0) := by simp [go_sem]
      have r1 : (w.alloc (.cells #[.int .i64 0, .int .i64 0, .int .i64 0] 64)).cell? ⟨w.heap.size, 1, none⟩ = some (.int .i64 0) := by simp [go_sem]
      have r2 : (w.alloc (.cells #[.int .i64 0, .int .i64 0, .int .i64 0] 64)).cell? ⟨w.heap.size, 2, none⟩ = some (.int .i64 0) := by simp [go_sem]
      have s0 : (w.alloc (.cells #[.int .i64 0, .int .i64 0, .int .i64 0] 64)).frozen? ⟨w.heap.size, 0, none⟩ = false := by simp [go_sem]
      have s1 : (w.alloc (.cells #[.int .i64 0, .int .i64 0, .int .i64 0] 64)).frozen? ⟨w.heap.size, 1, none⟩ = false := by simp [go_sem]
      have s2 : (w.alloc (.cells #[.int .i64 0, .int .i64 0, .int .i64 0] 64)).frozen? ⟨w.heap.size, 2, none⟩ = false := by simp [go_sem]
      have hz : w.heap.size < (w.alloc (.cells #[.int .i64 0, .int .i64 0, .int .i64 0] 64)).heap.size := by simp
      have hbW : Below w.heap.size w (w.alloc (.cells #[.int .i64 0, .int .i64 0, .int .i64 0] 64)) := by repeat' (first | exact Below.refl _ _ | assumption | refine Below.more ?_ ?_ _ | refine Below.alloc ?_ ?_ _ | refine Below.drew ?_ | refine below_drewN ?_ _ | refine Below.setCell ?_ ?_ _ | exact Below.size (by assumption) | (simp [go_sem, size_more]; done) | (simp [go_sem, size_more]; omega))
      generalize w.alloc (.cells #[.int .i64 0, .int .i64 0, .int .i64 0] 64) = W0 at *
      go_wp2_with fail
      go_loopw [6, 7] (fun s6 s7 wr => ∃ m left : Int, 1 ≤ m ∧ m ≤ 12 ∧ 0 ≤ left ∧ left ≤ 366 ∧ s7 = .int .i64 m ∧ s6 = .int .i64 left ∧ Hid (left + mcum y m = n - bef y) ∧ Below W0.heap.size W0 wr) (fun _ s _ => (12 - intOf s).toNat)
      case atStart => exact ⟨1, _, by omega, by omega, hD0, by omega, rfl, rfl, by show _ = _; rw [mcum_1]; omega, Below.refl _ _⟩
      case round =>
        obtain ⟨m, left, m1, m2, l1, l2, rfl, rfl, hD, hbr⟩ := hrel
        have ml := mlen_bound y m
        by_cases hd : mlen y m ≤ left
        · have hm12 : m < 12 := by
            apply Int.not_le.1; intro h
            obtain rfl : m = 12 := by omega
            have h1 := hD.out
            have h2 := mcum_succ y 12 (by omega) (by omega)
            rw [show (12 : Int) + 1 = 13 from rfl, mcum_13] at h2
            have := hD1.out
            omega
          have hDn : Hid (left - mlen y m + mcum y (m + 1) = n - bef y) := by
            show _ = _
            have h1 := hD.out
            have h2 := mcum_succ y m (by omega) (by omega)
            omega
          go_wp2_with fail
          refine Calls.go hbr (r5days_any y m _ (by omega) m1 m2) ?_
          rintro e w2 rfl _ hb2
          go_wp2_with fail
          refine Calls.go hb2 (r5days_any y m _ (by omega) m1 m2) ?_
          rintro e w3 rfl _ hb3
          go_wp2_with fail
          go_roundw
          case measure => simp [intOf]; omega
          case rel => exact ⟨m + 1, _, by omega, by omega, by omega, by omega, rfl, rfl, hDn.out, hb3⟩
        · go_wp2_with fail
          refine Calls.go hbr (r5days_any y m _ (by omega) m1 m2) ?_
          rintro e w2 rfl _ hb2
          have hbF : Below w.heap.size w w2 := hbW.trans (hb2.mono hbW.size)
          have hz2 : w.heap.size < w2.heap.size := by have := hb2.size; omega
          have c0 := (hb2.cell (p := ⟨w.heap.size, 0, none⟩) hz).trans r0
          have c1 := (hb2.cell (p := ⟨w.heap.size, 1, none⟩) hz).trans r1
          have c2 := (hb2.cell (p := ⟨w.heap.size, 2, none⟩) hz).trans r2
          have f0 := (hb2.frozen (p := ⟨w.heap.size, 0, none⟩) hz).trans s0
          have f1 := (hb2.frozen (p := ⟨w.heap.size, 1, none⟩) hz).trans s1
          have f2 := (hb2.frozen (p := ⟨w.heap.size, 2, none⟩) hz).trans s2
          clear r0 r1 r2 s0 s1 s2
          go_wp2_with fail
          exact bodyPost_ret (v := .agg #[.int .i64 y, .int .i64 m, .int .i64 (left + 1)]) (by simp (maxDischargeDepth := 9) [results, Try.results87, go_sem, c0, c1, c2]) rfl ⟨⟨m, left + 1, rfl⟩, by repeat' (first | exact Below.refl _ _ | assumption | refine Below.more ?_ ?_ _ | refine Below.alloc ?_ ?_ _ | refine Below.drew ?_ | refine below_drewN ?_ _ | refine Below.setCell ?_ ?_ _ | exact Below.size (by assumption) | (simp [go_sem, size_more]; done) | (simp [go_sem, size_more]; omega))⟩

end Go.Proofs.Ytbkihndidbmhoaa
