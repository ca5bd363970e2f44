/- The reference's wide numbers (layer 3): magnitudes of two parts, their sums, differences, products and quotients; floors and ceilings. Conditions: the numbers are not negative and in range. -/
import Derived.Test.YtjgfgbiohbgcaaaGreatWsh
import Derived.BigRegion
import Derived.Deep.QuietTactic
import Derived.BigQuiet
namespace Go.Proofs.YtjgfgbiohbgcaaaGreat
open Go.RowKit
set_option linter.unusedVariables false
set_option linter.unusedSimpArgs false

/-- A magnitude: its two parts. -/
abbrev vU (H L : Nat) : Value := .agg #[.int .u64 (H : Int), .int .u64 (L : Int)]
abbrev vN (H L : Nat) (b : Bool) : Value := .agg #[.int .u64 (H : Int), .int .u64 (L : Int), .bool b]

theorem i64_u64 (n : Nat) (h : n < 9223372036854775808) : IntKind.u64.wrap (n : Int) = (n : Int) := by rw [IntKind.wrap_u64]; omega

theorem r3size_any (n : Nat) (w : World) (h : n < 9223372036854775808) : Calls Tryz.prog 122 #[.int .i64 (n : Int)] w fun e w' => e = .returned (.int .u64 (n : Int)) ∧ w' = w := by
  have u := decide_eq_false (show ¬ (n : Int) < 0 by omega)
  have x := i64_u64 n h
  go_enter Tryz.func122, Tryz.ntmps122
  go_wp2_with fail
  go_ret
  exact ⟨rfl, rfl⟩

set_option maxHeartbeats 1000000 in
theorem r3less_any (a b c d : Nat) (w : World) : Calls Tryz.prog 138 #[vU a b, vU c d] w fun e w' => e = .returned (.bool (decide (a < c) || (decide (a = c) && decide (b < d)))) ∧ Below w.heap.size w w' := by
  have hb0 : Below w.heap.size w ((w.alloc (.cells #[.int .u64 (a : Int), .int .u64 (b : Int)] 114)).alloc (.cells #[.int .u64 (c : Int), .int .u64 (d : Int)] 114)) := ((Below.refl _ _).alloc (Nat.le_refl _) _).alloc (by simp) _
  rcases Nat.lt_trichotomy a c with h | h | h
  · have u := decide_eq_true h
    have u' := decide_eq_true (show (a : Int) < (c : Int) by omega)
    rw [u]
    go_enter Tryz.func138, Tryz.ntmps138
    go_wp2_with fail
    go_ret
    exact ⟨rfl, hb0⟩
  · subst h
    have u := decide_eq_false (Nat.lt_irrefl a)
    have v : ((a : Int) == (a : Int)) = true := by simp
    cases q : decide (b < d)
    · have q' : decide ((b : Int) < (d : Int)) = false := by simp at q ⊢; omega
      go_enter Tryz.func138, Tryz.ntmps138
      go_wp2_with fail
      go_ret
      exact ⟨by simp [u], hb0⟩
    · have q' : decide ((b : Int) < (d : Int)) = true := by simp at q ⊢; omega
      go_enter Tryz.func138, Tryz.ntmps138
      go_wp2_with fail
      go_ret
      exact ⟨by simp, hb0⟩
  · have u := decide_eq_false (show ¬ a < c by omega)
    have u' := decide_eq_false (show ¬ (a : Int) < (c : Int) by omega)
    have v : ((a : Int) == (c : Int)) = false := by rw [beq_eq_false_iff_ne]; omega
    have v2 := decide_eq_false (show ¬ a = c by omega)
    rw [u, v2]
    go_enter Tryz.func138, Tryz.ntmps138
    go_wp2_with fail
    go_ret
    exact ⟨rfl, hb0⟩


set_option maxRecDepth 100000 in
set_option maxHeartbeats 2000000 in
theorem r3mul_any (x y : Nat) (w : World) (hx : x < 18446744073709551616) (hy : y < 18446744073709551616) :
    Calls Tryz.prog 121 #[.int .u64 (x : Int), .int .u64 (y : Int)] w fun e w' => e = .returned (vU (x * y / 18446744073709551616) (x * y % 18446744073709551616)) ∧ Below w.heap.size w w' := by
  obtain ⟨bd, bt, bw, hhi⟩ := Lib.mul64_hi x y hx hy
  have ba := Lib.half_mul_le (a := x / 4294967296) (b := y / 4294967296) (by omega) (by omega)
  have bb := Lib.half_mul_le (a := x / 4294967296) (b := y % 4294967296) (by omega) (by omega)
  have bc := Lib.half_mul_le (a := x % 4294967296) (b := y / 4294967296) (by omega) (by omega)
  have e := Lib.split_mul (x / 4294967296) (x % 4294967296) (y / 4294967296) (y % 4294967296) 4294967296
  rw [Nat.div_add_mod' x 4294967296, Nat.div_add_mod' y 4294967296] at e
  have f1 := Mul64.maskN x hx
  have f2 := Mul64.maskN y hy
  have f3 := Mul64.divN x
  have f4 := Mul64.divN y
  generalize x / 4294967296 = x1 at *
  generalize x % 4294967296 = x0 at *
  generalize y / 4294967296 = y1 at *
  generalize y % 4294967296 = y0 at *
  obtain ⟨H, hH⟩ : ∃ H, x * y / 18446744073709551616 = H := ⟨_, rfl⟩
  obtain ⟨L, hL⟩ : ∃ L, x * y % 18446744073709551616 = L := ⟨_, rfl⟩
  obtain ⟨p1, hp1⟩ : ∃ p, x0 * y0 = p := ⟨_, rfl⟩
  obtain ⟨p2, hp2⟩ : ∃ p, x1 * y0 = p := ⟨_, rfl⟩
  obtain ⟨p3, hp3⟩ : ∃ p, x0 * y1 = p := ⟨_, rfl⟩
  obtain ⟨p4, hp4⟩ : ∃ p, x1 * y1 = p := ⟨_, rfl⟩
  rw [hH, hL]
  rw [hp1] at bd bt bw hhi e
  rw [hp2] at bb bt bw hhi e
  rw [hp3] at bc bw hhi e
  rw [hp4] at ba hhi e
  rw [hH] at hhi
  obtain ⟨p1h, h1⟩ : ∃ z, p1 / 4294967296 = z := ⟨_, rfl⟩
  obtain ⟨p1l, h2⟩ : ∃ z, p1 % 4294967296 = z := ⟨_, rfl⟩
  rw [h1] at bt bw hhi
  obtain ⟨t, ht⟩ : ∃ t, p2 + p1h = t := ⟨_, rfl⟩
  rw [ht] at bt bw hhi
  obtain ⟨th, h3⟩ : ∃ z, t / 4294967296 = z := ⟨_, rfl⟩
  obtain ⟨tl, h4⟩ : ∃ z, t % 4294967296 = z := ⟨_, rfl⟩
  rw [h4] at bw hhi
  rw [h3] at hhi
  obtain ⟨o, ho⟩ : ∃ o, p3 + tl = o := ⟨_, rfl⟩
  rw [Nat.add_comm tl p3, ho] at bw hhi
  obtain ⟨oh, h5⟩ : ∃ z, o / 4294967296 = z := ⟨_, rfl⟩
  rw [h5] at hhi
  obtain ⟨ol, h6⟩ : ∃ z, o * 4294967296 % 18446744073709551616 = z := ⟨_, rfl⟩
  have hLL : L = ol + p1l := by omega
  have g1 : IntKind.u64.wrap ((x0 : Int) * (y0 : Int)) = (p1 : Int) := by rw [← Int.natCast_mul, hp1, IntKind.wrap_u64]; omega
  have g2 : IntKind.u64.wrap ((x1 : Int) * (y0 : Int)) = (p2 : Int) := by rw [← Int.natCast_mul, hp2, IntKind.wrap_u64]; omega
  have g3 : IntKind.u64.wrap ((x0 : Int) * (y1 : Int)) = (p3 : Int) := by rw [← Int.natCast_mul, hp3, IntKind.wrap_u64]; omega
  have g4 : IntKind.u64.wrap ((x1 : Int) * (y1 : Int)) = (p4 : Int) := by rw [← Int.natCast_mul, hp4, IntKind.wrap_u64]; omega
  have g5 : (p1 : Int) / 4294967296 = (p1h : Int) := by omega
  have g6 : bits .and .u64 (p1 : Int) 4294967295 = (p1l : Int) := by rw [Mul64.maskN p1 bd, h2]
  have g7 : IntKind.u64.wrap ((p2 : Int) + (p1h : Int)) = (t : Int) := by rw [IntKind.wrap_u64]; omega
  have g8 : (t : Int) / 4294967296 = (th : Int) := by omega
  have g9 : bits .and .u64 (t : Int) 4294967295 = (tl : Int) := by rw [Mul64.maskN t bt, h4]
  have g10 : IntKind.u64.wrap ((p3 : Int) + (tl : Int)) = (o : Int) := by rw [IntKind.wrap_u64]; omega
  have g11 : (o : Int) / 4294967296 = (oh : Int) := by omega
  obtain ⟨a5, h7⟩ : ∃ z, p4 + th = z := ⟨_, rfl⟩
  have g12 : IntKind.u64.wrap ((p4 : Int) + (th : Int)) = (a5 : Int) := by rw [IntKind.wrap_u64]; omega
  have g13 : IntKind.u64.wrap ((a5 : Int) + (oh : Int)) = (H : Int) := by rw [IntKind.wrap_u64]; omega
  have g14 : IntKind.u64.wrap ((o : Int) * 4294967296) = (ol : Int) := by rw [IntKind.wrap_u64]; omega
  have g15 : IntKind.u64.wrap ((ol : Int) + (p1l : Int)) = (L : Int) := by rw [IntKind.wrap_u64]; omega
  clear e bd bt bw ba bb bc hhi hH hL hp1 hp2 hp3 hp4 h1 h2 ht h3 h4 ho h5 h6 h7 hLL
  have hb0 : Below w.heap.size w (w.alloc (.cells #[.int .u64 0, .int .u64 0] 114)) := (Below.refl _ _).alloc (Nat.le_refl _) _
  go_enter Tryz.func121, Tryz.ntmps121
  go_wp2_with fail
  exact bodyPost_ret (v := vU H L) (by simp (maxDischargeDepth := 9) [results, Tryz.results121, go_sem]) rfl ⟨rfl, by repeat' (first | exact Below.refl _ _ | assumption | refine Below.more ?_ ?_ _ | refine Below.alloc ?_ ?_ _ | refine Below.drew ?_ | refine below_drewN ?_ _ | refine Below.setCell ?_ ?_ _ | exact Below.size (by assumption) | (simp [go_sem, size_more]; done) | (simp [go_sem, size_more]; omega))⟩

set_option maxHeartbeats 1000000 in
theorem r3shift_any (H L b H2 L2 : Nat) (w : World) (hH : H < 18446744073709551616) (hL : L < 18446744073709551616) (hb : b < 2) (h : H2 * 18446744073709551616 + L2 = (2 * (H * 18446744073709551616 + L) + b) % 340282366920938463463374607431768211456) (hL2 : L2 < 18446744073709551616) :
    Calls Tryz.prog 137 #[vU H L, .int .u64 (b : Int)] w fun e w' => e = .returned (vU H2 L2) ∧ Below w.heap.size w w' := by
  obtain ⟨h2, e1⟩ : ∃ z, H * 2 % 18446744073709551616 = z := ⟨_, rfl⟩
  obtain ⟨lt, e2⟩ : ∃ z, L / 9223372036854775808 = z := ⟨_, rfl⟩
  obtain ⟨l2, e3⟩ : ∃ z, L * 2 % 18446744073709551616 = z := ⟨_, rfl⟩
  have g1 : IntKind.u64.wrap ((H : Int) * 2) = (h2 : Int) := by rw [IntKind.wrap_u64]; omega
  have g2 : (L : Int) / 9223372036854775808 = (lt : Int) := by omega
  have g3 : IntKind.u64.wrap ((h2 : Int) + (lt : Int)) = (H2 : Int) := by rw [IntKind.wrap_u64]; omega
  have g4 : IntKind.u64.wrap ((L : Int) * 2) = (l2 : Int) := by rw [IntKind.wrap_u64]; omega
  have g5 : IntKind.u64.wrap ((l2 : Int) + (b : Int)) = (L2 : Int) := by rw [IntKind.wrap_u64]; omega
  clear e1 e2 e3 h
  go_enter Tryz.func137, Tryz.ntmps137
  go_wp2_with fail
  exact bodyPost_ret (v := vU H2 L2) (by simp (maxDischargeDepth := 9) [results, Tryz.results137, go_sem]) rfl ⟨rfl, by repeat' (first | exact Below.refl _ _ | assumption | refine Below.more ?_ ?_ _ | refine Below.alloc ?_ ?_ _ | refine Below.drew ?_ | refine below_drewN ?_ _ | refine Below.setCell ?_ ?_ _ | exact Below.size (by assumption) | (simp [go_sem, size_more]; done) | (simp [go_sem, size_more]; omega))⟩

set_option maxHeartbeats 1000000 in
theorem r3minus_any (H L a b H2 L2 : Nat) (w : World) (hH : H < 18446744073709551616) (hL : L < 18446744073709551616) (ha : a < 18446744073709551616) (hb : b < 18446744073709551616) (h : H2 * 18446744073709551616 + L2 + (a * 18446744073709551616 + b) = H * 18446744073709551616 + L) (hL2 : L2 < 18446744073709551616) :
    Calls Tryz.prog 139 #[vU H L, vU a b] w fun e w' => e = .returned (vU H2 L2) ∧ Below w.heap.size w w' := by
  obtain ⟨d, e1⟩ : ∃ z, H - a = z := ⟨_, rfl⟩
  have g1 : IntKind.u64.wrap ((H : Int) - (a : Int)) = (d : Int) := by rw [IntKind.wrap_u64]; omega
  have g2 : IntKind.u64.wrap ((L : Int) - (b : Int)) = (L2 : Int) := by rw [IntKind.wrap_u64]; omega
  by_cases q : L < b
  · have u := decide_eq_true q
    have u' := decide_eq_true (show (L : Int) < (b : Int) by omega)
    have g3 : IntKind.u64.wrap ((d : Int) - 1) = (H2 : Int) := by rw [IntKind.wrap_u64]; omega
    clear e1 h q
    go_enter Tryz.func139, Tryz.ntmps139
    go_wp2_with fail
    exact bodyPost_ret (v := vU H2 L2) (by simp (maxDischargeDepth := 9) [results, Tryz.results139, go_sem]) rfl ⟨rfl, by repeat' (first | exact Below.refl _ _ | assumption | refine Below.more ?_ ?_ _ | refine Below.alloc ?_ ?_ _ | refine Below.drew ?_ | refine below_drewN ?_ _ | refine Below.setCell ?_ ?_ _ | exact Below.size (by assumption) | (simp [go_sem, size_more]; done) | (simp [go_sem, size_more]; omega))⟩
  · have u := decide_eq_false q
    have u' := decide_eq_false (show ¬ (L : Int) < (b : Int) by omega)
    obtain rfl : d = H2 := by omega
    clear e1 h q
    go_enter Tryz.func139, Tryz.ntmps139
    go_wp2_with fail
    exact bodyPost_ret (v := vU d L2) (by simp (maxDischargeDepth := 9) [results, Tryz.results139, go_sem]) rfl ⟨rfl, by repeat' (first | exact Below.refl _ _ | assumption | refine Below.more ?_ ?_ _ | refine Below.alloc ?_ ?_ _ | refine Below.drew ?_ | refine below_drewN ?_ _ | refine Below.setCell ?_ ?_ _ | exact Below.size (by assumption) | (simp [go_sem, size_more]; done) | (simp [go_sem, size_more]; omega))⟩

set_option maxHeartbeats 1000000 in
theorem r3plus_any (H L a b H2 L2 : Nat) (w : World) (hH : H < 18446744073709551616) (hL : L < 18446744073709551616) (ha : a < 18446744073709551616) (hb : b < 18446744073709551616) (h : H2 * 18446744073709551616 + L2 = H * 18446744073709551616 + L + (a * 18446744073709551616 + b)) (hL2 : L2 < 18446744073709551616) (hH2 : H2 < 18446744073709551616) :
    Calls Tryz.prog 119 #[vU H L, vU a b] w fun e w' => e = .returned (vU H2 L2) ∧ Below w.heap.size w w' := by
  obtain ⟨d, e1⟩ : ∃ z, H + a = z := ⟨_, rfl⟩
  have g1 : IntKind.u64.wrap ((H : Int) + (a : Int)) = (d : Int) := by rw [IntKind.wrap_u64]; omega
  have g2 : IntKind.u64.wrap ((L : Int) + (b : Int)) = (L2 : Int) := by rw [IntKind.wrap_u64]; omega
  by_cases q : L2 < L
  · have u := decide_eq_true q
    have u' := decide_eq_true (show (L2 : Int) < (L : Int) by omega)
    have g3 : IntKind.u64.wrap ((d : Int) + 1) = (H2 : Int) := by rw [IntKind.wrap_u64]; omega
    clear e1 h q
    go_enter Tryz.func119, Tryz.ntmps119
    go_wp2_with fail
    exact bodyPost_ret (v := vU H2 L2) (by simp (maxDischargeDepth := 9) [results, Tryz.results119, go_sem]) rfl ⟨rfl, by repeat' (first | exact Below.refl _ _ | assumption | refine Below.more ?_ ?_ _ | refine Below.alloc ?_ ?_ _ | refine Below.drew ?_ | refine below_drewN ?_ _ | refine Below.setCell ?_ ?_ _ | exact Below.size (by assumption) | (simp [go_sem, size_more]; done) | (simp [go_sem, size_more]; omega))⟩
  · have u := decide_eq_false q
    have u' := decide_eq_false (show ¬ (L2 : Int) < (L : Int) by omega)
    obtain rfl : d = H2 := by omega
    clear e1 h q
    go_enter Tryz.func119, Tryz.ntmps119
    go_wp2_with fail
    exact bodyPost_ret (v := vU d L2) (by simp (maxDischargeDepth := 9) [results, Tryz.results119, go_sem]) rfl ⟨rfl, by repeat' (first | exact Below.refl _ _ | assumption | refine Below.more ?_ ?_ _ | refine Below.alloc ?_ ?_ _ | refine Below.drew ?_ | refine below_drewN ?_ _ | refine Below.setCell ?_ ?_ _ | exact Below.size (by assumption) | (simp [go_sem, size_more]; done) | (simp [go_sem, size_more]; omega))⟩


def nzB (H L : Nat) : Bool := !(decide (H = 0) && decide (L = 0))
set_option maxHeartbeats 1000000 in
theorem r3made_any (H L : Nat) (b : Bool) (w : World) : Calls Tryz.prog 120 #[vU H L, .bool b] w fun e w' => e = .returned (vN H L (b && nzB H L)) ∧ Below w.heap.size w w' := by
  cases b
  · go_enter Tryz.func120, Tryz.ntmps120
    go_wp2_with fail
    go_region
    go_wp2_with fail
    exact bodyPost_ret (v := vN H L false) (by simp (maxDischargeDepth := 9) [results, Tryz.results120, go_sem]) rfl ⟨by simp [nzB], by repeat' (first | exact Below.refl _ _ | assumption | refine Below.more ?_ ?_ _ | refine Below.alloc ?_ ?_ _ | refine Below.drew ?_ | refine below_drewN ?_ _ | refine Below.setCell ?_ ?_ _ | exact Below.size (by assumption) | (simp [go_sem, size_more]; done) | (simp [go_sem, size_more]; omega))⟩
  · by_cases h1 : H = 0
    · subst h1
      by_cases h2 : L = 0
      · subst h2
        go_enter Tryz.func120, Tryz.ntmps120
        go_wp2_with fail
        go_region
        go_wp2_with fail
        exact bodyPost_ret (v := vN 0 0 false) (by simp (maxDischargeDepth := 9) [results, Tryz.results120, go_sem]) rfl ⟨by simp [nzB], by repeat' (first | exact Below.refl _ _ | assumption | refine Below.more ?_ ?_ _ | refine Below.alloc ?_ ?_ _ | refine Below.drew ?_ | refine below_drewN ?_ _ | refine Below.setCell ?_ ?_ _ | exact Below.size (by assumption) | (simp [go_sem, size_more]; done) | (simp [go_sem, size_more]; omega))⟩
      · go_enter Tryz.func120, Tryz.ntmps120
        go_wp2_with fail
        go_region
        go_wp2_with fail
        exact bodyPost_ret (v := vN 0 L true) (by simp (maxDischargeDepth := 9) [results, Tryz.results120, go_sem]) rfl ⟨by simp [nzB, h2], by repeat' (first | exact Below.refl _ _ | assumption | refine Below.more ?_ ?_ _ | refine Below.alloc ?_ ?_ _ | refine Below.drew ?_ | refine below_drewN ?_ _ | refine Below.setCell ?_ ?_ _ | exact Below.size (by assumption) | (simp [go_sem, size_more]; done) | (simp [go_sem, size_more]; omega))⟩
    · go_enter Tryz.func120, Tryz.ntmps120
      go_wp2_with fail
      go_region
      go_wp2_with fail
      exact bodyPost_ret (v := vN H L true) (by simp (maxDischargeDepth := 9) [results, Tryz.results120, go_sem]) rfl ⟨by simp [nzB, h1], by repeat' (first | exact Below.refl _ _ | assumption | refine Below.more ?_ ?_ _ | refine Below.alloc ?_ ?_ _ | refine Below.drew ?_ | refine below_drewN ?_ _ | refine Below.setCell ?_ ?_ _ | exact Below.size (by assumption) | (simp [go_sem, size_more]; done) | (simp [go_sem, size_more]; omega))⟩

end Go.Proofs.YtjgfgbiohbgcaaaGreat
