/- The reference's wide numbers (layer 3): magnitudes of two parts, their sums, differences, products and quotients; floors and ceilings. Conditions: the numbers are not negative and in range. | The reference's division of magnitudes, and floors and ceilings of quotients. Conditions: the numbers are not negative, the divisor is positive. -/
import Derived.Test.YtjgfgbiohbgcaaaGreatMwp
import Derived.BigRegion
import Derived.Deep.QuietTactic
import Derived.BigQuiet
namespace Go.Proofs.YtjgfgbiohbgcaaaGreat
open Go.RowKit
set_option linter.unusedVariables false
set_option linter.unusedSimpArgs false

/-- A magnitude: its two parts. -/
abbrev vU (H L : Nat) : Value := .agg #[.int .u64 (H : Int), .int .u64 (L : Int)]
abbrev vN (H L : Nat) (b : Bool) : Value := .agg #[.int .u64 (H : Int), .int .u64 (L : Int), .bool b]

theorem i64_u64 (n : Nat) (h : n < 9223372036854775808) : IntKind.u64.wrap (n : Int) = (n : Int) := by rw [IntKind.wrap_u64]; omega

theorem r3size_any (n : Nat) (w : World) (h : n < 9223372036854775808) : Calls Tryz.prog 122 #[.int .i64 (n : Int)] w fun e w' => e = .returned (.int .u64 (n : Int)) ∧ w' = w := by
  have u := decide_eq_false (show ¬ (n : Int) < 0 by omega)
  have x := i64_u64 n h
  go_enter Tryz.func122, Tryz.ntmps122
  go_wp2_with fail
  go_ret
  exact ⟨rfl, rfl⟩

set_option maxHeartbeats 1000000 in
theorem r3less_any (a b c d : Nat) (w : World) : Calls Tryz.prog 138 #[vU a b, vU c d] w fun e w' => e = .returned (.bool (decide (a < c) || (decide (a = c) && decide (b < d)))) ∧ Below w.heap.size w w' := by
  have hb0 : Below w.heap.size w ((w.alloc (.cells #[.int .u64 (a : Int), .int .u64 (b : Int)] 114)).alloc (.cells #[.int .u64 (c : Int), .int .u64 (d : Int)] 114)) := ((Below.refl _ _).alloc (Nat.le_refl _) _).alloc (by simp) _
  rcases Nat.lt_trichotomy a c with h | h | h
  · have u := decide_eq_true h
    have u' := decide_eq_true (show (a : Int) < (c : Int) by omega)
    rw [u]
    go_enter Tryz.func138, Tryz.ntmps138
    go_wp2_with fail
    go_ret
    exact ⟨rfl, hb0⟩
  · subst h
    have u := decide_eq_false (Nat.lt_irrefl a)
    have v : ((a : Int) == (a : Int)) = true := by simp
    cases q : decide (b < d)
    · have q' : decide ((b : Int) < (d : Int)) = false := by simp at q ⊢; omega
      go_enter Tryz.func138, Tryz.ntmps138
      go_wp2_with fail
      go_ret
      exact ⟨by simp [u], hb0⟩
    · have q' : decide ((b : Int) < (d : Int)) = true := by simp at q ⊢; omega
      go_enter Tryz.func138, Tryz.ntmps138
      go_wp2_with fail
      go_ret
      exact ⟨by simp, hb0⟩
  · have u := decide_eq_false (show ¬ a < c by omega)
    have u' := decide_eq_false (show ¬ (a : Int) < (c : Int) by omega)
    have v : ((a : Int) == (c : Int)) = false := by rw [beq_eq_false_iff_ne]; omega
    have v2 := decide_eq_false (show ¬ a = c by omega)
    rw [u, v2]
    go_enter Tryz.func138, Tryz.ntmps138
    go_wp2_with fail
    go_ret
    exact ⟨rfl, hb0⟩


set_option maxRecDepth 100000 in
set_option maxHeartbeats 2000000 in
theorem r3mul_any (x y : Nat) (w : World) (hx : x < 18446744073709551616) (hy : y < 18446744073709551616) :
    Calls Tryz.prog 121 #[.int .u64 (x : Int), .int .u64 (y : Int)] w fun e w' => e = .returned (vU (x * y / 18446744073709551616) (x * y % 18446744073709551616)) ∧ Below w.heap.size w w' := by
  obtain ⟨bd, bt, bw, hhi⟩ := Lib.mul64_hi x y hx hy
  have ba := Lib.half_mul_le (a := x / 4294967296) (b := y / 4294967296) (by omega) (by omega)
  have bb := Lib.half_mul_le (a := x / 4294967296) (b := y % 4294967296) (by omega) (by omega)
  have bc := Lib.half_mul_le (a := x % 4294967296) (b := y / 4294967296) (by omega) (by omega)
  have e := Lib.split_mul (x / 4294967296) (x % 4294967296) (y / 4294967296) (y % 4294967296) 4294967296
  rw [Nat.div_add_mod' x 4294967296, Nat.div_add_mod' y 4294967296] at e
  have f1 := Mul64.maskN x hx
  have f2 := Mul64.maskN y hy
  have f3 := Mul64.divN x
  have f4 := Mul64.divN y
  generalize x / 4294967296 = x1 at *
  generalize x % 4294967296 = x0 at *
  generalize y / 4294967296 = y1 at *
  generalize y % 4294967296 = y0 at *
  obtain ⟨H, hH⟩ : ∃ H, x * y / 18446744073709551616 = H := ⟨_, rfl⟩
  obtain ⟨L, hL⟩ : ∃ L, x * y % 18446744073709551616 = L := ⟨_, rfl⟩
  obtain ⟨p1, hp1⟩ : ∃ p, x0 * y0 = p := ⟨_, rfl⟩
  obtain ⟨p2, hp2⟩ : ∃ p, x1 * y0 = p := ⟨_, rfl⟩
  obtain ⟨p3, hp3⟩ : ∃ p, x0 * y1 = p := ⟨_, rfl⟩
  obtain ⟨p4, hp4⟩ : ∃ p, x1 * y1 = p := ⟨_, rfl⟩
  rw [hH, hL]
  rw [hp1] at bd bt bw hhi e
  rw [hp2] at bb bt bw hhi e
  rw [hp3] at bc bw hhi e
  rw [hp4] at ba hhi e
  rw [hH] at hhi
  obtain ⟨p1h, h1⟩ : ∃ z, p1 / 4294967296 = z := ⟨_, rfl⟩
  obtain ⟨p1l, h2⟩ : ∃ z, p1 % 4294967296 = z := ⟨_, rfl⟩
  rw [h1] at bt bw hhi
  obtain ⟨t, ht⟩ : ∃ t, p2 + p1h = t := ⟨_, rfl⟩
  rw [ht] at bt bw hhi
  obtain ⟨th, h3⟩ : ∃ z, t / 4294967296 = z := ⟨_, rfl⟩
  obtain ⟨tl, h4⟩ : ∃ z, t % 4294967296 = z := ⟨_, rfl⟩
  rw [h4] at bw hhi
  rw [h3] at hhi
  obtain ⟨o, ho⟩ : ∃ o, p3 + tl = o := ⟨_, rfl⟩
  rw [Nat.add_comm tl p3, ho] at bw hhi
  obtain ⟨oh, h5⟩ : ∃ z, o / 4294967296 = z := ⟨_, rfl⟩
  rw [h5] at hhi
  obtain ⟨ol, h6⟩ : ∃ z, o * 4294967296 % 18446744073709551616 = z := ⟨_, rfl⟩
  have hLL : L = ol + p1l := by omega
  have g1 : IntKind.u64.wrap ((x0 : Int) * (y0 : Int)) = (p1 : Int) := by rw [← Int.natCast_mul, hp1, IntKind.wrap_u64]; omega
  have g2 : IntKind.u64.wrap ((x1 : Int) * (y0 : Int)) = (p2 : Int) := by rw [← Int.natCast_mul, hp2, IntKind.wrap_u64]; omega
  have g3 : IntKind.u64.wrap ((x0 : Int) * (y1 : Int)) = (p3 : Int) := by rw [← Int.natCast_mul, hp3, IntKind.wrap_u64]; omega
  have g4 : IntKind.u64.wrap ((x1 : Int) * (y1 : Int)) = (p4 : Int) := by rw [← Int.natCast_mul, hp4, IntKind.wrap_u64]; omega
  have g5 : (p1 : Int) / 4294967296 = (p1h : Int) := by omega
  have g6 : bits .and .u64 (p1 : Int) 4294967295 = (p1l : Int) := by rw [Mul64.maskN p1 bd, h2]
  have g7 : IntKind.u64.wrap ((p2 : Int) + (p1h : Int)) = (t : Int) := by rw [IntKind.wrap_u64]; omega
  have g8 : (t : Int) / 4294967296 = (th : Int) := by omega
  have g9 : bits .and .u64 (t : Int) 4294967295 = (tl : Int) := by rw [Mul64.maskN t bt, h4]
  have g10 : IntKind.u64.wrap ((p3 : Int) + (tl : Int)) = (o : Int) := by rw [IntKind.wrap_u64]; omega
  have g11 : (o : Int) / 4294967296 = (oh : Int) := by omega
  obtain ⟨a5, h7⟩ : ∃ z, p4 + th = z := ⟨_, rfl⟩
  have g12 : IntKind.u64.wrap ((p4 : Int) + (th : Int)) = (a5 : Int) := by rw [IntKind.wrap_u64]; omega
  have g13 : IntKind.u64.wrap ((a5 : Int) + (oh : Int)) = (H : Int) := by rw [IntKind.wrap_u64]; omega
  have g14 : IntKind.u64.wrap ((o : Int) * 4294967296) = (ol : Int) := by rw [IntKind.wrap_u64]; omega
  have g15 : IntKind.u64.wrap ((ol : Int) + (p1l : Int)) = (L : Int) := by rw [IntKind.wrap_u64]; omega
  clear e bd bt bw ba bb bc hhi hH hL hp1 hp2 hp3 hp4 h1 h2 ht h3 h4 ho h5 h6 h7 hLL
  have hb0 : Below w.heap.size w (w.alloc (.cells #[.int .u64 0, .int .u64 0] 114)) := (Below.refl _ _).alloc (Nat.le_refl _) _
  go_enter Tryz.func121, Tryz.ntmps121
  go_wp2_with fail
  exact bodyPost_ret (v := vU H L) (by simp (maxDischargeDepth := 9) [results, Tryz.results121, go_sem]) rfl ⟨rfl, by repeat' (first | exact Below.refl _ _ | assumption | refine Below.more ?_ ?_ _ | refine Below.alloc ?_ ?_ _ | refine Below.drew ?_ | refine below_drewN ?_ _ | refine Below.setCell ?_ ?_ _ | exact Below.size (by assumption) | (simp [go_sem, size_more]; done) | (simp [go_sem, size_more]; omega))⟩

set_option maxHeartbeats 1000000 in
theorem r3shift_any (H L b H2 L2 : Nat) (w : World) (hH : H < 18446744073709551616) (hL : L < 18446744073709551616) (hb : b < 2) (h : H2 * 18446744073709551616 + L2 = (2 * (H * 18446744073709551616 + L) + b) % 340282366920938463463374607431768211456) (hL2 : L2 < 18446744073709551616) :
    Calls Tryz.prog 137 #[vU H L, .int .u64 (b : Int)] w fun e w' => e = .returned (vU H2 L2) ∧ Below w.heap.size w w' := by
  obtain ⟨h2, e1⟩ : ∃ z, H * 2 % 18446744073709551616 = z := ⟨_, rfl⟩
  obtain ⟨lt, e2⟩ : ∃ z, L / 9223372036854775808 = z := ⟨_, rfl⟩
  obtain ⟨l2, e3⟩ : ∃ z, L * 2 % 18446744073709551616 = z := ⟨_, rfl⟩
  have g1 : IntKind.u64.wrap ((H : Int) * 2) = (h2 : Int) := by rw [IntKind.wrap_u64]; omega
  have g2 : (L : Int) / 9223372036854775808 = (lt : Int) := by omega
  have g3 : IntKind.u64.wrap ((h2 : Int) + (lt : Int)) = (H2 : Int) := by rw [IntKind.wrap_u64]; omega
  have g4 : IntKind.u64.wrap ((L : Int) * 2) = (l2 : Int) := by rw [IntKind.wrap_u64]; omega
  have g5 : IntKind.u64.wrap ((l2 : Int) + (b : Int)) = (L2 : Int) := by rw [IntKind.wrap_u64]; omega
  clear e1 e2 e3 h
  go_enter Tryz.func137, Tryz.ntmps137
  go_wp2_with fail
  exact bodyPost_ret (v := vU H2 L2) (by simp (maxDischargeDepth := 9) [results, Tryz.results137, go_sem]) rfl ⟨rfl, by repeat' (first | exact Below.refl _ _ | assumption | refine Below.more ?_ ?_ _ | refine Below.alloc ?_ ?_ _ | refine Below.drew ?_ | refine below_drewN ?_ _ | refine Below.setCell ?_ ?_ _ | exact Below.size (by assumption) | (simp [go_sem, size_more]; done) | (simp [go_sem, size_more]; omega))⟩

set_option maxHeartbeats 1000000 in
theorem r3minus_any (H L a b H2 L2 : Nat) (w : World) (hH : H < 18446744073709551616) (hL : L < 18446744073709551616) (ha : a < 18446744073709551616) (hb : b < 18446744073709551616) (h : H2 * 18446744073709551616 + L2 + (a * 18446744073709551616 + b) = H * 18446744073709551616 + L) (hL2 : L2 < 18446744073709551616) :
    Calls Tryz.prog 139 #[vU H L, vU a b] w fun e w' => e = .returned (vU H2 L2) ∧ Below w.heap.size w w' := by
  obtain ⟨d, e1⟩ : ∃ z, H - a = z := ⟨_, rfl⟩
  have g1 : IntKind.u64.wrap ((H : Int) - (a : Int)) = (d : Int) := by rw [IntKind.wrap_u64]; omega
  have g2 : IntKind.u64.wrap ((L : Int) - (b : Int)) = (L2 : Int) := by rw [IntKind.wrap_u64]; omega
  by_cases q : L < b
  · have u := decide_eq_true q
    have u' := decide_eq_true (show (L : Int) < (b : Int) by omega)
    have g3 : IntKind.u64.wrap ((d : Int) - 1) = (H2 : Int) := by rw [IntKind.wrap_u64]; omega
    clear e1 h q
    go_enter Tryz.func139, Tryz.ntmps139
    go_wp2_with fail
    exact bodyPost_ret (v := vU H2 L2) (by simp (maxDischargeDepth := 9) [results, Tryz.results139, go_sem]) rfl ⟨rfl, by repeat' (first | exact Below.refl _ _ | assumption | refine Below.more ?_ ?_ _ | refine Below.alloc ?_ ?_ _ | refine Below.drew ?_ | refine below_drewN ?_ _ | refine Below.setCell ?_ ?_ _ | exact Below.size (by assumption) | (simp [go_sem, size_more]; done) | (simp [go_sem, size_more]; omega))⟩
  · have u := decide_eq_false q
    have u' := decide_eq_false (show ¬ (L : Int) < (b : Int) by omega)
    obtain rfl : d = H2 := by omega
    clear e1 h q
    go_enter Tryz.func139, Tryz.ntmps139
    go_wp2_with fail
    exact bodyPost_ret (v := vU d L2) (by simp (maxDischargeDepth := 9) [results, Tryz.results139, go_sem]) rfl ⟨rfl, by repeat' (first | exact Below.refl _ _ | assumption | refine Below.more ?_ ?_ _ | refine Below.alloc ?_ ?_ _ | refine Below.drew ?_ | refine below_drewN ?_ _ | refine Below.setCell ?_ ?_ _ | exact Below.size (by assumption) | (simp [go_sem, size_more]; done) | (simp [go_sem, size_more]; omega))⟩

set_option maxHeartbeats 1000000 in
theorem r3plus_any (H L a b H2 L2 : Nat) (w : World) (hH : H < 18446744073709551616) (hL : L < 18446744073709551616) (ha : a < 18446744073709551616) (hb : b < 18446744073709551616) (h : H2 * 18446744073709551616 + L2 = H * 18446744073709551616 + L + (a * 18446744073709551616 + b)) (hL2 : L2 < 18446744073709551616) (hH2 : H2 < 18446744073709551616) :
    Calls Tryz.prog 119 #[vU H L, vU a b] w fun e w' => e = .returned (vU H2 L2) ∧ Below w.heap.size w w' := by
  obtain ⟨d, e1⟩ : ∃ z, H + a = z := ⟨_, rfl⟩
  have g1 : IntKind.u64.wrap ((H : Int) + (a : Int)) = (d : Int) := by rw [IntKind.wrap_u64]; omega
  have g2 : IntKind.u64.wrap ((L : Int) + (b : Int)) = (L2 : Int) := by rw [IntKind.wrap_u64]; omega
  by_cases q : L2 < L
  · have u := decide_eq_true q
    have u' := decide_eq_true (show (L2 : Int) < (L : Int) by omega)
    have g3 : IntKind.u64.wrap ((d : Int) + 1) = (H2 : Int) := by rw [IntKind.wrap_u64]; omega
    clear e1 h q
    go_enter Tryz.func119, Tryz.ntmps119
    go_wp2_with fail
    exact bodyPost_ret (v := vU H2 L2) (by simp (maxDischargeDepth := 9) [results, Tryz.results119, go_sem]) rfl ⟨rfl, by repeat' (first | exact Below.refl _ _ | assumption | refine Below.more ?_ ?_ _ | refine Below.alloc ?_ ?_ _ | refine Below.drew ?_ | refine below_drewN ?_ _ | refine Below.setCell ?_ ?_ _ | exact Below.size (by assumption) | (simp [go_sem, size_more]; done) | (simp [go_sem, size_more]; omega))⟩
  · have u := decide_eq_false q
    have u' := decide_eq_false (show ¬ (L2 : Int) < (L : Int) by omega)
    obtain rfl : d = H2 := by omega
    clear e1 h q
    go_enter Tryz.func119, Tryz.ntmps119
    go_wp2_with fail
    exact bodyPost_ret (v := vU d L2) (by simp (maxDischargeDepth := 9) [results, Tryz.results119, go_sem]) rfl ⟨rfl, by repeat' (first | exact Below.refl _ _ | assumption | refine Below.more ?_ ?_ _ | refine Below.alloc ?_ ?_ _ | refine Below.drew ?_ | refine below_drewN ?_ _ | refine Below.setCell ?_ ?_ _ | exact Below.size (by assumption) | (simp [go_sem, size_more]; done) | (simp [go_sem, size_more]; omega))⟩


def nzB (H L : Nat) : Bool := !(decide (H = 0) && decide (L = 0))
set_option maxHeartbeats 1000000 in
theorem r3made_any (H L : Nat) (b : Bool) (w : World) : Calls Tryz.prog 120 #[vU H L, .bool b] w fun e w' => e = .returned (vN H L (b && nzB H L)) ∧ Below w.heap.size w w' := by
  cases b
  · go_enter Tryz.func120, Tryz.ntmps120
    go_wp2_with fail
    go_region
    go_wp2_with fail
    exact bodyPost_ret (v := vN H L false) (by simp (maxDischargeDepth := 9) [results, Tryz.results120, go_sem]) rfl ⟨by simp [nzB], by repeat' (first | exact Below.refl _ _ | assumption | refine Below.more ?_ ?_ _ | refine Below.alloc ?_ ?_ _ | refine Below.drew ?_ | refine below_drewN ?_ _ | refine Below.setCell ?_ ?_ _ | exact Below.size (by assumption) | (simp [go_sem, size_more]; done) | (simp [go_sem, size_more]; omega))⟩
  · by_cases h1 : H = 0
    · subst h1
      by_cases h2 : L = 0
      · subst h2
        go_enter Tryz.func120, Tryz.ntmps120
        go_wp2_with fail
        go_region
        go_wp2_with fail
        exact bodyPost_ret (v := vN 0 0 false) (by simp (maxDischargeDepth := 9) [results, Tryz.results120, go_sem]) rfl ⟨by simp [nzB], by repeat' (first | exact Below.refl _ _ | assumption | refine Below.more ?_ ?_ _ | refine Below.alloc ?_ ?_ _ | refine Below.drew ?_ | refine below_drewN ?_ _ | refine Below.setCell ?_ ?_ _ | exact Below.size (by assumption) | (simp [go_sem, size_more]; done) | (simp [go_sem, size_more]; omega))⟩
      · go_enter Tryz.func120, Tryz.ntmps120
        go_wp2_with fail
        go_region
        go_wp2_with fail
        exact bodyPost_ret (v := vN 0 L true) (by simp (maxDischargeDepth := 9) [results, Tryz.results120, go_sem]) rfl ⟨by simp [nzB, h2], by repeat' (first | exact Below.refl _ _ | assumption | refine Below.more ?_ ?_ _ | refine Below.alloc ?_ ?_ _ | refine Below.drew ?_ | refine below_drewN ?_ _ | refine Below.setCell ?_ ?_ _ | exact Below.size (by assumption) | (simp [go_sem, size_more]; done) | (simp [go_sem, size_more]; omega))⟩
    · go_enter Tryz.func120, Tryz.ntmps120
      go_wp2_with fail
      go_region
      go_wp2_with fail
      exact bodyPost_ret (v := vN H L true) (by simp (maxDischargeDepth := 9) [results, Tryz.results120, go_sem]) rfl ⟨by simp [nzB, h1], by repeat' (first | exact Below.refl _ _ | assumption | refine Below.more ?_ ?_ _ | refine Below.alloc ?_ ?_ _ | refine Below.drew ?_ | refine below_drewN ?_ _ | refine Below.setCell ?_ ?_ _ | exact Below.size (by assumption) | (simp [go_sem, size_more]; done) | (simp [go_sem, size_more]; omega))⟩

end Go.Proofs.YtjgfgbiohbgcaaaGreat

namespace Go.Proofs.YtjgfgbiohbgcaaaGreat
open Go.RowKit
set_option linter.unusedVariables false
set_option linter.unusedSimpArgs false

/-- A block of two numbers of 64 bits that may be written. -/
structure Bx2 (w : World) (B a b : Nat) : Prop where
  c0 : w.cell? ⟨B, 0, none⟩ = some (.int .u64 (a : Int))
  c1 : w.cell? ⟨B, 1, none⟩ = some (.int .u64 (b : Int))
  f0 : w.frozen? ⟨B, 0, none⟩ = false
  f1 : w.frozen? ⟨B, 1, none⟩ = false
theorem Bx2.lt {w : World} {B a b : Nat} (h : Bx2 w B a b) : B < w.heap.size := lt_of_isSome (a := ⟨B, 0, none⟩) (by rw [h.c0]; rfl)
theorem Bx2.mono {w w' : World} {B a b : Nat} (h : Bx2 w B a b) (hb : Below w.heap.size w w') : Bx2 w' B a b :=
  ⟨(hb.cell (p := ⟨B, 0, none⟩) h.lt).trans h.c0, (hb.cell (p := ⟨B, 1, none⟩) h.lt).trans h.c1, (hb.frozen (p := ⟨B, 0, none⟩) h.lt).trans h.f0, (hb.frozen (p := ⟨B, 1, none⟩) h.lt).trans h.f1⟩
theorem Bx2.new (w : World) (a b : Nat) (T : TypeId) : Bx2 (w.alloc (.cells #[.int .u64 (a : Int), .int .u64 (b : Int)] T)) w.heap.size a b := ⟨by simp [go_sem], by simp [go_sem], by simp [go_sem], by simp [go_sem]⟩
theorem Bx2.other {w : World} {B a b : Nat} (h : Bx2 w B a b) (p : Addr) (u : Value) (hne : B ≠ p.block) : Bx2 (w.setCell p u) B a b := by
  have he := Below.heap_setCell w p u B hne
  exact ⟨(World.cell?_of_block (w := w) he).trans h.c0, (World.cell?_of_block (w := w) he).trans h.c1, by rw [World.frozen?_setCell]; exact h.f0, by rw [World.frozen?_setCell]; exact h.f1⟩
theorem Bx2.set {w : World} {B a b : Nat} (h : Bx2 w B a b) (a' b' : Nat) : Bx2 ((w.setCell ⟨B, 0, none⟩ (.int .u64 (a' : Int))).setCell ⟨B, 1, none⟩ (.int .u64 (b' : Int))) B a' b' :=
  ⟨(World.cell?_setCell_other _ _ _ _ (by simp)).trans (World.cell?_setCell_same _ _ _ h.c0), World.cell?_setCell_same _ _ _ ((World.cell?_setCell_other _ _ _ _ (by simp)).trans h.c1), by rw [World.frozen?_setCell, World.frozen?_setCell]; exact h.f0, by rw [World.frozen?_setCell, World.frozen?_setCell]; exact h.f1⟩
theorem Bx2.set1 {w : World} {B a b : Nat} (h : Bx2 w B a b) (b' : Nat) : Bx2 (w.setCell ⟨B, 1, none⟩ (.int .u64 (b' : Int))) B a b' :=
  ⟨(World.cell?_setCell_other _ _ _ _ (by simp)).trans h.c0, World.cell?_setCell_same _ _ _ h.c1, by rw [World.frozen?_setCell]; exact h.f0, by rw [World.frozen?_setCell]; exact h.f1⟩
theorem Bx2.other2 {w : World} {B a b C : Nat} (h : Bx2 w B a b) (hne : B ≠ C) (u v : Value) : Bx2 ((w.setCell ⟨C, 0, none⟩ u).setCell ⟨C, 1, none⟩ v) B a b := (h.other _ _ hne).other _ _ hne
theorem below_set2 {B C : Nat} {a w : World} (h : Below B a w) (hc : B ≤ C) (u v : Value) : Below B a ((w.setCell ⟨C, 0, none⟩ u).setCell ⟨C, 1, none⟩ v) := (h.setCell (by exact hc) _).setCell (by exact hc) _

/-- What the blocks of a division hold. -/
structure DvSt (w : World) (n aH aL D qH qL rL : Nat) : Prop where
  A : Bx2 w n aH aL
  B : Bx2 w (n + 1) 0 D
  P : Bx2 w (n + 1 + 1) 0 0
  S : Bx2 w (n + 1 + 1 + 1) 0 0
  Q : Bx2 w (n + 1 + 1 + 1 + 1) qH qL
  R : Bx2 w (n + 1 + 1 + 1 + 1 + 1) 0 rL
theorem DvSt.mono {w w' : World} {n aH aL D qH qL rL : Nat} (h : DvSt w n aH aL D qH qL rL) (hb : Below w.heap.size w w') : DvSt w' n aH aL D qH qL rL :=
  ⟨h.A.mono hb, h.B.mono hb, h.P.mono hb, h.S.mono hb, h.Q.mono hb, h.R.mono hb⟩
theorem DvSt.setA {w : World} {n aH aL D qH qL rL : Nat} (h : DvSt w n aH aL D qH qL rL) (x y : Nat) : DvSt ((w.setCell ⟨n, 0, none⟩ (.int .u64 (x : Int))).setCell ⟨n, 1, none⟩ (.int .u64 (y : Int))) n x y D qH qL rL :=
  ⟨h.A.set x y, h.B.other2 (by omega) _ _, h.P.other2 (by omega) _ _, h.S.other2 (by omega) _ _, h.Q.other2 (by omega) _ _, h.R.other2 (by omega) _ _⟩
theorem DvSt.setQ {w : World} {n aH aL D qH qL rL : Nat} (h : DvSt w n aH aL D qH qL rL) (x y : Nat) : DvSt ((w.setCell ⟨n + 1 + 1 + 1 + 1, 0, none⟩ (.int .u64 (x : Int))).setCell ⟨n + 1 + 1 + 1 + 1, 1, none⟩ (.int .u64 (y : Int))) n aH aL D x y rL :=
  ⟨h.A.other2 (by omega) _ _, h.B.other2 (by omega) _ _, h.P.other2 (by omega) _ _, h.S.other2 (by omega) _ _, h.Q.set x y, h.R.other2 (by omega) _ _⟩
theorem DvSt.setR {w : World} {n aH aL D qH qL rL : Nat} (h : DvSt w n aH aL D qH qL rL) (y : Nat) : DvSt ((w.setCell ⟨n + 1 + 1 + 1 + 1 + 1, 0, none⟩ (.int .u64 0)).setCell ⟨n + 1 + 1 + 1 + 1 + 1, 1, none⟩ (.int .u64 (y : Int))) n aH aL D qH qL y :=
  ⟨h.A.other2 (by omega) _ _, h.B.other2 (by omega) _ _, h.P.other2 (by omega) _ _, h.S.other2 (by omega) _ _, h.Q.other2 (by omega) _ _, h.R.set 0 y⟩
theorem DvSt.setQ1 {w : World} {n aH aL D qH qL rL : Nat} (h : DvSt w n aH aL D qH qL rL) (y : Nat) : DvSt (w.setCell ⟨n + 1 + 1 + 1 + 1, 1, none⟩ (.int .u64 (y : Int))) n aH aL D qH y rL :=
  ⟨h.A.other _ _ (by show n ≠ n + 1 + 1 + 1 + 1; omega), h.B.other _ _ (by show n + 1 ≠ n + 1 + 1 + 1 + 1; omega), h.P.other _ _ (by show n + 1 + 1 ≠ n + 1 + 1 + 1 + 1; omega), h.S.other _ _ (by show n + 1 + 1 + 1 ≠ n + 1 + 1 + 1 + 1; omega), h.Q.set1 y, h.R.other _ _ (by show n + 1 + 1 + 1 + 1 + 1 ≠ n + 1 + 1 + 1 + 1; omega)⟩

set_option maxRecDepth 100000 in
set_option maxHeartbeats 8000000 in
theorem r3div_any (H L D : Nat) (w : World) (hH : H < 18446744073709551616) (hL : L < 18446744073709551616) (hD : 0 < D) (hD2 : D ≤ 9223372036854775808) :
    Calls Tryz.prog 118 #[vU H L, vU 0 D] w fun e w' => (∃ qH qL rL : Nat, e = .returned (.tuple #[vU qH qL, vU 0 rL]) ∧ qL < 18446744073709551616 ∧ qH * 18446744073709551616 + qL = (H * 18446744073709551616 + L) / D ∧ rL = (H * 18446744073709551616 + L) % D) ∧ Below w.heap.size w w' := by
  obtain ⟨N, hN⟩ : ∃ N, H * 18446744073709551616 + L = N := ⟨_, rfl⟩
  have hNl : N < 340282366920938463463374607431768211456 := by omega
  have hst : (N / 2 ^ (128 - 0) / D = 0 ∧ N / 2 ^ (128 - 0) % D = 0 ∧ N % 2 ^ (128 - 0) * 2 ^ 0 = N) := div_start (by rw [p128]; exact hNl)
  have HST := Lib.hid hst
  have HND := Lib.hid hN
  clear hst
  rw [hN]
  obtain ⟨n, hn⟩ : ∃ n, w.heap.size = n := ⟨_, rfl⟩
  go_enter Tryz.func118, Tryz.ntmps118
  go_wp2_with fail
  have hb0 : Below w.heap.size w ((((((w.alloc (.cells #[.int .u64 (H : Int), .int .u64 (L : Int)] 114)).alloc (.cells #[.int .u64 0, .int .u64 (D : Int)] 114)).alloc (.cells #[.int .u64 0, .int .u64 0] 114)).alloc (.cells #[.int .u64 0, .int .u64 0] 114)).alloc (.cells #[.int .u64 0, .int .u64 0] 114)).alloc (.cells #[.int .u64 0, .int .u64 0] 114)) := by repeat' (first | exact Below.refl _ _ | assumption | refine Below.more ?_ ?_ _ | refine Below.alloc ?_ ?_ _ | refine Below.drew ?_ | refine below_drewN ?_ _ | refine Below.setCell ?_ ?_ _ | exact Below.size (by assumption) | (simp [go_sem, size_more]; done) | (simp [go_sem, size_more]; omega))
  rw [hn] at hb0
  have hst0 : DvSt ((((((w.alloc (.cells #[.int .u64 (H : Int), .int .u64 (L : Int)] 114)).alloc (.cells #[.int .u64 0, .int .u64 (D : Int)] 114)).alloc (.cells #[.int .u64 0, .int .u64 0] 114)).alloc (.cells #[.int .u64 0, .int .u64 0] 114)).alloc (.cells #[.int .u64 0, .int .u64 0] 114)).alloc (.cells #[.int .u64 0, .int .u64 0] 114)) n H L D 0 0 0 := by
    subst hn
    refine ⟨⟨?_, ?_, ?_, ?_⟩, ⟨?_, ?_, ?_, ?_⟩, ⟨?_, ?_, ?_, ?_⟩, ⟨?_, ?_, ?_, ?_⟩, ⟨?_, ?_, ?_, ?_⟩, ⟨?_, ?_, ?_, ?_⟩⟩ <;> simp [go_sem]
  go_loopw [8] (fun s8 wr => ∃ i aH aL qH qL rL : Nat, s8 = .int .i64 i ∧ i ≤ 128 ∧ DvSt wr n aH aL D qH qL rL ∧ Below n w wr ∧ aH < 18446744073709551616 ∧ aL < 18446744073709551616 ∧ qH < 18446744073709551616 ∧ qL < 18446744073709551616 ∧ rL < D ∧
    Hid (aH * 18446744073709551616 + aL = N % 2 ^ (128 - i) * 2 ^ i) ∧ Hid (qH * 18446744073709551616 + qL = N / 2 ^ (128 - i) / D) ∧ Hid (rL = N / 2 ^ (128 - i) % D)) (fun q _ => 128 - (intOf q).toNat)
  case atStart => exact ⟨0, H, L, 0, 0, 0, rfl, Nat.zero_le _, hst0, hb0, hH, hL, by decide, by decide, hD, HND.out.trans HST.out.2.2.symm, by show _ = _; rw [HST.out.1], HST.out.2.1.symm⟩
  case round =>
    as_aux_lemma =>
    obtain ⟨i, aH, aL, qH, qL, rL, rfl, hi, st, hb, haH, haL, hqH, hqL, hrL, HA, HQ, HR⟩ := hrel
    clear hst0 hb0
    by_cases hlt : i < 128
    · obtain ⟨bt, a2H, a2L, q2H, q2L, r2, ⟨hbt, x0⟩, ⟨l1, l2, l3, l4⟩, eA, eQ, ⟨eR, hr2⟩, kA, kY, kN⟩ := div_round hD hlt hNl HA.out HQ.out HR.out haL hqL
      have KA := Lib.hid kA
      have KY := Lib.hid kY
      have KN := Lib.hid kN
      have HL := Lib.hid (And.intro l1 (And.intro l2 (And.intro l3 (And.intro l4 hr2))))
      have x1 : (aH : Int) / 9223372036854775808 = (bt : Int) := by omega
      have HHS := Lib.hid (fun W => r3shift_any aH aL 0 a2H a2L W haH haL (by decide) eA l2)
      have HHR := Lib.hid (fun W => r3shift_any 0 rL bt 0 r2 W (by decide) (by omega) hbt (by rw [Nat.zero_mul, Nat.zero_add, Nat.zero_add, Nat.mod_eq_of_lt (by omega)]; exact eR) (by omega))
      have HHQ := Lib.hid (fun W => r3shift_any qH qL 0 q2H q2L W hqH hqL (by decide) eQ (by omega))
      have HHL := Lib.hid (fun W => (r3less_any 0 r2 0 D W).mono fun e w' ⟨h1, h2⟩ => (⟨h1.trans (ret_bool (by simp)), h2⟩ : e = Ending.returned (.bool (decide (r2 < D))) ∧ Below W.heap.size W w'))
      have HHM := Lib.hid (fun W (h : D ≤ r2) => r3minus_any 0 r2 0 D 0 (r2 - D) W (by decide) (by omega) (by decide) (by omega) (by simp only [Nat.zero_mul, Nat.zero_add]; exact Nat.sub_add_cancel h) (by omega))
      have x2 : IntKind.i64.wrap ((i : Int) + 1) = i + 1 := IntWalk.i64_in _ (by omega)
      have X3 : Hid (IntKind.u64.wrap ((q2L : Int) + 1) = ((q2L + 1 : Nat) : Int)) := by show _ = _; rw [IntKind.wrap_u64]; omega
      clear eA eQ eR kA kY kN l1 l2 l3 l4 hr2 HA HQ HR x0
      obtain ⟨a0, a1, fa0, fa1⟩ := st.A
      obtain ⟨b0, b1, fb0, fb1⟩ := st.B
      obtain ⟨q0, q1, fq0, fq1⟩ := st.Q
      obtain ⟨r0, r1, fr0, fr1⟩ := st.R
      go_wp2_with fail
      refine Calls.mono (HHS.out _) ?_
      rintro e w1 ⟨rfl, hb1⟩
      clear a0 a1 fa0 fa1 b0 b1 fb0 fb1 q0 q1 fq0 fq1 r0 r1 fr0 fr1
      have st1 := st.mono hb1
      have hbn : n ≤ wr.heap.size := by have := hb.size; omega
      have hw1 := hb.trans (hb1.mono hbn)
      have st2 := st1.setA a2H a2L
      have hw2 := below_set2 (C := n) hw1 (Nat.le_refl _) (.int .u64 (a2H : Int)) (.int .u64 (a2L : Int))
      clear hb1 st hb
      obtain ⟨a0, a1, fa0, fa1⟩ := st1.A
      obtain ⟨b0, b1, fb0, fb1⟩ := st1.B
      obtain ⟨q0, q1, fq0, fq1⟩ := st1.Q
      obtain ⟨r0, r1, fr0, fr1⟩ := st1.R
      obtain ⟨a0', a1', fa0', fa1'⟩ := st2.A
      obtain ⟨b0', b1', fb0', fb1'⟩ := st2.B
      obtain ⟨q0', q1', fq0', fq1'⟩ := st2.Q
      obtain ⟨r0', r1', fr0', fr1'⟩ := st2.R
      go_wp2_with fail
      refine Calls.mono (HHR.out _) ?_
      rintro e w3 ⟨rfl, hb3⟩
      clear a0 a1 fa0 fa1 b0 b1 fb0 fb1 q0 q1 fq0 fq1 r0 r1 fr0 fr1
      clear a0' a1' fa0' fa1' b0' b1' fb0' fb1' q0' q1' fq0' fq1' r0' r1' fr0' fr1'
      have st3 := st2.mono hb3
      have hs2 := hw2.size
      have hw3 := hw2.trans (hb3.mono (by omega))
      have st4 := st3.setR r2
      have hw4 := below_set2 (C := n + 1 + 1 + 1 + 1 + 1) hw3 (by omega) (.int .u64 0) (.int .u64 (r2 : Int))
      clear hb3 st1 st2 hw1 hw2 hs2
      obtain ⟨a0, a1, fa0, fa1⟩ := st3.A
      obtain ⟨b0, b1, fb0, fb1⟩ := st3.B
      obtain ⟨q0, q1, fq0, fq1⟩ := st3.Q
      obtain ⟨r0, r1, fr0, fr1⟩ := st3.R
      obtain ⟨a0', a1', fa0', fa1'⟩ := st4.A
      obtain ⟨b0', b1', fb0', fb1'⟩ := st4.B
      obtain ⟨q0', q1', fq0', fq1'⟩ := st4.Q
      obtain ⟨r0', r1', fr0', fr1'⟩ := st4.R
      go_wp2_with fail
      refine Calls.mono (HHQ.out _) ?_
      rintro e w5 ⟨rfl, hb5⟩
      clear a0 a1 fa0 fa1 b0 b1 fb0 fb1 q0 q1 fq0 fq1 r0 r1 fr0 fr1
      clear a0' a1' fa0' fa1' b0' b1' fb0' fb1' q0' q1' fq0' fq1' r0' r1' fr0' fr1'
      have st5 := st4.mono hb5
      have hs4 := hw4.size
      have hw5 := hw4.trans (hb5.mono (by omega))
      have st6 := st5.setQ q2H q2L
      have hw6 := below_set2 (C := n + 1 + 1 + 1 + 1) hw5 (by omega) (.int .u64 (q2H : Int)) (.int .u64 (q2L : Int))
      clear hb5 st3 st4 hw3 hw4 hs4
      obtain ⟨a0, a1, fa0, fa1⟩ := st5.A
      obtain ⟨b0, b1, fb0, fb1⟩ := st5.B
      obtain ⟨q0, q1, fq0, fq1⟩ := st5.Q
      obtain ⟨r0, r1, fr0, fr1⟩ := st5.R
      obtain ⟨a0', a1', fa0', fa1'⟩ := st6.A
      obtain ⟨b0', b1', fb0', fb1'⟩ := st6.B
      obtain ⟨q0', q1', fq0', fq1'⟩ := st6.Q
      obtain ⟨r0', r1', fr0', fr1'⟩ := st6.R
      go_wp2_with fail
      refine Calls.mono (HHL.out _) ?_
      rintro e w7 ⟨rfl, hb7⟩
      clear a0 a1 fa0 fa1 b0 b1 fb0 fb1 q0 q1 fq0 fq1 r0 r1 fr0 fr1
      clear a0' a1' fa0' fa1' b0' b1' fb0' fb1' q0' q1' fq0' fq1' r0' r1' fr0' fr1'
      have st7 := st6.mono hb7
      have hs6 := hw6.size
      have hw7 := hw6.trans (hb7.mono (by omega))
      clear hb7 st5 st6 hw5 hw6 hs6
      by_cases hge : D ≤ r2
      · have u := decide_eq_false (show ¬ r2 < D by omega)
        rw [u]
        obtain ⟨a0, a1, fa0, fa1⟩ := st7.A
        obtain ⟨b0, b1, fb0, fb1⟩ := st7.B
        obtain ⟨q0, q1, fq0, fq1⟩ := st7.Q
        obtain ⟨r0, r1, fr0, fr1⟩ := st7.R
        go_wp2_with fail
        refine Calls.mono (HHM.out _ hge) ?_
        rintro e w8 ⟨rfl, hb8⟩
        clear a0 a1 fa0 fa1 b0 b1 fb0 fb1 q0 q1 fq0 fq1 r0 r1 fr0 fr1
        have st8 := st7.mono hb8
        have hs7 := hw7.size
        have hw8 := hw7.trans (hb8.mono (by omega))
        have st9 := st8.setR (r2 - D)
        have hw9 := below_set2 (C := n + 1 + 1 + 1 + 1 + 1) hw8 (by omega) (.int .u64 0) (.int .u64 ((r2 - D : Nat) : Int))
        have st10 := st9.setQ1 (q2L + 1)
        have hw10 := hw9.setCell (p := ⟨n + 1 + 1 + 1 + 1, 1, none⟩) (by show n ≤ n + 1 + 1 + 1 + 1; omega) (.int .u64 ((q2L + 1 : Nat) : Int))
        obtain ⟨rd, hrd⟩ : ∃ z, r2 - D = z := ⟨_, rfl⟩
        obtain ⟨qi, hqi⟩ : ∃ z, q2L + 1 = z := ⟨_, rfl⟩
        have x3 := X3.out
        rw [hrd] at st9 st10 hw9 hw10 ⊢
        rw [hqi] at st10 hw10 x3
        have HZ := Lib.hid (And.intro hrd hqi)
        have HS10 := Lib.hid st10
        have HW10 := Lib.hid hw10
        clear hb8 st7 hw7 hs7 hrd hqi st10 hw9 hw10 hw8
        obtain ⟨a0, a1, fa0, fa1⟩ := st8.A
        obtain ⟨b0, b1, fb0, fb1⟩ := st8.B
        obtain ⟨q0, q1, fq0, fq1⟩ := st8.Q
        obtain ⟨r0, r1, fr0, fr1⟩ := st8.R
        obtain ⟨a0', a1', fa0', fa1'⟩ := st9.A
        obtain ⟨b0', b1', fb0', fb1'⟩ := st9.B
        obtain ⟨q0', q1', fq0', fq1'⟩ := st9.Q
        obtain ⟨r0', r1', fr0', fr1'⟩ := st9.R
        clear st8 st9
        go_wp2_with fail
        go_roundw
        case measure => simp [intOf]; omega
        case rel =>
          obtain ⟨l1, l2, l3, l4, l5⟩ := HL.out
          obtain ⟨rfl, rfl⟩ := HZ.out
          exact ⟨i + 1, a2H, a2L, q2H, q2L + 1, r2 - D, by go_num, by omega, HS10.out, HW10.out, l1, l2, l3, l4, by omega, KA.out, (KY.out hge).1, (KY.out hge).2⟩
      · have u := decide_eq_true (show r2 < D by omega)
        rw [u]
        obtain ⟨a0, a1, fa0, fa1⟩ := st7.A
        obtain ⟨b0, b1, fb0, fb1⟩ := st7.B
        obtain ⟨q0, q1, fq0, fq1⟩ := st7.Q
        obtain ⟨r0, r1, fr0, fr1⟩ := st7.R
        have HS7 := Lib.hid st7
        clear st7
        go_wp2_with fail
        go_roundw
        case measure => simp [intOf]; omega
        case rel =>
          obtain ⟨l1, l2, l3, l4, l5⟩ := HL.out
          exact ⟨i + 1, a2H, a2L, q2H, q2L, r2, by go_num, by omega, HS7.out, hw7, l1, l2, l3, by omega, by omega, KA.out, (KN.out hge).1, (KN.out hge).2⟩
    · obtain rfl : i = 128 := by omega
      obtain ⟨a0, a1, fa0, fa1⟩ := st.P
      obtain ⟨b0, b1, fb0, fb1⟩ := st.S
      obtain ⟨q0, q1, fq0, fq1⟩ := st.Q
      obtain ⟨r0, r1, fr0, fr1⟩ := st.R
      have hz1 := st.P.lt
      have hfin : Hid (Below n w ((((wr.setCell ⟨n + 1 + 1, 0, none⟩ (.int .u64 (qH : Int))).setCell ⟨n + 1 + 1, 1, none⟩ (.int .u64 (qL : Int))).setCell ⟨n + 1 + 1 + 1, 0, none⟩ (.int .u64 0)).setCell ⟨n + 1 + 1 + 1, 1, none⟩ (.int .u64 (rL : Int)))) :=
        below_set2 (below_set2 hb (by omega) _ _) (by omega) _ _
      clear hb
      go_wp2_with fail
      go_region
      go_wp2_with fail
      have he := HQ.out
      have he2 := HR.out
      rw [(div_end (N := N) (D := D)).1] at he
      rw [(div_end (N := N) (D := D)).2] at he2
      rw [hn]
      exact bodyPost_ret (v := .tuple #[vU qH qL, vU 0 rL]) (by simp (maxDischargeDepth := 9) [results, Tryz.results118, go_sem, a0, a1, b0, b1]) rfl ⟨⟨qH, qL, rL, rfl, hqL, he, he2⟩, hfin.out.drew⟩

end Go.Proofs.YtjgfgbiohbgcaaaGreat
