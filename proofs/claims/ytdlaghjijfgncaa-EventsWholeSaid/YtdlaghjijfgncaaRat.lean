/- Fractions: size, common, Make on both sides. Conditions: 0 <= num <= 2^30, 1 <= den <= 2^30. -/
import Derived.Test.YtdlaghjijfgncaaRows
import Derived.Test.YtdlaghjijfgncaaMBase
import Derived.BigRegion
import Derived.Deep.QuietTactic
import Derived.BigQuiet
namespace Go.Proofs.Ytdlaghjijfgncaa
open Go.RowKit
set_option linter.unusedVariables false
set_option linter.unusedSimpArgs false

theorem size_any (n : Int) (w : World) (h0 : 0 ≤ n) (h1 : n ≤ 1073741824) : Calls Try.prog 62 #[.int .i64 n] w fun e w' => e = .returned (.int .u64 n) ∧ w = w' := by
  go_enter Try.func62, Try.ntmps62
  go_wp2_with fail
  go_ret
  exact ⟨ret_int (by first | rfl | (simp; omega)), rfl⟩

theorem gcd_step (x y : Nat) (h : 0 < y) : Nat.gcd y (x % y) = Nat.gcd x y := by
  rw [Nat.gcd_comm x y, Nat.gcd_rec y x, Nat.gcd_comm]

set_option maxHeartbeats 1000000 in
theorem common_any (a b : Nat) (w : World) (ha : a ≤ 1073741824) (hb : b ≤ 1073741824) : Calls Try.prog 63 #[.int .u64 a, .int .u64 b] w fun e w' => e = .returned (.int .u64 (Nat.gcd a b)) ∧ ∃ q, w' = w.drewN q := by
  go_enter Try.func63, Try.ntmps63
  go_wp2_with fail
  go_loopw [0, 1] (fun s0 s1 wr => ∃ x y : Nat, s0 = .int .u64 x ∧ s1 = .int .u64 y ∧ x ≤ 1073741824 ∧ y ≤ 1073741824 ∧ Hid (Nat.gcd x y = Nat.gcd a b) ∧ ∃ q, wr = w.drewN q) (fun _ s _ => (intOf s).toNat)
  case atStart => exact ⟨a, b, rfl, rfl, ha, hb, rfl, 0, rfl⟩
  case round =>
    obtain ⟨x, y, rfl, rfl, hx, hy, hg, q0, rfl⟩ := hrel
    by_cases h : 0 < y
    · have y0 : ((y : Int) != 0) = true := by rw [bne_iff_ne]; omega
      have y1 : ((y : Int) == 0) = false := by rw [beq_eq_false_iff_ne]; omega
      have hlt : x % y < y := Nat.mod_lt _ h
      have HG2 : Hid (Nat.gcd y (x % y) = Nat.gcd a b) := by show _ = _; rw [gcd_step x y h]; exact hg.out
      have hm : ((x : Int)).tmod y = ((x % y : Nat) : Int) := by rw [Int.tmod_eq_emod_of_nonneg (by omega)]; rfl
      have hm2 : (x : Int) % y = ((x % y : Nat) : Int) := rfl
      generalize x % y = r at *
      have hw : IntKind.u64.wrap ((r : Nat) : Int) = r := by simp [IntKind.wrap, IntKind.bits, IntKind.signed]; omega
      go_wp2_with fail
      go_quiet (fail)
      go_wp2_with fail
      go_roundw
      case measure => simp [intOf]; omega
      case rel => exact ⟨y, r, rfl, rfl, by omega, by omega, HG2.out, _, World.drewN_drewN _ _ _⟩
    · obtain rfl : y = 0 := by omega
      have y0 : (((0 : Nat) : Int) != 0) = false := by simp
      have hg' : Hid (x = Nat.gcd a b) := by show _ = _; rw [← hg.out, Nat.gcd_zero_right]
      clear hg
      go_wp2_with fail
      go_ret
      exact ⟨ret_int (by rw [← hg'.out]), _, rfl⟩

/-- What Make hands back for a number from 0 on and a positive one. -/
def MakeIs (n d : Nat) (e : Ending) : Prop := e = .returned (.tuple #[.agg #[.int .i64 ((n / Nat.gcd n d : Nat) : Int), .int .i64 ((d / Nat.gcd n d : Nat) : Int)], .int .i64 0])

theorem u64_wrap (r : Nat) (h : r ≤ 1073741824) : IntKind.u64.wrap ((r : Nat) : Int) = r := by simp [IntKind.wrap, IntKind.bits, IntKind.signed]; omega

set_option maxRecDepth 100000 in
set_option maxHeartbeats 2000000 in
theorem make_any (n d : Nat) (w : World) (hn : n ≤ 1073741824) (hd1 : 1 ≤ d) (hd2 : d ≤ 1073741824) :
    Calls Try.prog 45 #[.int .i64 n, .int .i64 d] w fun e w' => MakeIs n d e ∧ Below w.heap.size w w' := by
  unfold MakeIs
  have hg : 0 < Nat.gcd n d := Nat.gcd_pos_of_pos_right _ (by omega)
  have hnn : n / Nat.gcd n d ≤ n := Nat.div_le_self _ _
  have hdd : d / Nat.gcd n d ≤ d := Nat.div_le_self _ _
  have hgd : Nat.gcd n d ≤ d := Nat.gcd_le_right _ (by omega)
  have d0 : ((d : Int) == 0) = false := by rw [beq_eq_false_iff_ne]; omega
  obtain ⟨N, hN⟩ : ∃ N, n / Nat.gcd n d = N := ⟨_, rfl⟩
  obtain ⟨D, hD⟩ : ∃ D, d / Nat.gcd n d = D := ⟨_, rfl⟩
  rw [hN] at hnn ⊢
  rw [hD] at hdd ⊢
  obtain ⟨g, hgg⟩ : ∃ g, Nat.gcd n d = g := ⟨_, rfl⟩
  rw [hgg] at hN hD hg hgd
  have t1 : ((n : Int)).tdiv g = (N : Int) := by rw [Int.tdiv_eq_ediv_of_nonneg (by omega), ← hN]; rfl
  have t2 : ((d : Int)).tdiv g = (D : Int) := by rw [Int.tdiv_eq_ediv_of_nonneg (by omega), ← hD]; rfl
  have t3 : (n : Int) / g = (N : Int) := by rw [← hN]; rfl
  have t4 : (d : Int) / g = (D : Int) := by rw [← hD]; rfl
  have HG := Lib.hid hgg
  have u1 := u64_wrap N (by omega)
  have u2 := u64_wrap D (by omega)
  have g0 : ((g : Int) == 0) = false := by rw [beq_eq_false_iff_ne]; omega
  have T1 := Lib.hid t1; have T2 := Lib.hid t2; have T3 := Lib.hid t3; have T4 := Lib.hid t4; have U1 := Lib.hid u1; have U2 := Lib.hid u2
  clear hN hD hgg t1 t2 t3 t4 u1 u2
  go_enter Try.func45, Try.ntmps45
  go_wp2_with fail
  refine (size_any _ _ (by omega) (by omega)).mono ?_
  rintro e w1 ⟨rfl, rfl⟩
  go_wp2_with fail
  refine (size_any _ _ (by omega) (by omega)).mono ?_
  rintro e w1 ⟨rfl, rfl⟩
  go_wp2_with fail
  refine (common_any n d _ hn hd2).mono ?_
  rintro e w1 ⟨rfl, q1, rfl⟩
  rw [HG.out]
  go_wp2_with fail
  have t1 := T1.out; have t2 := T2.out; have t3 := T3.out; have t4 := T4.out; have u1 := U1.out; have u2 := U2.out
  go_quiet (fail)
  clear t1 t2 t3 t4 u1 u2
  go_wp2_with fail
  exact bodyPost_ret (v := .tuple #[.agg #[.int .i64 N, .int .i64 D], .int .i64 0]) (by simp (maxDischargeDepth := 9) [results, Try.results45, go_sem]) rfl ⟨rfl, by repeat' (first | exact Below.refl _ _ | assumption | refine Below.more ?_ ?_ _ | refine Below.alloc ?_ ?_ _ | refine Below.drew ?_ | refine below_drewN ?_ _ | refine Below.setCell ?_ ?_ _ | exact Below.size (by assumption) | (simp [go_sem, size_more]; done) | (simp [go_sem, size_more]; omega))⟩

set_option maxRecDepth 100000 in
set_option maxHeartbeats 2000000 in
theorem rmake_any (n d : Nat) (w : World) (hn : n ≤ 1073741824) (hd1 : 1 ≤ d) (hd2 : d ≤ 1073741824) :
    Calls Try.prog 48 #[.int .i64 n, .int .i64 d] w fun e w' => MakeIs n d e ∧ Below w.heap.size w w' := by
  unfold MakeIs
  have d0 : ((d : Int) == 0) = false := by rw [beq_eq_false_iff_ne]; omega
  have hg : 0 < Nat.gcd n d := Nat.gcd_pos_of_pos_right _ (by omega)
  have hnn : n / Nat.gcd n d ≤ n := Nat.div_le_self _ _
  have hdd : d / Nat.gcd n d ≤ d := Nat.div_le_self _ _
  have hgd : Nat.gcd n d ≤ d := Nat.gcd_le_right _ (by omega)
  have hD1 : 1 ≤ d / Nat.gcd n d := Nat.div_pos hgd hg
  obtain ⟨N, hN⟩ : ∃ N, n / Nat.gcd n d = N := ⟨_, rfl⟩
  obtain ⟨D, hD⟩ : ∃ D, d / Nat.gcd n d = D := ⟨_, rfl⟩
  rw [hN] at hnn ⊢
  rw [hD] at hdd hD1 ⊢
  obtain ⟨g, hgg⟩ : ∃ g, Nat.gcd n d = g := ⟨_, rfl⟩
  rw [hgg] at hN hD hg hgd
  have hx0 : ∀ A : Int, A = -(g : Int) → (n : Int).tdiv A = -(N : Int) ∧ (d : Int).tdiv A = -(D : Int) := by
    rintro A rfl
    rw [Int.tdiv_neg, Int.tdiv_neg, Int.tdiv_eq_ediv_of_nonneg (by omega), Int.tdiv_eq_ediv_of_nonneg (by omega), ← hN, ← hD]
    exact ⟨rfl, rfl⟩
  have HX := Lib.hid hx0
  have HG := Lib.hid hgg
  clear hN hD hgg hx0
  have key : ∀ (A0 : Int), A0 = -(n : Int) → True := fun _ _ => trivial
  clear key
  by_cases hn0 : 0 < (n : Int)
  all_goals
    go_enter Try.func48, Try.ntmps48
    go_wp2_with fail
    go_loopw [6, 7] (fun s6 s7 wr => ∃ (x y : Nat) (A B : Int), s6 = .int .i64 A ∧ s7 = .int .i64 B ∧ x ≤ 1073741824 ∧ y ≤ 1073741824 ∧ Hid (A = -(x : Int)) ∧ Hid (B = -(y : Int)) ∧ Hid (Nat.gcd x y = g) ∧ ∃ q, wr = (w.alloc (.cells #[.int .i64 0, .int .i64 0] 40)).drewN q) (fun _ b _ => (-(intOf b)).toNat)
    case atStart => exact ⟨n, d, _, _, rfl, rfl, hn, hd2, by show _ = _; omega, by show _ = _; omega, HG.out, 0, rfl⟩
    case round =>
      obtain ⟨x, y, A, B, rfl, rfl, hx, hy, hA, hB, hxy, q0, rfl⟩ := hrel
      have A1 : A ≤ 0 := by have := hA.out; omega
      have A2 : -1073741824 ≤ A := by have := hA.out; omega
      have B1 : B ≤ 0 := by have := hB.out; omega
      have B2 : -1073741824 ≤ B := by have := hB.out; omega
      by_cases h : 0 < y
      · have b0 : (B != 0) = true := by rw [bne_iff_ne]; have := hB.out; omega
        have b1 : (B == 0) = false := by rw [beq_eq_false_iff_ne]; have := hB.out; omega
        have b2 : ¬ B = 0 := by have := hB.out; omega
        have hlt : x % y < y := Nat.mod_lt _ h
        have HG2 : Hid (Nat.gcd y (x % y) = g) := by show _ = _; rw [gcd_step x y h]; exact hxy.out
        have hm : A.tmod B = -((x % y : Nat) : Int) := by
          rw [hA.out, hB.out, Int.neg_tmod, Int.tmod_neg, Int.tmod_eq_emod_of_nonneg (by omega)]; rfl
        have hmeas : Hid (x % y < y) := hlt
        generalize x % y = r at *
        have hr30 : r ≤ 1073741824 := by omega
        obtain ⟨C, hC⟩ : ∃ C : Int, -(r : Int) = C := ⟨_, rfl⟩
        rw [hC] at hm
        have HC := Lib.hid hC
        have C1 : C ≤ 0 := by omega
        have C2 : -1073741824 ≤ C := by omega
        have hw : IntKind.i64.wrap C = C := IntWalk.i64_in _ (by omega)
        have HM := Lib.hid hm; have HW := Lib.hid hw
        clear hC hm hw hlt
        go_wp2_with fail
        have hm := HM.out; have hw := HW.out
        go_quiet (fail)
        clear hm hw
        go_wp2_with fail
        go_roundw
        case measure => have h1 := hB.out; have h2 := HC.out; have h3 := hmeas.out; simp [intOf]; omega
        case rel => exact ⟨y, r, B, C, rfl, rfl, by omega, by omega, hB.out, HC.out.symm, HG2.out, _, World.drewN_drewN _ _ _⟩
      · have hg' : Hid (A = -(g : Int)) := by
          show _ = _
          have h1 := hxy.out
          rw [show y = 0 by omega, Nat.gcd_zero_right] at h1
          rw [hA.out, h1]
        have b0 : (B != 0) = false := by rw [bne_eq_false_iff_eq]; have := hB.out; omega
        have a0 : (A == 0) = false := by rw [beq_eq_false_iff_ne]; have := hg'.out; omega
        have a1 : ¬ A = 0 := by have := hg'.out; omega
        have n1 : (N : Int) ≤ 1073741824 := by omega
        have n2 : (D : Int) ≤ 1073741824 := by omega
        have n3 : 0 < D := by omega
        have n4 : (1 : Int) ≤ D := by omega
        have n5 : -1073741824 ≤ (N : Int) := by omega
        obtain ⟨t1, t2⟩ := HX.out A hg'.out
        go_wp2_with fail
        exact bodyPost_ret (v := .tuple #[.agg #[.int .i64 N, .int .i64 D], .int .i64 0]) (by simp (maxDischargeDepth := 9) [results, Try.results48, go_sem]) rfl ⟨rfl, by repeat' (first | exact Below.refl _ _ | assumption | refine Below.more ?_ ?_ _ | refine Below.alloc ?_ ?_ _ | refine Below.drew ?_ | refine below_drewN ?_ _ | refine Below.setCell ?_ ?_ _ | exact Below.size (by assumption) | (simp [go_sem, size_more]; done) | (simp [go_sem, size_more]; omega))⟩

end Go.Proofs.Ytdlaghjijfgncaa
