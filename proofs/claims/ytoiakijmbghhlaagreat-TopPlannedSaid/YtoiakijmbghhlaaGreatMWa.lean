/- Division of numbers of two digits, plainly: the school method's two steps (math/bits.Div64), and division by shifts (the reference's). No function of the program is named. Conditions: none. | math/bits.Mul64, LeadingZeros64, Add64, Sub64: the shelf's contracts laid here, in plain words. Conditions: the numbers in range. | The reference's wide numbers (layer 3): magnitudes of two parts, their sums, differences, products and quotients; floors and ceilings. Conditions: the numbers are not negative and in range. | The reference's division of magnitudes, and floors and ceilings of quotients. Conditions: the numbers are not negative, the divisor is positive. | Floors and ceilings of products over a divisor, the reference's side. Conditions: the numbers are not negative, the divisor is positive, the quotient is an int. -/
import Derived.Test.YtoiakijmbghhlaaGreatMBase
import Derived.Lib.BitFns
import Derived.Test.YtoiakijmbghhlaaGreatProg
import Derived.Shelf.Small.Bits
import Derived.Shelf.Bits.Mul64
import Derived.Shelf.Spec.BitsCarry
import Derived.Ground.NamesProg
import Derived.BigRegion
import Derived.Deep.QuietTactic
import Derived.BigQuiet
import Derived.Deep.RegionLaw
namespace Go.Proofs.YtoiakijmbghhlaaGreat

theorem knuth_gt {yn1 yn0 u c q rh : Nat} (h : q * yn1 + rh = u) (hy : 0 < yn1 * 4294967296 + yn0) :
    (4294967296 * rh + c < q * yn0) ↔ (u * 4294967296 + c) / (yn1 * 4294967296 + yn0) < q := by
  rw [Nat.div_lt_iff_lt_mul hy, Nat.mul_add, ← Nat.mul_assoc]
  generalize q * yn1 = A at *
  generalize q * yn0 = B at *
  omega
theorem knuth_lt32 {y u c : Nat} (hu : u < y) (hc : c < 4294967296) : (u * 4294967296 + c) / y < 4294967296 := by
  rw [Nat.div_lt_iff_lt_mul (by omega)]
  have : (u + 1) * 4294967296 ≤ y * 4294967296 := Nat.mul_le_mul_right _ hu
  rw [Nat.mul_comm 4294967296 y]
  omega
/-- Behind a break the digit is below 2^32. -/
theorem knuth_brk {yn1 yn0 u q rh : Nat} (h : q * yn1 + rh = u) (hu : u < yn1 * 4294967296 + yn0) (h0 : yn0 < 4294967296) (hr : 4294967296 ≤ rh) : q < 4294967296 := by
  have h1 : q * yn1 < 4294967296 * yn1 := by omega
  exact Nat.lt_of_mul_lt_mul_right h1
theorem knuth_first {yn1 yn0 u c : Nat} (h1 : 0 < yn1) : (u * 4294967296 + c) / (yn1 * 4294967296 + yn0) ≤ u / yn1 ∨ 4294967296 ≤ c := by
  by_cases hc : 4294967296 ≤ c
  · exact .inr hc
  · left
    rw [Nat.le_div_iff_mul_le h1]
    have h2 := Nat.div_mul_le_self (u * 4294967296 + c) (yn1 * 4294967296 + yn0)
    generalize (u * 4294967296 + c) / (yn1 * 4294967296 + yn0) = q at *
    rw [Nat.mul_add, ← Nat.mul_assoc] at h2
    generalize q * yn1 = A at *
    generalize q * yn0 = B at *
    omega
/-- The two digits and the rest. -/
theorem knuth_two {y a b c P : Nat} (hy : 0 < y) (q1 r1 q0 r0 : Nat) (h1 : a * P + b = q1 * y + r1) (h0 : r1 * P + c = q0 * y + r0) (hr : r0 < y) :
    ((a * P + b) * P + c) / y = q1 * P + q0 ∧ ((a * P + b) * P + c) % y = r0 := by
  have e : (a * P + b) * P + c = y * (q1 * P + q0) + r0 := by
    rw [h1, Nat.add_mul, Nat.add_assoc, h0, Nat.mul_add, Nat.mul_comm y q0, Nat.mul_left_comm y q1 P, ← Nat.mul_assoc, Nat.add_assoc]
  rw [e]
  constructor
  · rw [Nat.mul_add_div hy, Nat.div_eq_of_lt hr, Nat.add_zero]
  · rw [Nat.mul_add_mod, Nat.mod_eq_of_lt hr]
/-- Shifting both by s changes the quotient not at all, and the rest by the same shift. -/
theorem shift_div {N y s : Nat} : N * 2 ^ s / (y * 2 ^ s) = N / y ∧ N * 2 ^ s % (y * 2 ^ s) = (N % y) * 2 ^ s :=
  ⟨Nat.mul_div_mul_right _ _ (Nat.two_pow_pos s), Nat.mul_mod_mul_right _ _ _⟩
/-! ### Division by shifts -/
theorem bit_split (N k : Nat) : N % 2 ^ (k + 1) = 2 ^ k * (N / 2 ^ k % 2) + N % 2 ^ k := by
  rw [Nat.pow_succ, Nat.mod_mul]
  omega
theorem half_split (N k : Nat) : N / 2 ^ k = 2 * (N / 2 ^ (k + 1)) + N / 2 ^ k % 2 := by
  rw [Nat.pow_succ, ← Nat.div_div_eq_div_mul]
  omega
theorem shl_step {N i : Nat} (hi : i < 128) :
    N % 2 ^ (128 - i) * 2 ^ i / 2 ^ 127 = N / 2 ^ (128 - (i + 1)) % 2 ∧ N % 2 ^ (128 - i) * 2 ^ i * 2 % 2 ^ 128 = N % 2 ^ (128 - (i + 1)) * 2 ^ (i + 1) ∧ N % 2 ^ (128 - i) * 2 ^ i < 2 ^ 128 := by
  obtain ⟨k, hk⟩ : ∃ k, 128 - i = k + 1 := ⟨127 - i, by omega⟩
  have hk2 : 128 - (i + 1) = k := by omega
  rw [hk, hk2]
  have hi2 : 127 = k + i := by omega
  have hm : N % 2 ^ k < 2 ^ k := Nat.mod_lt _ (Nat.two_pow_pos k)
  have hb : N / 2 ^ k % 2 < 2 := Nat.mod_lt _ (by decide)
  have e1 : N % 2 ^ (k + 1) * 2 ^ i = 2 ^ 127 * (N / 2 ^ k % 2) + N % 2 ^ k * 2 ^ i := by
    rw [bit_split, Nat.add_mul, hi2, Nat.pow_add, Nat.mul_right_comm]
  have hlt : N % 2 ^ k * 2 ^ i < 2 ^ 127 := by
    rw [hi2, Nat.pow_add]
    exact Nat.mul_lt_mul_of_pos_right hm (Nat.two_pow_pos i)
  have e2 : N % 2 ^ k * 2 ^ (i + 1) = 2 * (N % 2 ^ k * 2 ^ i) := by rw [Nat.pow_succ, ← Nat.mul_assoc, Nat.mul_comm]
  rw [e1, e2]
  generalize N % 2 ^ k * 2 ^ i = m at *
  generalize N / 2 ^ k % 2 = b at *
  refine ⟨?_, ?_, ?_⟩ <;> omega
theorem quo_step {M b D : Nat} (hD : 0 < D) (hb : b < 2) :
    (2 * M + b) / D = 2 * (M / D) + (if D ≤ 2 * (M % D) + b then 1 else 0) ∧ (2 * M + b) % D = (if D ≤ 2 * (M % D) + b then 2 * (M % D) + b - D else 2 * (M % D) + b) := by
  have h := Nat.div_add_mod M D
  have hr := Nat.mod_lt M hD
  generalize M / D = q at *
  generalize M % D = r at *
  have e : 2 * M + b = D * (2 * q) + (2 * r + b) := by
    rw [← h, Nat.mul_add, Nat.mul_left_comm]; omega
  rw [e]
  by_cases hc : D ≤ 2 * r + b
  · rw [if_pos hc, if_pos hc]
    have e2 : D * (2 * q) + (2 * r + b) = D * (2 * q + 1) + (2 * r + b - D) := by rw [Nat.mul_add, Nat.mul_one]; omega
    rw [e2, Nat.mul_add_div hD, Nat.mul_add_mod]
    have h3 : 2 * r + b - D < D := by omega
    rw [Nat.div_eq_of_lt h3, Nat.mod_eq_of_lt h3]
    exact ⟨rfl, rfl⟩
  · rw [if_neg hc, if_neg hc]
    have h3 : 2 * r + b < D := by omega
    rw [Nat.mul_add_div hD, Nat.mul_add_mod, Nat.div_eq_of_lt h3, Nat.mod_eq_of_lt h3]
    exact ⟨rfl, rfl⟩
theorem div_step {N D i : Nat} (hD : 0 < D) (hi : i < 128) :
    N / 2 ^ (128 - (i + 1)) / D = 2 * (N / 2 ^ (128 - i) / D) + (if D ≤ 2 * (N / 2 ^ (128 - i) % D) + N / 2 ^ (128 - (i + 1)) % 2 then 1 else 0) ∧
    N / 2 ^ (128 - (i + 1)) % D = (if D ≤ 2 * (N / 2 ^ (128 - i) % D) + N / 2 ^ (128 - (i + 1)) % 2 then 2 * (N / 2 ^ (128 - i) % D) + N / 2 ^ (128 - (i + 1)) % 2 - D else 2 * (N / 2 ^ (128 - i) % D) + N / 2 ^ (128 - (i + 1)) % 2) := by
  obtain ⟨k, hk⟩ : ∃ k, 128 - i = k + 1 := ⟨127 - i, by omega⟩
  have hk2 : 128 - (i + 1) = k := by omega
  rw [hk, hk2]
  have e := half_split N k
  have hb : N / 2 ^ k % 2 < 2 := Nat.mod_lt _ (by decide)
  have h := quo_step (M := N / 2 ^ (k + 1)) (b := N / 2 ^ k % 2) hD hb
  rw [← e] at h
  exact h
theorem div_start {N D : Nat} (hN : N < 2 ^ 128) : N / 2 ^ (128 - 0) / D = 0 ∧ N / 2 ^ (128 - 0) % D = 0 ∧ N % 2 ^ (128 - 0) * 2 ^ 0 = N := by
  have h1 : N / 2 ^ 128 = 0 := Nat.div_eq_of_lt hN
  have h2 : N % 2 ^ 128 = N := Nat.mod_eq_of_lt hN
  simp only [Nat.sub_zero, h1, h2, Nat.zero_div, Nat.zero_mod, Nat.pow_zero, Nat.mul_one, and_self]
theorem div_end {N D : Nat} : N / 2 ^ (128 - 128) / D = N / D ∧ N / 2 ^ (128 - 128) % D = N % D := by simp

/-! ### How many bits -/
theorem bitLen_pow : ∀ (n x : Nat), x ≤ n → x < 2 ^ 64 → x ≠ 0 → ∃ b, Lib.bitLen x = b + 1 ∧ 2 ^ b ≤ x ∧ x < 2 ^ (b + 1)
  | 0, x, h, _, h0 => absurd (Nat.le_zero.1 h) h0
  | n + 1, x, h, hx, h0 => by
    have e := Lib.bitLen_half x h0 hx
    by_cases h1 : x / 2 = 0
    · have : x = 1 := by omega
      subst this
      exact ⟨0, by rw [e]; rfl, by decide, by decide⟩
    · obtain ⟨b, e1, e2, e3⟩ := bitLen_pow n (x / 2) (by omega) (by omega) h1
      refine ⟨b + 1, by rw [e, e1]; omega, ?_, ?_⟩
      · rw [Nat.pow_succ]; omega
      · rw [Nat.pow_succ]; omega
/-- The shift that makes a divisor great. -/
theorem norm_shift {y : Nat} (h0 : 0 < y) (hy : y < 2 ^ 64) : ∃ s, s ≤ 63 ∧ Lib.bitLen y + s = 64 ∧ 2 ^ 63 ≤ y * 2 ^ s ∧ y * 2 ^ s < 2 ^ 64 := by
  obtain ⟨b, e1, e2, e3⟩ := bitLen_pow y y (Nat.le_refl _) hy (by omega)
  have hb : b ≤ 63 := by
    by_cases q : b ≤ 63
    · exact q
    · have h64 : 2 ^ 64 ≤ 2 ^ b := Nat.pow_le_pow_right (by decide) (by omega)
      omega
  refine ⟨63 - b, by omega, by omega, ?_, ?_⟩
  · have : 2 ^ b * 2 ^ (63 - b) = 2 ^ 63 := by rw [← Nat.pow_add]; congr 1; omega
    rw [← this]
    exact Nat.mul_le_mul_right _ e2
  · have : 2 ^ (b + 1) * 2 ^ (63 - b) = 2 ^ 64 := by rw [← Nat.pow_add]; congr 1; omega
    rw [← this]
    exact Nat.mul_lt_mul_of_pos_right e3 (Nat.two_pow_pos _)

theorem shift_split {hi lo s : Nat} (hlo : lo < 2 ^ 64) (hs : s ≤ 63) :
    (hi * 2 ^ 64 + lo) * 2 ^ s = (hi * 2 ^ s + lo / 2 ^ (64 - s)) * 2 ^ 64 + lo * 2 ^ s % 2 ^ 64 ∧ lo / 2 ^ (64 - s) < 2 ^ s ∧ lo * 2 ^ s / 2 ^ 64 = lo / 2 ^ (64 - s) := by
  have e : 2 ^ 64 = 2 ^ (64 - s) * 2 ^ s := by rw [← Nat.pow_add]; congr 1; omega
  have h1 : lo * 2 ^ s / 2 ^ 64 = lo / 2 ^ (64 - s) := by rw [e, Nat.mul_div_mul_right _ _ (Nat.two_pow_pos s)]
  have h2 := Nat.div_add_mod (lo * 2 ^ s) (2 ^ 64)
  rw [h1] at h2
  refine ⟨?_, ?_, h1⟩
  · rw [Nat.add_mul, Nat.add_mul, Nat.mul_right_comm]
    omega
  · rw [Nat.div_lt_iff_lt_mul (Nat.two_pow_pos _), Nat.mul_comm, ← e]
    exact hlo
theorem or_join {a b s : Nat} (hb : b < 2 ^ s) : a * 2 ^ s ||| b = a * 2 ^ s + b := by
  rw [Nat.mul_comm a, Nat.two_pow_add_eq_or_of_lt hb a]


theorem p127 : (2 : Nat) ^ 127 = 170141183460469231731687303715884105728 := by decide
theorem p128 : (2 : Nat) ^ 128 = 340282366920938463463374607431768211456 := by decide
/-- One round of the division by shifts, in the parts that the reference keeps. -/
theorem div_round {N D i aH aL qH qL rL : Nat} (hD : 0 < D) (hi : i < 128) (hN : N < 340282366920938463463374607431768211456) (ha : aH * 18446744073709551616 + aL = N % 2 ^ (128 - i) * 2 ^ i)
    (hq : qH * 18446744073709551616 + qL = N / 2 ^ (128 - i) / D) (hr : rL = N / 2 ^ (128 - i) % D) (haL : aL < 18446744073709551616) (_hqL : qL < 18446744073709551616) :
    ∃ bt a2H a2L q2H q2L r2 : Nat, (bt < 2 ∧ aH / 9223372036854775808 = bt) ∧ (a2H < 18446744073709551616 ∧ a2L < 18446744073709551616 ∧ q2H < 18446744073709551616 ∧ q2L + 1 < 18446744073709551616) ∧
      a2H * 18446744073709551616 + a2L = (2 * (aH * 18446744073709551616 + aL) + 0) % 340282366920938463463374607431768211456 ∧
      q2H * 18446744073709551616 + q2L = (2 * (qH * 18446744073709551616 + qL) + 0) % 340282366920938463463374607431768211456 ∧
      (r2 = 2 * rL + bt ∧ r2 < 2 * D) ∧ a2H * 18446744073709551616 + a2L = N % 2 ^ (128 - (i + 1)) * 2 ^ (i + 1) ∧
      (D ≤ r2 → q2H * 18446744073709551616 + (q2L + 1) = N / 2 ^ (128 - (i + 1)) / D ∧ r2 - D = N / 2 ^ (128 - (i + 1)) % D) ∧
      (¬ D ≤ r2 → q2H * 18446744073709551616 + q2L = N / 2 ^ (128 - (i + 1)) / D ∧ r2 = N / 2 ^ (128 - (i + 1)) % D) := by
  obtain ⟨p1, p2, p3⟩ := shl_step (N := N) hi
  obtain ⟨d1, d2⟩ := div_step (N := N) (i := i) hD hi
  have hrD : N / 2 ^ (128 - i) % D < D := Nat.mod_lt _ hD
  rw [← ha] at p1 p2 p3
  rw [← hr] at d1 d2 hrD
  rw [← hq] at d1
  have hq2 : N / 2 ^ (128 - (i + 1)) / D < 340282366920938463463374607431768211456 := Nat.lt_of_le_of_lt (Nat.le_trans (Nat.div_le_self _ _) (Nat.div_le_self _ _)) hN
  have hbt : N / 2 ^ (128 - (i + 1)) % 2 < 2 := Nat.mod_lt _ (by decide)
  rw [p127] at p1
  rw [p128] at p2 p3
  generalize N % 2 ^ (128 - (i + 1)) * 2 ^ (i + 1) = A2 at *
  generalize N / 2 ^ (128 - (i + 1)) / D = Q2 at *
  generalize N / 2 ^ (128 - (i + 1)) % D = R2 at *
  generalize N / 2 ^ (128 - (i + 1)) % 2 = bt at *
  clear ha hq hr
  have e1 : Q2 = 2 * (qH * 18446744073709551616 + qL) ∨ Q2 = 2 * (qH * 18446744073709551616 + qL) + 1 := by split at d1 <;> omega
  refine ⟨bt, A2 / 18446744073709551616, A2 % 18446744073709551616, 2 * (qH * 18446744073709551616 + qL) / 18446744073709551616, 2 * (qH * 18446744073709551616 + qL) % 18446744073709551616, 2 * rL + bt, ⟨hbt, ?_⟩, ⟨?_, ?_, ?_, ?_⟩, ?_, ?_, ⟨rfl, ?_⟩, ?_, fun h => ?_, fun h => ?_⟩
  · omega
  · omega
  · omega
  · omega
  · omega
  · omega
  · omega
  · omega
  · omega
  · rw [if_pos h] at d1 d2
    constructor <;> omega
  · rw [if_neg h] at d1 d2
    constructor <;> omega

end Go.Proofs.YtoiakijmbghhlaaGreat

namespace Go.Proofs
open Go.Shelf
def Tryz.laysLZ_ren : Go.Shelf.Ren := ⟨fun | 134 => 316 | 129 => 301 | n => n, fun | 53 => 285 | 3 => 3 | 4 => 4 | 46 => 49 | 5 => 5 | 9 => 9 | n => n, fun | n => n⟩
theorem Tryz.laysLZ : Go.Proofs.Lays.n134 Tryz.prog Tryz.laysLZ_ren := {
  mixed := by kernel_rfl
  f129 := Tryz.func301.trans (congrArg some (by kernel_rfl))
  f134 := Tryz.func316.trans (congrArg some (by kernel_rfl))
  t3 := Tryz.underlying3
  a3 := Tryz.isAgg3
  z3 := Tryz.sizeOf3
  v3 := Tryz.zeroValue3
  t4 := Tryz.underlying4
  a4 := Tryz.isAgg4
  z4 := Tryz.sizeOf4
  v4 := Tryz.zeroValue4
  t5 := Tryz.underlying5
  a5 := Tryz.isAgg5
  z5 := Tryz.sizeOf5
  v5 := Tryz.zeroValue5
  t9 := Tryz.underlying9
  a9 := Tryz.isAgg9
  z9 := Tryz.sizeOf9
  v9 := Tryz.zeroValue9
  t46 := Tryz.underlying49
  a46 := Tryz.isAgg49
  z46 := Tryz.sizeOf49
  v46 := Tryz.zeroValue49
  t53 := Tryz.underlying285
  a53 := Tryz.isAgg285
  z53 := Tryz.sizeOf285
  v53 := Tryz.zeroValue285 }
def Tryz.laysMul_ren : Go.Shelf.Ren := ⟨fun | 264 => 203 | n => n, fun | 53 => 285 | 46 => 49 | n => n, fun | n => n⟩
theorem Tryz.laysMul : Go.Proofs.Lays.n264 Tryz.prog Tryz.laysMul_ren := {
  mixed := by kernel_rfl
  f264 := Tryz.func203.trans (congrArg some (by kernel_rfl))
  t46 := Tryz.underlying49
  a46 := Tryz.isAgg49
  z46 := Tryz.sizeOf49
  v46 := Tryz.zeroValue49
  t53 := Tryz.underlying285
  a53 := Tryz.isAgg285
  z53 := Tryz.sizeOf285
  v53 := Tryz.zeroValue285 }
def Tryz.laysAdd_ren : Go.Shelf.Ren := ⟨fun | 25 => 323 | n => n, fun | 22 => 285 | n => n, fun | n => n⟩
theorem Tryz.laysAdd : Go.Proofs.Lays7.n25 Tryz.prog Tryz.laysAdd_ren := {
  mixed := by kernel_rfl
  f25 := Tryz.func323.trans (congrArg some (by kernel_rfl))
  t22 := Tryz.underlying285
  a22 := Tryz.isAgg285
  z22 := Tryz.sizeOf285
  v22 := Tryz.zeroValue285
  i22 := by kernel_rfl }
def Tryz.laysSub_ren : Go.Shelf.Ren := ⟨fun | 26 => 324 | n => n, fun | 22 => 285 | n => n, fun | n => n⟩
theorem Tryz.laysSub : Go.Proofs.Lays7.n26 Tryz.prog Tryz.laysSub_ren := {
  mixed := by kernel_rfl
  f26 := Tryz.func324.trans (congrArg some (by kernel_rfl))
  t22 := Tryz.underlying285
  a22 := Tryz.isAgg285
  z22 := Tryz.sizeOf285
  v22 := Tryz.zeroValue285
  i22 := by kernel_rfl }
end Go.Proofs

namespace Go.Proofs.YtoiakijmbghhlaaGreat
open Go.RowKit
set_option linter.unusedVariables false
set_option linter.unusedSimpArgs false

theorem lz_any (y : Nat) (w : World) (h : y < 18446744073709551616) : Calls Tryz.prog 316 #[.int .u64 (y : Int)] w fun e w' => e = .returned (.int .i64 (64 - (Lib.bitLen y : Int))) ∧ w' = w := by
  have h1 := Any.bits_LeadingZeros64 Tryz.laysLZ (y : Int) w (by omega) (by omega)
  rw [Int.toNat_natCast] at h1
  exact h1
theorem mul64_any (x y : Nat) (w : World) (hx : x < 18446744073709551616) (hy : y < 18446744073709551616) :
    Calls Tryz.prog 203 #[.int .u64 (x : Int), .int .u64 (y : Int)] w fun e w' => e = .returned (.tuple #[.int .u64 ((x * y / 18446744073709551616 : Nat) : Int), .int .u64 ((x * y % 18446744073709551616 : Nat) : Int)]) ∧ w' = w :=
  Any.bits_Mul64 Tryz.laysMul x y hx hy w
theorem add64_run (x y c : Nat) (hc : c ≤ 1) (w : World) : (callFunc 323 #[.int .u64 (x : Int), .int .u64 (y : Int), .int .u64 (c : Int)]).run Tryz.prog w =
    .ok (.value (.tuple #[.int .u64 (((x + y + c) % 18446744073709551616 : Nat) : Int), .int .u64 (((x + y + c) / 18446744073709551616 : Nat) : Int)])) w := Any7.bits_Add64 Tryz.laysAdd x y c hc w
theorem sub64_run (x y b : Nat) (hb : b ≤ 1) (w : World) : (callFunc 324 #[.int .u64 (x : Int), .int .u64 (y : Int), .int .u64 (b : Int)]).run Tryz.prog w =
    .ok (.value (.tuple #[.int .u64 (((x + 18446744073709551616 - y - b) % 18446744073709551616 : Nat) : Int), .int .u64 ((if x < y + b then 1 else 0 : Nat) : Int)])) w := Any7.bits_Sub64 Tryz.laysSub x y b hb w

end Go.Proofs.YtoiakijmbghhlaaGreat

namespace Go.Proofs.YtoiakijmbghhlaaGreat
open Go.RowKit
set_option linter.unusedVariables false
set_option linter.unusedSimpArgs false

/-- A magnitude: its two parts. -/
abbrev vU (H L : Nat) : Value := .agg #[.int .u64 (H : Int), .int .u64 (L : Int)]
abbrev vN (H L : Nat) (b : Bool) : Value := .agg #[.int .u64 (H : Int), .int .u64 (L : Int), .bool b]

theorem i64_u64 (n : Nat) (h : n < 9223372036854775808) : IntKind.u64.wrap (n : Int) = (n : Int) := by rw [IntKind.wrap_u64]; omega

def nzB (H L : Nat) : Bool := !(decide (H = 0) && decide (L = 0))
end Go.Proofs.YtoiakijmbghhlaaGreat

namespace Go.Proofs.YtoiakijmbghhlaaGreat
open Go.RowKit
set_option linter.unusedVariables false
set_option linter.unusedSimpArgs false

/-- A block of two numbers of 64 bits that may be written. -/
structure Bx2 (w : World) (B a b : Nat) : Prop where
  c0 : w.cell? ⟨B, 0, none⟩ = some (.int .u64 (a : Int))
  c1 : w.cell? ⟨B, 1, none⟩ = some (.int .u64 (b : Int))
  f0 : w.frozen? ⟨B, 0, none⟩ = false
  f1 : w.frozen? ⟨B, 1, none⟩ = false
theorem Bx2.lt {w : World} {B a b : Nat} (h : Bx2 w B a b) : B < w.heap.size := lt_of_isSome (a := ⟨B, 0, none⟩) (by rw [h.c0]; rfl)
theorem Bx2.mono {w w' : World} {B a b : Nat} (h : Bx2 w B a b) (hb : Below w.heap.size w w') : Bx2 w' B a b :=
  ⟨(hb.cell (p := ⟨B, 0, none⟩) h.lt).trans h.c0, (hb.cell (p := ⟨B, 1, none⟩) h.lt).trans h.c1, (hb.frozen (p := ⟨B, 0, none⟩) h.lt).trans h.f0, (hb.frozen (p := ⟨B, 1, none⟩) h.lt).trans h.f1⟩
theorem Bx2.new (w : World) (a b : Nat) (T : TypeId) : Bx2 (w.alloc (.cells #[.int .u64 (a : Int), .int .u64 (b : Int)] T)) w.heap.size a b := ⟨by simp [go_sem], by simp [go_sem], by simp [go_sem], by simp [go_sem]⟩
theorem Bx2.other {w : World} {B a b : Nat} (h : Bx2 w B a b) (p : Addr) (u : Value) (hne : B ≠ p.block) : Bx2 (w.setCell p u) B a b := by
  have he := Below.heap_setCell w p u B hne
  exact ⟨(World.cell?_of_block (w := w) he).trans h.c0, (World.cell?_of_block (w := w) he).trans h.c1, by rw [World.frozen?_setCell]; exact h.f0, by rw [World.frozen?_setCell]; exact h.f1⟩
theorem Bx2.set {w : World} {B a b : Nat} (h : Bx2 w B a b) (a' b' : Nat) : Bx2 ((w.setCell ⟨B, 0, none⟩ (.int .u64 (a' : Int))).setCell ⟨B, 1, none⟩ (.int .u64 (b' : Int))) B a' b' :=
  ⟨(World.cell?_setCell_other _ _ _ _ (by simp)).trans (World.cell?_setCell_same _ _ _ h.c0), World.cell?_setCell_same _ _ _ ((World.cell?_setCell_other _ _ _ _ (by simp)).trans h.c1), by rw [World.frozen?_setCell, World.frozen?_setCell]; exact h.f0, by rw [World.frozen?_setCell, World.frozen?_setCell]; exact h.f1⟩
theorem Bx2.set1 {w : World} {B a b : Nat} (h : Bx2 w B a b) (b' : Nat) : Bx2 (w.setCell ⟨B, 1, none⟩ (.int .u64 (b' : Int))) B a b' :=
  ⟨(World.cell?_setCell_other _ _ _ _ (by simp)).trans h.c0, World.cell?_setCell_same _ _ _ h.c1, by rw [World.frozen?_setCell]; exact h.f0, by rw [World.frozen?_setCell]; exact h.f1⟩
theorem Bx2.other2 {w : World} {B a b C : Nat} (h : Bx2 w B a b) (hne : B ≠ C) (u v : Value) : Bx2 ((w.setCell ⟨C, 0, none⟩ u).setCell ⟨C, 1, none⟩ v) B a b := (h.other _ _ hne).other _ _ hne
theorem below_set2 {B C : Nat} {a w : World} (h : Below B a w) (hc : B ≤ C) (u v : Value) : Below B a ((w.setCell ⟨C, 0, none⟩ u).setCell ⟨C, 1, none⟩ v) := (h.setCell (by exact hc) _).setCell (by exact hc) _

/-- What the blocks of a division hold. -/
structure DvSt (w : World) (n aH aL D qH qL rL : Nat) : Prop where
  A : Bx2 w n aH aL
  B : Bx2 w (n + 1) 0 D
  P : Bx2 w (n + 1 + 1) 0 0
  S : Bx2 w (n + 1 + 1 + 1) 0 0
  Q : Bx2 w (n + 1 + 1 + 1 + 1) qH qL
  R : Bx2 w (n + 1 + 1 + 1 + 1 + 1) 0 rL
theorem DvSt.mono {w w' : World} {n aH aL D qH qL rL : Nat} (h : DvSt w n aH aL D qH qL rL) (hb : Below w.heap.size w w') : DvSt w' n aH aL D qH qL rL :=
  ⟨h.A.mono hb, h.B.mono hb, h.P.mono hb, h.S.mono hb, h.Q.mono hb, h.R.mono hb⟩
theorem DvSt.setA {w : World} {n aH aL D qH qL rL : Nat} (h : DvSt w n aH aL D qH qL rL) (x y : Nat) : DvSt ((w.setCell ⟨n, 0, none⟩ (.int .u64 (x : Int))).setCell ⟨n, 1, none⟩ (.int .u64 (y : Int))) n x y D qH qL rL :=
  ⟨h.A.set x y, h.B.other2 (by omega) _ _, h.P.other2 (by omega) _ _, h.S.other2 (by omega) _ _, h.Q.other2 (by omega) _ _, h.R.other2 (by omega) _ _⟩
theorem DvSt.setQ {w : World} {n aH aL D qH qL rL : Nat} (h : DvSt w n aH aL D qH qL rL) (x y : Nat) : DvSt ((w.setCell ⟨n + 1 + 1 + 1 + 1, 0, none⟩ (.int .u64 (x : Int))).setCell ⟨n + 1 + 1 + 1 + 1, 1, none⟩ (.int .u64 (y : Int))) n aH aL D x y rL :=
  ⟨h.A.other2 (by omega) _ _, h.B.other2 (by omega) _ _, h.P.other2 (by omega) _ _, h.S.other2 (by omega) _ _, h.Q.set x y, h.R.other2 (by omega) _ _⟩
theorem DvSt.setR {w : World} {n aH aL D qH qL rL : Nat} (h : DvSt w n aH aL D qH qL rL) (y : Nat) : DvSt ((w.setCell ⟨n + 1 + 1 + 1 + 1 + 1, 0, none⟩ (.int .u64 0)).setCell ⟨n + 1 + 1 + 1 + 1 + 1, 1, none⟩ (.int .u64 (y : Int))) n aH aL D qH qL y :=
  ⟨h.A.other2 (by omega) _ _, h.B.other2 (by omega) _ _, h.P.other2 (by omega) _ _, h.S.other2 (by omega) _ _, h.Q.other2 (by omega) _ _, h.R.set 0 y⟩
theorem DvSt.setQ1 {w : World} {n aH aL D qH qL rL : Nat} (h : DvSt w n aH aL D qH qL rL) (y : Nat) : DvSt (w.setCell ⟨n + 1 + 1 + 1 + 1, 1, none⟩ (.int .u64 (y : Int))) n aH aL D qH y rL :=
  ⟨h.A.other _ _ (by show n ≠ n + 1 + 1 + 1 + 1; omega), h.B.other _ _ (by show n + 1 ≠ n + 1 + 1 + 1 + 1; omega), h.P.other _ _ (by show n + 1 + 1 ≠ n + 1 + 1 + 1 + 1; omega), h.S.other _ _ (by show n + 1 + 1 + 1 ≠ n + 1 + 1 + 1 + 1; omega), h.Q.set1 y, h.R.other _ _ (by show n + 1 + 1 + 1 + 1 + 1 ≠ n + 1 + 1 + 1 + 1; omega)⟩

end Go.Proofs.YtoiakijmbghhlaaGreat

namespace Go.Proofs.YtoiakijmbghhlaaGreat
open Go.RowKit
set_option linter.unusedVariables false
set_option linter.unusedSimpArgs false

/-- A block of a number: two parts and a sign. -/
structure Bx3 (w : World) (B a b : Nat) (c : Bool) : Prop where
  c0 : w.cell? ⟨B, 0, none⟩ = some (.int .u64 (a : Int))
  c1 : w.cell? ⟨B, 1, none⟩ = some (.int .u64 (b : Int))
  c2 : w.cell? ⟨B, 2, none⟩ = some (.bool c)
  f0 : w.frozen? ⟨B, 0, none⟩ = false
  f1 : w.frozen? ⟨B, 1, none⟩ = false
  f2 : w.frozen? ⟨B, 2, none⟩ = false
theorem Bx3.lt {w : World} {B a b : Nat} {c : Bool} (h : Bx3 w B a b c) : B < w.heap.size := lt_of_isSome (a := ⟨B, 0, none⟩) (by rw [h.c0]; rfl)
theorem Bx3.mono {w w' : World} {B a b : Nat} {c : Bool} (h : Bx3 w B a b c) (hb : Below w.heap.size w w') : Bx3 w' B a b c :=
  ⟨(hb.cell (p := ⟨B, 0, none⟩) h.lt).trans h.c0, (hb.cell (p := ⟨B, 1, none⟩) h.lt).trans h.c1, (hb.cell (p := ⟨B, 2, none⟩) h.lt).trans h.c2, (hb.frozen (p := ⟨B, 0, none⟩) h.lt).trans h.f0, (hb.frozen (p := ⟨B, 1, none⟩) h.lt).trans h.f1, (hb.frozen (p := ⟨B, 2, none⟩) h.lt).trans h.f2⟩
theorem Bx3.new (w : World) (a b : Nat) (c : Bool) (T : TypeId) : Bx3 (w.alloc (.cells #[.int .u64 (a : Int), .int .u64 (b : Int), .bool c] T)) w.heap.size a b c := ⟨by simp [go_sem], by simp [go_sem], by simp [go_sem], by simp [go_sem], by simp [go_sem], by simp [go_sem]⟩

theorem nzB_val (H L : Nat) : nzB H L = !decide (H * 18446744073709551616 + L = 0) := by
  unfold nzB
  by_cases h1 : H = 0 <;> by_cases h2 : L = 0
  all_goals first | (simp [h1, h2]; done) | (simp [h1, h2]; omega)

theorem ceil_val {V D q : Nat} (hD : 0 < D) {b : Bool} (hb : b = !decide (V = 0)) (h : q = V / D + if b = true ∧ ¬ V % D = 0 then 1 else 0) : q = (V + D - 1) / D ∧ (b = false → q = 0) := by
  have hV := Nat.div_add_mod V D
  have hm := Nat.mod_lt V hD
  constructor
  · by_cases h0 : V % D = 0
    · have e : V + D - 1 = D * (V / D) + (D - 1) := by omega
      rw [h, e, Nat.mul_add_div hD, Nat.div_eq_of_lt (show D - 1 < D by omega)]
      simp [h0]
    · have hv0 : ¬ V = 0 := by rintro rfl; simp at h0
      have e : V + D - 1 = D * (V / D + 1) + (V % D - 1) := by rw [Nat.mul_add, Nat.mul_one]; omega
      rw [h, e, Nat.mul_add_div hD, Nat.div_eq_of_lt (show V % D - 1 < D by omega), if_pos ⟨by rw [hb]; simp [hv0], h0⟩]
  · rintro rfl
    have hv0 : V = 0 := by simpa using hb
    subst hv0
    simpa using h

end Go.Proofs.YtoiakijmbghhlaaGreat
