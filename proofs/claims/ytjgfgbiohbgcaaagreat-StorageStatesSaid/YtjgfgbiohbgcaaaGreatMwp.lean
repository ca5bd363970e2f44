/- Division of numbers of two digits, plainly: the school method's two steps (math/bits.Div64), and division by shifts (the reference's). No function of the program is named. Conditions: none. | math/bits.Mul64, LeadingZeros64, Add64, Sub64: the shelf's contracts laid here, in plain words. Conditions: the numbers in range. -/
import Derived.Test.YtjgfgbiohbgcaaaGreatMBase
import Derived.Lib.BitFns
import Derived.Test.YtjgfgbiohbgcaaaGreatProg
import Derived.Shelf.Small.Bits
import Derived.Shelf.Bits.Mul64
import Derived.Shelf.Spec.BitsCarry
import Derived.Ground.NamesProg
namespace Go.Proofs.YtjgfgbiohbgcaaaGreat

theorem knuth_gt {yn1 yn0 u c q rh : Nat} (h : q * yn1 + rh = u) (hy : 0 < yn1 * 4294967296 + yn0) :
    (4294967296 * rh + c < q * yn0) ↔ (u * 4294967296 + c) / (yn1 * 4294967296 + yn0) < q := by
  rw [Nat.div_lt_iff_lt_mul hy, Nat.mul_add, ← Nat.mul_assoc]
  generalize q * yn1 = A at *
  generalize q * yn0 = B at *
  omega
theorem knuth_lt32 {y u c : Nat} (hu : u < y) (hc : c < 4294967296) : (u * 4294967296 + c) / y < 4294967296 := by
  rw [Nat.div_lt_iff_lt_mul (by omega)]
  have : (u + 1) * 4294967296 ≤ y * 4294967296 := Nat.mul_le_mul_right _ hu
  rw [Nat.mul_comm 4294967296 y]
  omega
/-- Behind a break the digit is below 2^32. -/
theorem knuth_brk {yn1 yn0 u q rh : Nat} (h : q * yn1 + rh = u) (hu : u < yn1 * 4294967296 + yn0) (h0 : yn0 < 4294967296) (hr : 4294967296 ≤ rh) : q < 4294967296 := by
  have h1 : q * yn1 < 4294967296 * yn1 := by omega
  exact Nat.lt_of_mul_lt_mul_right h1
theorem knuth_first {yn1 yn0 u c : Nat} (h1 : 0 < yn1) : (u * 4294967296 + c) / (yn1 * 4294967296 + yn0) ≤ u / yn1 ∨ 4294967296 ≤ c := by
  by_cases hc : 4294967296 ≤ c
  · exact .inr hc
  · left
    rw [Nat.le_div_iff_mul_le h1]
    have h2 := Nat.div_mul_le_self (u * 4294967296 + c) (yn1 * 4294967296 + yn0)
    generalize (u * 4294967296 + c) / (yn1 * 4294967296 + yn0) = q at *
    rw [Nat.mul_add, ← Nat.mul_assoc] at h2
    generalize q * yn1 = A at *
    generalize q * yn0 = B at *
    omega
/-- The two digits and the rest. -/
theorem knuth_two {y a b c P : Nat} (hy : 0 < y) (q1 r1 q0 r0 : Nat) (h1 : a * P + b = q1 * y + r1) (h0 : r1 * P + c = q0 * y + r0) (hr : r0 < y) :
    ((a * P + b) * P + c) / y = q1 * P + q0 ∧ ((a * P + b) * P + c) % y = r0 := by
  have e : (a * P + b) * P + c = y * (q1 * P + q0) + r0 := by
    rw [h1, Nat.add_mul, Nat.add_assoc, h0, Nat.mul_add, Nat.mul_comm y q0, Nat.mul_left_comm y q1 P, ← Nat.mul_assoc, Nat.add_assoc]
  rw [e]
  constructor
  · rw [Nat.mul_add_div hy, Nat.div_eq_of_lt hr, Nat.add_zero]
  · rw [Nat.mul_add_mod, Nat.mod_eq_of_lt hr]
/-- Shifting both by s changes the quotient not at all, and the rest by the same shift. -/
theorem shift_div {N y s : Nat} : N * 2 ^ s / (y * 2 ^ s) = N / y ∧ N * 2 ^ s % (y * 2 ^ s) = (N % y) * 2 ^ s :=
  ⟨Nat.mul_div_mul_right _ _ (Nat.two_pow_pos s), Nat.mul_mod_mul_right _ _ _⟩
/-! ### Division by shifts -/
theorem bit_split (N k : Nat) : N % 2 ^ (k + 1) = 2 ^ k * (N / 2 ^ k % 2) + N % 2 ^ k := by
  rw [Nat.pow_succ, Nat.mod_mul]
  omega
theorem half_split (N k : Nat) : N / 2 ^ k = 2 * (N / 2 ^ (k + 1)) + N / 2 ^ k % 2 := by
  rw [Nat.pow_succ, ← Nat.div_div_eq_div_mul]
  omega
theorem shl_step {N i : Nat} (hi : i < 128) :
    N % 2 ^ (128 - i) * 2 ^ i / 2 ^ 127 = N / 2 ^ (128 - (i + 1)) % 2 ∧ N % 2 ^ (128 - i) * 2 ^ i * 2 % 2 ^ 128 = N % 2 ^ (128 - (i + 1)) * 2 ^ (i + 1) ∧ N % 2 ^ (128 - i) * 2 ^ i < 2 ^ 128 := by
  obtain ⟨k, hk⟩ : ∃ k, 128 - i = k + 1 := ⟨127 - i, by omega⟩
  have hk2 : 128 - (i + 1) = k := by omega
  rw [hk, hk2]
  have hi2 : 127 = k + i := by omega
  have hm : N % 2 ^ k < 2 ^ k := Nat.mod_lt _ (Nat.two_pow_pos k)
  have hb : N / 2 ^ k % 2 < 2 := Nat.mod_lt _ (by decide)
  have e1 : N % 2 ^ (k + 1) * 2 ^ i = 2 ^ 127 * (N / 2 ^ k % 2) + N % 2 ^ k * 2 ^ i := by
    rw [bit_split, Nat.add_mul, hi2, Nat.pow_add, Nat.mul_right_comm]
  have hlt : N % 2 ^ k * 2 ^ i < 2 ^ 127 := by
    rw [hi2, Nat.pow_add]
    exact Nat.mul_lt_mul_of_pos_right hm (Nat.two_pow_pos i)
  have e2 : N % 2 ^ k * 2 ^ (i + 1) = 2 * (N % 2 ^ k * 2 ^ i) := by rw [Nat.pow_succ, ← Nat.mul_assoc, Nat.mul_comm]
  rw [e1, e2]
  generalize N % 2 ^ k * 2 ^ i = m at *
  generalize N / 2 ^ k % 2 = b at *
  refine ⟨?_, ?_, ?_⟩ <;> omega
theorem quo_step {M b D : Nat} (hD : 0 < D) (hb : b < 2) :
    (2 * M + b) / D = 2 * (M / D) + (if D ≤ 2 * (M % D) + b then 1 else 0) ∧ (2 * M + b) % D = (if D ≤ 2 * (M % D) + b then 2 * (M % D) + b - D else 2 * (M % D) + b) := by
  have h := Nat.div_add_mod M D
  have hr := Nat.mod_lt M hD
  generalize M / D = q at *
  generalize M % D = r at *
  have e : 2 * M + b = D * (2 * q) + (2 * r + b) := by
    rw [← h, Nat.mul_add, Nat.mul_left_comm]; omega
  rw [e]
  by_cases hc : D ≤ 2 * r + b
  · rw [if_pos hc, if_pos hc]
    have e2 : D * (2 * q) + (2 * r + b) = D * (2 * q + 1) + (2 * r + b - D) := by rw [Nat.mul_add, Nat.mul_one]; omega
    rw [e2, Nat.mul_add_div hD, Nat.mul_add_mod]
    have h3 : 2 * r + b - D < D := by omega
    rw [Nat.div_eq_of_lt h3, Nat.mod_eq_of_lt h3]
    exact ⟨rfl, rfl⟩
  · rw [if_neg hc, if_neg hc]
    have h3 : 2 * r + b < D := by omega
    rw [Nat.mul_add_div hD, Nat.mul_add_mod, Nat.div_eq_of_lt h3, Nat.mod_eq_of_lt h3]
    exact ⟨rfl, rfl⟩
theorem div_step {N D i : Nat} (hD : 0 < D) (hi : i < 128) :
    N / 2 ^ (128 - (i + 1)) / D = 2 * (N / 2 ^ (128 - i) / D) + (if D ≤ 2 * (N / 2 ^ (128 - i) % D) + N / 2 ^ (128 - (i + 1)) % 2 then 1 else 0) ∧
    N / 2 ^ (128 - (i + 1)) % D = (if D ≤ 2 * (N / 2 ^ (128 - i) % D) + N / 2 ^ (128 - (i + 1)) % 2 then 2 * (N / 2 ^ (128 - i) % D) + N / 2 ^ (128 - (i + 1)) % 2 - D else 2 * (N / 2 ^ (128 - i) % D) + N / 2 ^ (128 - (i + 1)) % 2) := by
  obtain ⟨k, hk⟩ : ∃ k, 128 - i = k + 1 := ⟨127 - i, by omega⟩
  have hk2 : 128 - (i + 1) = k := by omega
  rw [hk, hk2]
  have e := half_split N k
  have hb : N / 2 ^ k % 2 < 2 := Nat.mod_lt _ (by decide)
  have h := quo_step (M := N / 2 ^ (k + 1)) (b := N / 2 ^ k % 2) hD hb
  rw [← e] at h
  exact h
theorem div_start {N D : Nat} (hN : N < 2 ^ 128) : N / 2 ^ (128 - 0) / D = 0 ∧ N / 2 ^ (128 - 0) % D = 0 ∧ N % 2 ^ (128 - 0) * 2 ^ 0 = N := by
  have h1 : N / 2 ^ 128 = 0 := Nat.div_eq_of_lt hN
  have h2 : N % 2 ^ 128 = N := Nat.mod_eq_of_lt hN
  simp only [Nat.sub_zero, h1, h2, Nat.zero_div, Nat.zero_mod, Nat.pow_zero, Nat.mul_one, and_self]
theorem div_end {N D : Nat} : N / 2 ^ (128 - 128) / D = N / D ∧ N / 2 ^ (128 - 128) % D = N % D := by simp

/-! ### How many bits -/
theorem bitLen_pow : ∀ (n x : Nat), x ≤ n → x < 2 ^ 64 → x ≠ 0 → ∃ b, Lib.bitLen x = b + 1 ∧ 2 ^ b ≤ x ∧ x < 2 ^ (b + 1)
  | 0, x, h, _, h0 => absurd (Nat.le_zero.1 h) h0
  | n + 1, x, h, hx, h0 => by
    have e := Lib.bitLen_half x h0 hx
    by_cases h1 : x / 2 = 0
    · have : x = 1 := by omega
      subst this
      exact ⟨0, by rw [e]; rfl, by decide, by decide⟩
    · obtain ⟨b, e1, e2, e3⟩ := bitLen_pow n (x / 2) (by omega) (by omega) h1
      refine ⟨b + 1, by rw [e, e1]; omega, ?_, ?_⟩
      · rw [Nat.pow_succ]; omega
      · rw [Nat.pow_succ]; omega
/-- The shift that makes a divisor great. -/
theorem norm_shift {y : Nat} (h0 : 0 < y) (hy : y < 2 ^ 64) : ∃ s, s ≤ 63 ∧ Lib.bitLen y + s = 64 ∧ 2 ^ 63 ≤ y * 2 ^ s ∧ y * 2 ^ s < 2 ^ 64 := by
  obtain ⟨b, e1, e2, e3⟩ := bitLen_pow y y (Nat.le_refl _) hy (by omega)
  have hb : b ≤ 63 := by
    by_cases q : b ≤ 63
    · exact q
    · have h64 : 2 ^ 64 ≤ 2 ^ b := Nat.pow_le_pow_right (by decide) (by omega)
      omega
  refine ⟨63 - b, by omega, by omega, ?_, ?_⟩
  · have : 2 ^ b * 2 ^ (63 - b) = 2 ^ 63 := by rw [← Nat.pow_add]; congr 1; omega
    rw [← this]
    exact Nat.mul_le_mul_right _ e2
  · have : 2 ^ (b + 1) * 2 ^ (63 - b) = 2 ^ 64 := by rw [← Nat.pow_add]; congr 1; omega
    rw [← this]
    exact Nat.mul_lt_mul_of_pos_right e3 (Nat.two_pow_pos _)

theorem shift_split {hi lo s : Nat} (hlo : lo < 2 ^ 64) (hs : s ≤ 63) :
    (hi * 2 ^ 64 + lo) * 2 ^ s = (hi * 2 ^ s + lo / 2 ^ (64 - s)) * 2 ^ 64 + lo * 2 ^ s % 2 ^ 64 ∧ lo / 2 ^ (64 - s) < 2 ^ s ∧ lo * 2 ^ s / 2 ^ 64 = lo / 2 ^ (64 - s) := by
  have e : 2 ^ 64 = 2 ^ (64 - s) * 2 ^ s := by rw [← Nat.pow_add]; congr 1; omega
  have h1 : lo * 2 ^ s / 2 ^ 64 = lo / 2 ^ (64 - s) := by rw [e, Nat.mul_div_mul_right _ _ (Nat.two_pow_pos s)]
  have h2 := Nat.div_add_mod (lo * 2 ^ s) (2 ^ 64)
  rw [h1] at h2
  refine ⟨?_, ?_, h1⟩
  · rw [Nat.add_mul, Nat.add_mul, Nat.mul_right_comm]
    omega
  · rw [Nat.div_lt_iff_lt_mul (Nat.two_pow_pos _), Nat.mul_comm, ← e]
    exact hlo
theorem or_join {a b s : Nat} (hb : b < 2 ^ s) : a * 2 ^ s ||| b = a * 2 ^ s + b := by
  rw [Nat.mul_comm a, Nat.two_pow_add_eq_or_of_lt hb a]


theorem p127 : (2 : Nat) ^ 127 = 170141183460469231731687303715884105728 := by decide
theorem p128 : (2 : Nat) ^ 128 = 340282366920938463463374607431768211456 := by decide
/-- One round of the division by shifts, in the parts that the reference keeps. -/
theorem div_round {N D i aH aL qH qL rL : Nat} (hD : 0 < D) (hi : i < 128) (hN : N < 340282366920938463463374607431768211456) (ha : aH * 18446744073709551616 + aL = N % 2 ^ (128 - i) * 2 ^ i)
    (hq : qH * 18446744073709551616 + qL = N / 2 ^ (128 - i) / D) (hr : rL = N / 2 ^ (128 - i) % D) (haL : aL < 18446744073709551616) (_hqL : qL < 18446744073709551616) :
    ∃ bt a2H a2L q2H q2L r2 : Nat, (bt < 2 ∧ aH / 9223372036854775808 = bt) ∧ (a2H < 18446744073709551616 ∧ a2L < 18446744073709551616 ∧ q2H < 18446744073709551616 ∧ q2L + 1 < 18446744073709551616) ∧
      a2H * 18446744073709551616 + a2L = (2 * (aH * 18446744073709551616 + aL) + 0) % 340282366920938463463374607431768211456 ∧
      q2H * 18446744073709551616 + q2L = (2 * (qH * 18446744073709551616 + qL) + 0) % 340282366920938463463374607431768211456 ∧
      (r2 = 2 * rL + bt ∧ r2 < 2 * D) ∧ a2H * 18446744073709551616 + a2L = N % 2 ^ (128 - (i + 1)) * 2 ^ (i + 1) ∧
      (D ≤ r2 → q2H * 18446744073709551616 + (q2L + 1) = N / 2 ^ (128 - (i + 1)) / D ∧ r2 - D = N / 2 ^ (128 - (i + 1)) % D) ∧
      (¬ D ≤ r2 → q2H * 18446744073709551616 + q2L = N / 2 ^ (128 - (i + 1)) / D ∧ r2 = N / 2 ^ (128 - (i + 1)) % D) := by
  obtain ⟨p1, p2, p3⟩ := shl_step (N := N) hi
  obtain ⟨d1, d2⟩ := div_step (N := N) (i := i) hD hi
  have hrD : N / 2 ^ (128 - i) % D < D := Nat.mod_lt _ hD
  rw [← ha] at p1 p2 p3
  rw [← hr] at d1 d2 hrD
  rw [← hq] at d1
  have hq2 : N / 2 ^ (128 - (i + 1)) / D < 340282366920938463463374607431768211456 := Nat.lt_of_le_of_lt (Nat.le_trans (Nat.div_le_self _ _) (Nat.div_le_self _ _)) hN
  have hbt : N / 2 ^ (128 - (i + 1)) % 2 < 2 := Nat.mod_lt _ (by decide)
  rw [p127] at p1
  rw [p128] at p2 p3
  generalize N % 2 ^ (128 - (i + 1)) * 2 ^ (i + 1) = A2 at *
  generalize N / 2 ^ (128 - (i + 1)) / D = Q2 at *
  generalize N / 2 ^ (128 - (i + 1)) % D = R2 at *
  generalize N / 2 ^ (128 - (i + 1)) % 2 = bt at *
  clear ha hq hr
  have e1 : Q2 = 2 * (qH * 18446744073709551616 + qL) ∨ Q2 = 2 * (qH * 18446744073709551616 + qL) + 1 := by split at d1 <;> omega
  refine ⟨bt, A2 / 18446744073709551616, A2 % 18446744073709551616, 2 * (qH * 18446744073709551616 + qL) / 18446744073709551616, 2 * (qH * 18446744073709551616 + qL) % 18446744073709551616, 2 * rL + bt, ⟨hbt, ?_⟩, ⟨?_, ?_, ?_, ?_⟩, ?_, ?_, ⟨rfl, ?_⟩, ?_, fun h => ?_, fun h => ?_⟩
  · omega
  · omega
  · omega
  · omega
  · omega
  · omega
  · omega
  · omega
  · omega
  · rw [if_pos h] at d1 d2
    constructor <;> omega
  · rw [if_neg h] at d1 d2
    constructor <;> omega

end Go.Proofs.YtjgfgbiohbgcaaaGreat

namespace Go.Proofs
open Go.Shelf
def Tryz.laysLZ_ren : Go.Shelf.Ren := ⟨fun | 134 => 143 | 129 => 144 | n => n, fun | 53 => 112 | 3 => 3 | 4 => 4 | 46 => 104 | 5 => 5 | 9 => 9 | n => n, fun | n => n⟩
theorem Tryz.laysLZ : Go.Proofs.Lays.n134 Tryz.prog Tryz.laysLZ_ren := {
  mixed := by kernel_rfl
  f129 := Tryz.func144.trans (congrArg some (by kernel_rfl))
  f134 := Tryz.func143.trans (congrArg some (by kernel_rfl))
  t3 := Tryz.underlying3
  a3 := Tryz.isAgg3
  z3 := Tryz.sizeOf3
  v3 := Tryz.zeroValue3
  t4 := Tryz.underlying4
  a4 := Tryz.isAgg4
  z4 := Tryz.sizeOf4
  v4 := Tryz.zeroValue4
  t5 := Tryz.underlying5
  a5 := Tryz.isAgg5
  z5 := Tryz.sizeOf5
  v5 := Tryz.zeroValue5
  t9 := Tryz.underlying9
  a9 := Tryz.isAgg9
  z9 := Tryz.sizeOf9
  v9 := Tryz.zeroValue9
  t46 := Tryz.underlying104
  a46 := Tryz.isAgg104
  z46 := Tryz.sizeOf104
  v46 := Tryz.zeroValue104
  t53 := Tryz.underlying112
  a53 := Tryz.isAgg112
  z53 := Tryz.sizeOf112
  v53 := Tryz.zeroValue112 }
def Tryz.laysMul_ren : Go.Shelf.Ren := ⟨fun | 264 => 133 | n => n, fun | 53 => 112 | 46 => 104 | n => n, fun | n => n⟩
theorem Tryz.laysMul : Go.Proofs.Lays.n264 Tryz.prog Tryz.laysMul_ren := {
  mixed := by kernel_rfl
  f264 := Tryz.func133.trans (congrArg some (by kernel_rfl))
  t46 := Tryz.underlying104
  a46 := Tryz.isAgg104
  z46 := Tryz.sizeOf104
  v46 := Tryz.zeroValue104
  t53 := Tryz.underlying112
  a53 := Tryz.isAgg112
  z53 := Tryz.sizeOf112
  v53 := Tryz.zeroValue112 }
def Tryz.laysAdd_ren : Go.Shelf.Ren := ⟨fun | 25 => 141 | n => n, fun | 22 => 112 | n => n, fun | n => n⟩
theorem Tryz.laysAdd : Go.Proofs.Lays7.n25 Tryz.prog Tryz.laysAdd_ren := {
  mixed := by kernel_rfl
  f25 := Tryz.func141.trans (congrArg some (by kernel_rfl))
  t22 := Tryz.underlying112
  a22 := Tryz.isAgg112
  z22 := Tryz.sizeOf112
  v22 := Tryz.zeroValue112
  i22 := by kernel_rfl }
def Tryz.laysSub_ren : Go.Shelf.Ren := ⟨fun | 26 => 142 | n => n, fun | 22 => 112 | n => n, fun | n => n⟩
theorem Tryz.laysSub : Go.Proofs.Lays7.n26 Tryz.prog Tryz.laysSub_ren := {
  mixed := by kernel_rfl
  f26 := Tryz.func142.trans (congrArg some (by kernel_rfl))
  t22 := Tryz.underlying112
  a22 := Tryz.isAgg112
  z22 := Tryz.sizeOf112
  v22 := Tryz.zeroValue112
  i22 := by kernel_rfl }
end Go.Proofs

namespace Go.Proofs.YtjgfgbiohbgcaaaGreat
open Go.RowKit
set_option linter.unusedVariables false
set_option linter.unusedSimpArgs false

theorem lz_any (y : Nat) (w : World) (h : y < 18446744073709551616) : Calls Tryz.prog 143 #[.int .u64 (y : Int)] w fun e w' => e = .returned (.int .i64 (64 - (Lib.bitLen y : Int))) ∧ w' = w := by
  have h1 := Any.bits_LeadingZeros64 Tryz.laysLZ (y : Int) w (by omega) (by omega)
  rw [Int.toNat_natCast] at h1
  exact h1
theorem mul64_any (x y : Nat) (w : World) (hx : x < 18446744073709551616) (hy : y < 18446744073709551616) :
    Calls Tryz.prog 133 #[.int .u64 (x : Int), .int .u64 (y : Int)] w fun e w' => e = .returned (.tuple #[.int .u64 ((x * y / 18446744073709551616 : Nat) : Int), .int .u64 ((x * y % 18446744073709551616 : Nat) : Int)]) ∧ w' = w :=
  Any.bits_Mul64 Tryz.laysMul x y hx hy w
theorem add64_run (x y c : Nat) (hc : c ≤ 1) (w : World) : (callFunc 141 #[.int .u64 (x : Int), .int .u64 (y : Int), .int .u64 (c : Int)]).run Tryz.prog w =
    .ok (.value (.tuple #[.int .u64 (((x + y + c) % 18446744073709551616 : Nat) : Int), .int .u64 (((x + y + c) / 18446744073709551616 : Nat) : Int)])) w := Any7.bits_Add64 Tryz.laysAdd x y c hc w
theorem sub64_run (x y b : Nat) (hb : b ≤ 1) (w : World) : (callFunc 142 #[.int .u64 (x : Int), .int .u64 (y : Int), .int .u64 (b : Int)]).run Tryz.prog w =
    .ok (.value (.tuple #[.int .u64 (((x + 18446744073709551616 - y - b) % 18446744073709551616 : Nat) : Int), .int .u64 ((if x < y + b then 1 else 0 : Nat) : Int)])) w := Any7.bits_Sub64 Tryz.laysSub x y b hb w

end Go.Proofs.YtjgfgbiohbgcaaaGreat
