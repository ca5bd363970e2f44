/- math/bits.Mul64, LeadingZeros64, Add64, Sub64: the shelf's contracts laid here, in plain words. Conditions: the numbers in range. -/
import Derived.Test.YtmpegbebjefkaaaWpl
import Derived.Test.YtmpegbebjefkaaaProg
import Derived.Shelf.Small.Bits
import Derived.Shelf.Bits.Mul64
import Derived.Shelf.Spec.BitsCarry
import Derived.Ground.NamesProg
namespace Go.Proofs
open Go.Shelf
def Try.laysLZ_ren : Go.Shelf.Ren := ⟨fun | 134 => 123 | 129 => 125 | n => n, fun | 53 => 86 | 3 => 3 | 4 => 4 | 46 => 124 | 5 => 5 | 9 => 9 | n => n, fun | n => n⟩
theorem Try.laysLZ : Go.Proofs.Lays.n134 Try.prog Try.laysLZ_ren := {
  mixed := by kernel_rfl
  f129 := Try.func125.trans (congrArg some (by kernel_rfl))
  f134 := Try.func123.trans (congrArg some (by kernel_rfl))
  t3 := Try.underlying3
  a3 := Try.isAgg3
  z3 := Try.sizeOf3
  v3 := Try.zeroValue3
  t4 := Try.underlying4
  a4 := Try.isAgg4
  z4 := Try.sizeOf4
  v4 := Try.zeroValue4
  t5 := Try.underlying5
  a5 := Try.isAgg5
  z5 := Try.sizeOf5
  v5 := Try.zeroValue5
  t9 := Try.underlying9
  a9 := Try.isAgg9
  z9 := Try.sizeOf9
  v9 := Try.zeroValue9
  t46 := Try.underlying124
  a46 := Try.isAgg124
  z46 := Try.sizeOf124
  v46 := Try.zeroValue124
  t53 := Try.underlying86
  a53 := Try.isAgg86
  z53 := Try.sizeOf86
  v53 := Try.zeroValue86 }
def Try.laysMul_ren : Go.Shelf.Ren := ⟨fun | 264 => 95 | n => n, fun | 53 => 86 | 46 => 124 | n => n, fun | n => n⟩
theorem Try.laysMul : Go.Proofs.Lays.n264 Try.prog Try.laysMul_ren := {
  mixed := by kernel_rfl
  f264 := Try.func95.trans (congrArg some (by kernel_rfl))
  t46 := Try.underlying124
  a46 := Try.isAgg124
  z46 := Try.sizeOf124
  v46 := Try.zeroValue124
  t53 := Try.underlying86
  a53 := Try.isAgg86
  z53 := Try.sizeOf86
  v53 := Try.zeroValue86 }
def Try.laysAdd_ren : Go.Shelf.Ren := ⟨fun | 25 => 124 | n => n, fun | 22 => 86 | n => n, fun | n => n⟩
theorem Try.laysAdd : Go.Proofs.Lays7.n25 Try.prog Try.laysAdd_ren := {
  mixed := by kernel_rfl
  f25 := Try.func124.trans (congrArg some (by kernel_rfl))
  t22 := Try.underlying86
  a22 := Try.isAgg86
  z22 := Try.sizeOf86
  v22 := Try.zeroValue86
  i22 := by kernel_rfl }
def Try.laysSub_ren : Go.Shelf.Ren := ⟨fun | 26 => 119 | n => n, fun | 22 => 86 | n => n, fun | n => n⟩
theorem Try.laysSub : Go.Proofs.Lays7.n26 Try.prog Try.laysSub_ren := {
  mixed := by kernel_rfl
  f26 := Try.func119.trans (congrArg some (by kernel_rfl))
  t22 := Try.underlying86
  a22 := Try.isAgg86
  z22 := Try.sizeOf86
  v22 := Try.zeroValue86
  i22 := by kernel_rfl }
end Go.Proofs

namespace Go.Proofs.Ytmpegbebjefkaaa
open Go.RowKit
set_option linter.unusedVariables false
set_option linter.unusedSimpArgs false

theorem lz_any (y : Nat) (w : World) (h : y < 18446744073709551616) : Calls Try.prog 123 #[.int .u64 (y : Int)] w fun e w' => e = .returned (.int .i64 (64 - (Lib.bitLen y : Int))) ∧ w' = w := by
  have h1 := Any.bits_LeadingZeros64 Try.laysLZ (y : Int) w (by omega) (by omega)
  rw [Int.toNat_natCast] at h1
  exact h1
theorem mul64_any (x y : Nat) (w : World) (hx : x < 18446744073709551616) (hy : y < 18446744073709551616) :
    Calls Try.prog 95 #[.int .u64 (x : Int), .int .u64 (y : Int)] w fun e w' => e = .returned (.tuple #[.int .u64 ((x * y / 18446744073709551616 : Nat) : Int), .int .u64 ((x * y % 18446744073709551616 : Nat) : Int)]) ∧ w' = w :=
  Any.bits_Mul64 Try.laysMul x y hx hy w
theorem add64_run (x y c : Nat) (hc : c ≤ 1) (w : World) : (callFunc 124 #[.int .u64 (x : Int), .int .u64 (y : Int), .int .u64 (c : Int)]).run Try.prog w =
    .ok (.value (.tuple #[.int .u64 (((x + y + c) % 18446744073709551616 : Nat) : Int), .int .u64 (((x + y + c) / 18446744073709551616 : Nat) : Int)])) w := Any7.bits_Add64 Try.laysAdd x y c hc w
theorem sub64_run (x y b : Nat) (hb : b ≤ 1) (w : World) : (callFunc 119 #[.int .u64 (x : Int), .int .u64 (y : Int), .int .u64 (b : Int)]).run Try.prog w =
    .ok (.value (.tuple #[.int .u64 (((x + 18446744073709551616 - y - b) % 18446744073709551616 : Nat) : Int), .int .u64 ((if x < y + b then 1 else 0 : Nat) : Int)])) w := Any7.bits_Sub64 Try.laysSub x y b hb w

end Go.Proofs.Ytmpegbebjefkaaa
