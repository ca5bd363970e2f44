/- math/bits.Mul64, LeadingZeros64, Add64, Sub64: the shelf's contracts laid here, in plain words. Conditions: the numbers in range. -/
import Derived.Test.YtjgfgbiohbgcaaaWpl
import Derived.Test.YtjgfgbiohbgcaaaProg
import Derived.Shelf.Small.Bits
import Derived.Shelf.Bits.Mul64
import Derived.Shelf.Spec.BitsCarry
import Derived.Ground.NamesProg
namespace Go.Proofs
open Go.Shelf
def Try.laysLZ_ren : Go.Shelf.Ren := ⟨fun | 134 => 118 | 129 => 124 | n => n, fun | 53 => 104 | 3 => 3 | 4 => 4 | 46 => 85 | 5 => 5 | 9 => 9 | n => n, fun | n => n⟩
theorem Try.laysLZ : Go.Proofs.Lays.n134 Try.prog Try.laysLZ_ren := {
  mixed := by kernel_rfl
  f129 := Try.func124.trans (congrArg some (by kernel_rfl))
  f134 := Try.func118.trans (congrArg some (by kernel_rfl))
  t3 := Try.underlying3
  a3 := Try.isAgg3
  z3 := Try.sizeOf3
  v3 := Try.zeroValue3
  t4 := Try.underlying4
  a4 := Try.isAgg4
  z4 := Try.sizeOf4
  v4 := Try.zeroValue4
  t5 := Try.underlying5
  a5 := Try.isAgg5
  z5 := Try.sizeOf5
  v5 := Try.zeroValue5
  t9 := Try.underlying9
  a9 := Try.isAgg9
  z9 := Try.sizeOf9
  v9 := Try.zeroValue9
  t46 := Try.underlying85
  a46 := Try.isAgg85
  z46 := Try.sizeOf85
  v46 := Try.zeroValue85
  t53 := Try.underlying104
  a53 := Try.isAgg104
  z53 := Try.sizeOf104
  v53 := Try.zeroValue104 }
def Try.laysMul_ren : Go.Shelf.Ren := ⟨fun | 264 => 103 | n => n, fun | 53 => 104 | 46 => 85 | n => n, fun | n => n⟩
theorem Try.laysMul : Go.Proofs.Lays.n264 Try.prog Try.laysMul_ren := {
  mixed := by kernel_rfl
  f264 := Try.func103.trans (congrArg some (by kernel_rfl))
  t46 := Try.underlying85
  a46 := Try.isAgg85
  z46 := Try.sizeOf85
  v46 := Try.zeroValue85
  t53 := Try.underlying104
  a53 := Try.isAgg104
  z53 := Try.sizeOf104
  v53 := Try.zeroValue104 }
def Try.laysAdd_ren : Go.Shelf.Ren := ⟨fun | 25 => 107 | n => n, fun | 22 => 104 | n => n, fun | n => n⟩
theorem Try.laysAdd : Go.Proofs.Lays7.n25 Try.prog Try.laysAdd_ren := {
  mixed := by kernel_rfl
  f25 := Try.func107.trans (congrArg some (by kernel_rfl))
  t22 := Try.underlying104
  a22 := Try.isAgg104
  z22 := Try.sizeOf104
  v22 := Try.zeroValue104
  i22 := by kernel_rfl }
def Try.laysSub_ren : Go.Shelf.Ren := ⟨fun | 26 => 108 | n => n, fun | 22 => 104 | n => n, fun | n => n⟩
theorem Try.laysSub : Go.Proofs.Lays7.n26 Try.prog Try.laysSub_ren := {
  mixed := by kernel_rfl
  f26 := Try.func108.trans (congrArg some (by kernel_rfl))
  t22 := Try.underlying104
  a22 := Try.isAgg104
  z22 := Try.sizeOf104
  v22 := Try.zeroValue104
  i22 := by kernel_rfl }
end Go.Proofs

namespace Go.Proofs.Ytjgfgbiohbgcaaa
open Go.RowKit
set_option linter.unusedVariables false
set_option linter.unusedSimpArgs false

theorem lz_any (y : Nat) (w : World) (h : y < 18446744073709551616) : Calls Try.prog 118 #[.int .u64 (y : Int)] w fun e w' => e = .returned (.int .i64 (64 - (Lib.bitLen y : Int))) ∧ w' = w := by
  have h1 := Any.bits_LeadingZeros64 Try.laysLZ (y : Int) w (by omega) (by omega)
  rw [Int.toNat_natCast] at h1
  exact h1
theorem mul64_any (x y : Nat) (w : World) (hx : x < 18446744073709551616) (hy : y < 18446744073709551616) :
    Calls Try.prog 103 #[.int .u64 (x : Int), .int .u64 (y : Int)] w fun e w' => e = .returned (.tuple #[.int .u64 ((x * y / 18446744073709551616 : Nat) : Int), .int .u64 ((x * y % 18446744073709551616 : Nat) : Int)]) ∧ w' = w :=
  Any.bits_Mul64 Try.laysMul x y hx hy w
theorem add64_run (x y c : Nat) (hc : c ≤ 1) (w : World) : (callFunc 107 #[.int .u64 (x : Int), .int .u64 (y : Int), .int .u64 (c : Int)]).run Try.prog w =
    .ok (.value (.tuple #[.int .u64 (((x + y + c) % 18446744073709551616 : Nat) : Int), .int .u64 (((x + y + c) / 18446744073709551616 : Nat) : Int)])) w := Any7.bits_Add64 Try.laysAdd x y c hc w
theorem sub64_run (x y b : Nat) (hb : b ≤ 1) (w : World) : (callFunc 108 #[.int .u64 (x : Int), .int .u64 (y : Int), .int .u64 (b : Int)]).run Try.prog w =
    .ok (.value (.tuple #[.int .u64 (((x + 18446744073709551616 - y - b) % 18446744073709551616 : Nat) : Int), .int .u64 ((if x < y + b then 1 else 0 : Nat) : Int)])) w := Any7.bits_Sub64 Try.laysSub x y b hb w

end Go.Proofs.Ytjgfgbiohbgcaaa
