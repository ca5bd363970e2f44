/- math/bits.Mul64, LeadingZeros64, Add64, Sub64: the shelf's contracts laid here, in plain words. Conditions: the numbers in range. -/
import Derived.Test.YtjgfgbiohbgcaaaGreatWpl
import Derived.Test.YtjgfgbiohbgcaaaGreatProg
import Derived.Shelf.Small.Bits
import Derived.Shelf.Bits.Mul64
import Derived.Shelf.Spec.BitsCarry
import Derived.Ground.NamesProg
namespace Go.Proofs
open Go.Shelf
def Tryz.laysLZ_ren : Go.Shelf.Ren := ⟨fun | 134 => 143 | 129 => 144 | n => n, fun | 53 => 112 | 3 => 3 | 4 => 4 | 46 => 104 | 5 => 5 | 9 => 9 | n => n, fun | n => n⟩
theorem Tryz.laysLZ : Go.Proofs.Lays.n134 Tryz.prog Tryz.laysLZ_ren := {
  mixed := by kernel_rfl
  f129 := Tryz.func144.trans (congrArg some (by kernel_rfl))
  f134 := Tryz.func143.trans (congrArg some (by kernel_rfl))
  t3 := Tryz.underlying3
  a3 := Tryz.isAgg3
  z3 := Tryz.sizeOf3
  v3 := Tryz.zeroValue3
  t4 := Tryz.underlying4
  a4 := Tryz.isAgg4
  z4 := Tryz.sizeOf4
  v4 := Tryz.zeroValue4
  t5 := Tryz.underlying5
  a5 := Tryz.isAgg5
  z5 := Tryz.sizeOf5
  v5 := Tryz.zeroValue5
  t9 := Tryz.underlying9
  a9 := Tryz.isAgg9
  z9 := Tryz.sizeOf9
  v9 := Tryz.zeroValue9
  t46 := Tryz.underlying104
  a46 := Tryz.isAgg104
  z46 := Tryz.sizeOf104
  v46 := Tryz.zeroValue104
  t53 := Tryz.underlying112
  a53 := Tryz.isAgg112
  z53 := Tryz.sizeOf112
  v53 := Tryz.zeroValue112 }
def Tryz.laysMul_ren : Go.Shelf.Ren := ⟨fun | 264 => 133 | n => n, fun | 53 => 112 | 46 => 104 | n => n, fun | n => n⟩
theorem Tryz.laysMul : Go.Proofs.Lays.n264 Tryz.prog Tryz.laysMul_ren := {
  mixed := by kernel_rfl
  f264 := Tryz.func133.trans (congrArg some (by kernel_rfl))
  t46 := Tryz.underlying104
  a46 := Tryz.isAgg104
  z46 := Tryz.sizeOf104
  v46 := Tryz.zeroValue104
  t53 := Tryz.underlying112
  a53 := Tryz.isAgg112
  z53 := Tryz.sizeOf112
  v53 := Tryz.zeroValue112 }
def Tryz.laysAdd_ren : Go.Shelf.Ren := ⟨fun | 25 => 141 | n => n, fun | 22 => 112 | n => n, fun | n => n⟩
theorem Tryz.laysAdd : Go.Proofs.Lays7.n25 Tryz.prog Tryz.laysAdd_ren := {
  mixed := by kernel_rfl
  f25 := Tryz.func141.trans (congrArg some (by kernel_rfl))
  t22 := Tryz.underlying112
  a22 := Tryz.isAgg112
  z22 := Tryz.sizeOf112
  v22 := Tryz.zeroValue112
  i22 := by kernel_rfl }
def Tryz.laysSub_ren : Go.Shelf.Ren := ⟨fun | 26 => 142 | n => n, fun | 22 => 112 | n => n, fun | n => n⟩
theorem Tryz.laysSub : Go.Proofs.Lays7.n26 Tryz.prog Tryz.laysSub_ren := {
  mixed := by kernel_rfl
  f26 := Tryz.func142.trans (congrArg some (by kernel_rfl))
  t22 := Tryz.underlying112
  a22 := Tryz.isAgg112
  z22 := Tryz.sizeOf112
  v22 := Tryz.zeroValue112
  i22 := by kernel_rfl }
end Go.Proofs

namespace Go.Proofs.YtjgfgbiohbgcaaaGreat
open Go.RowKit
set_option linter.unusedVariables false
set_option linter.unusedSimpArgs false

theorem lz_any (y : Nat) (w : World) (h : y < 18446744073709551616) : Calls Tryz.prog 143 #[.int .u64 (y : Int)] w fun e w' => e = .returned (.int .i64 (64 - (Lib.bitLen y : Int))) ∧ w' = w := by
  have h1 := Any.bits_LeadingZeros64 Tryz.laysLZ (y : Int) w (by omega) (by omega)
  rw [Int.toNat_natCast] at h1
  exact h1
theorem mul64_any (x y : Nat) (w : World) (hx : x < 18446744073709551616) (hy : y < 18446744073709551616) :
    Calls Tryz.prog 133 #[.int .u64 (x : Int), .int .u64 (y : Int)] w fun e w' => e = .returned (.tuple #[.int .u64 ((x * y / 18446744073709551616 : Nat) : Int), .int .u64 ((x * y % 18446744073709551616 : Nat) : Int)]) ∧ w' = w :=
  Any.bits_Mul64 Tryz.laysMul x y hx hy w
theorem add64_run (x y c : Nat) (hc : c ≤ 1) (w : World) : (callFunc 141 #[.int .u64 (x : Int), .int .u64 (y : Int), .int .u64 (c : Int)]).run Tryz.prog w =
    .ok (.value (.tuple #[.int .u64 (((x + y + c) % 18446744073709551616 : Nat) : Int), .int .u64 (((x + y + c) / 18446744073709551616 : Nat) : Int)])) w := Any7.bits_Add64 Tryz.laysAdd x y c hc w
theorem sub64_run (x y b : Nat) (hb : b ≤ 1) (w : World) : (callFunc 142 #[.int .u64 (x : Int), .int .u64 (y : Int), .int .u64 (b : Int)]).run Tryz.prog w =
    .ok (.value (.tuple #[.int .u64 (((x + 18446744073709551616 - y - b) % 18446744073709551616 : Nat) : Int), .int .u64 ((if x < y + b then 1 else 0 : Nat) : Int)])) w := Any7.bits_Sub64 Tryz.laysSub x y b hb w

end Go.Proofs.YtjgfgbiohbgcaaaGreat
