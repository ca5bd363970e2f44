/- slices.Sort at int, on a row of the call's own: the shelf's contract laid here. Conditions: the row is not empty. -/
import Derived.Test.YtdlaghjijfgncaaEvd
import Derived.Shelf.Sort.Plain
import Derived.Ground.NamesProg
import Derived.Sort.OwnSortedInts
namespace Go.Proofs
open Go.Shelf
def Try.laysSortInts_ren : Go.Shelf.Ren := ⟨fun | 189 => 49 | 125 => 65 | 257 => 64 | 128 => 78 | 129 => 79 | 294 => 69 | 295 => 70 | 296 => 71 | 297 => 72 | 298 => 73 | 299 => 74 | 216 => 75 | 300 => 76 | 301 => 77 | 328 => 82 | 329 => 83 | 330 => 84 | 331 => 85 | 332 => 86 | 215 => 68 | 343 => 88 | n => n, fun | 28 => 22 | 3 => 3 | 46 => 96 | 0 => 0 | 51 => 110 | 53 => 91 | 4 => 4 | 183 => 102 | 182 => 101 | 131 => 107 | 5 => 5 | 9 => 9 | 218 => 114 | 222 => 118 | 228 => 120 | 229 => 97 | n => n, fun | n => n⟩
theorem Try.laysSortInts : Go.Proofs.Lays.n189 Try.prog Try.laysSortInts_ren := {
  mixed := by kernel_rfl
  f125 := Try.func65.trans (congrArg some (by kernel_rfl))
  f128 := Try.func78.trans (congrArg some (by kernel_rfl))
  f129 := Try.func79.trans (congrArg some (by kernel_rfl))
  f189 := Try.func49.trans (congrArg some (by kernel_rfl))
  f215 := Try.func68.trans (congrArg some (by kernel_rfl))
  f216 := Try.func75.trans (congrArg some (by kernel_rfl))
  f257 := Try.func64.trans (congrArg some (by kernel_rfl))
  f294 := Try.func69.trans (congrArg some (by kernel_rfl))
  f295 := Try.func70.trans (congrArg some (by kernel_rfl))
  f296 := Try.func71.trans (congrArg some (by kernel_rfl))
  f297 := Try.func72.trans (congrArg some (by kernel_rfl))
  f298 := Try.func73.trans (congrArg some (by kernel_rfl))
  f299 := Try.func74.trans (congrArg some (by kernel_rfl))
  f300 := Try.func76.trans (congrArg some (by kernel_rfl))
  f301 := Try.func77.trans (congrArg some (by kernel_rfl))
  f328 := Try.func82.trans (congrArg some (by kernel_rfl))
  f329 := Try.func83.trans (congrArg some (by kernel_rfl))
  f330 := Try.func84.trans (congrArg some (by kernel_rfl))
  f331 := Try.func85.trans (congrArg some (by kernel_rfl))
  f332 := Try.func86.trans (congrArg some (by kernel_rfl))
  f343 := Try.func88.trans (congrArg some (by kernel_rfl))
  t0 := Try.underlying0
  a0 := Try.isAgg0
  z0 := Try.sizeOf0
  v0 := Try.zeroValue0
  t3 := Try.underlying3
  a3 := Try.isAgg3
  z3 := Try.sizeOf3
  v3 := Try.zeroValue3
  t4 := Try.underlying4
  a4 := Try.isAgg4
  z4 := Try.sizeOf4
  v4 := Try.zeroValue4
  t5 := Try.underlying5
  a5 := Try.isAgg5
  z5 := Try.sizeOf5
  v5 := Try.zeroValue5
  t9 := Try.underlying9
  a9 := Try.isAgg9
  z9 := Try.sizeOf9
  v9 := Try.zeroValue9
  t28 := Try.underlying22
  a28 := Try.isAgg22
  z28 := Try.sizeOf22
  v28 := Try.zeroValue22
  t46 := Try.underlying96
  a46 := Try.isAgg96
  z46 := Try.sizeOf96
  v46 := Try.zeroValue96
  t51 := Try.underlying110
  a51 := Try.isAgg110
  z51 := Try.sizeOf110
  v51 := Try.zeroValue110
  t53 := Try.underlying91
  a53 := Try.isAgg91
  z53 := Try.sizeOf91
  v53 := Try.zeroValue91
  t131 := Try.underlying107
  a131 := Try.isAgg107
  z131 := Try.sizeOf107
  v131 := Try.zeroValue107
  t182 := Try.underlying101
  a182 := Try.isAgg101
  z182 := Try.sizeOf101
  v182 := Try.zeroValue101
  t183 := Try.underlying102
  a183 := Try.isAgg102
  z183 := Try.sizeOf102
  v183 := Try.zeroValue102
  t218 := Try.underlying114
  a218 := Try.isAgg114
  z218 := Try.sizeOf114
  v218 := Try.zeroValue114
  t222 := Try.underlying118
  a222 := Try.isAgg118
  z222 := Try.sizeOf118
  v222 := Try.zeroValue118
  t228 := Try.underlying120
  a228 := Try.isAgg120
  z228 := Try.sizeOf120
  v228 := Try.zeroValue120
  t229 := Try.underlying97
  a229 := Try.isAgg97
  z229 := Try.sizeOf97
  v229 := Try.zeroValue97 }
end Go.Proofs

namespace Go.Proofs.Ytdlaghjijfgncaa
open Go.RowKit Go.Sort
set_option linter.unusedVariables false
set_option linter.unusedSimpArgs false

theorem flat_int (xs : List Int) : xs.flatMap eInt = xs.map (Value.int .i64) := by
  induction xs with
  | nil => rfl
  | cons x r ih => simp [ih]

theorem sortI_any (xs : List Int) (v : Value) (base : Nat) (w : World) (hown : Own base 3 eInt 1 w v xs) (h0 : 0 < xs.length) (hl : xs.length ≤ 1000000) :
    Calls Try.prog 49 #[v] w fun e w' => (e = .returned (.tuple #[]) ∧ Own base 3 eInt 1 w' v (xs.mergeSort fun x y => decide (x ≤ y))) ∧ Below base w w' := by
  have hlt := hown.lt
  rcases hown.2 with ⟨rfl, hn⟩ | ⟨g, cap, cur, rfl, hbase, hb, h1, h2, h3, h4⟩
  · omega
  · rw [Nat.mul_one, flat_int] at h4
    have hH := holds_of_blockI (ss := xs) hb h4
    have hgl : g < w.heap.size := (Array.getElem?_eq_some_iff.1 hb).1
    have hc := Any.slices_Sort_int Try.laysSortInts g 0 cap xs w hH hgl (by omega)
    refine Calls.mono (show Calls Try.prog 49 _ _ _ from hc) ?_
    rintro e w' ⟨rfl, n, os, rfl⟩
    have hlen : (xs.mergeSort fun x y => decide (x ≤ y)).length = xs.length := List.length_mergeSort _
    refine ⟨⟨rfl, ?_⟩, ?_⟩
    · have := ownsRow_sortedI (os := os) (w := w) (base := base) (cap := cap) (n := n) (ss := xs) (ts := xs.mergeSort fun x y => decide (x ≤ y)) hlen hbase hb h1 h2 h3
      unfold Own
      rw [flat_int, hlen]
      exact this
    · exact (Below.refl base w).grown (grownBy_sortedI _) (by omega) (fun j hj => by cases hj; exact hbase)

end Go.Proofs.Ytdlaghjijfgncaa
