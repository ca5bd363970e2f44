/- slices.Sort at []int, on a row of the call's own: the shelf's contract laid here. Conditions: at most a million elements. -/
import Derived.Test.YthnhlaljnkdmfaaDgs
import Derived.Shelf.Sort.Plain
import Derived.Shelf.Slices.In.SortNone
import Derived.Ground.NamesProg
namespace Go.Proofs
open Go.Shelf
def Try.laysSort_ren : Go.Shelf.Ren := ⟨fun | 189 => 62 | 125 => 72 | 257 => 71 | 128 => 83 | 129 => 84 | 294 => 75 | 295 => 76 | 296 => 77 | 297 => 78 | 298 => 79 | 299 => 80 | 216 => 67 | 300 => 81 | 301 => 82 | 328 => 86 | 329 => 87 | 330 => 88 | 331 => 89 | 332 => 90 | 215 => 73 | 343 => 91 | n => n, fun | 28 => 25 | 3 => 3 | 46 => 79 | 0 => 0 | 51 => 91 | 53 => 93 | 4 => 4 | 183 => 85 | 182 => 84 | 131 => 72 | 5 => 5 | 9 => 9 | 218 => 94 | 222 => 98 | 228 => 100 | 229 => 101 | n => n, fun | n => n⟩
theorem Try.laysSort : Go.Proofs.Lays.n189 Try.prog Try.laysSort_ren := {
  mixed := by kernel_rfl
  f125 := Try.func72.trans (congrArg some (by kernel_rfl))
  f128 := Try.func83.trans (congrArg some (by kernel_rfl))
  f129 := Try.func84.trans (congrArg some (by kernel_rfl))
  f189 := Try.func62.trans (congrArg some (by kernel_rfl))
  f215 := Try.func73.trans (congrArg some (by kernel_rfl))
  f216 := Try.func67.trans (congrArg some (by kernel_rfl))
  f257 := Try.func71.trans (congrArg some (by kernel_rfl))
  f294 := Try.func75.trans (congrArg some (by kernel_rfl))
  f295 := Try.func76.trans (congrArg some (by kernel_rfl))
  f296 := Try.func77.trans (congrArg some (by kernel_rfl))
  f297 := Try.func78.trans (congrArg some (by kernel_rfl))
  f298 := Try.func79.trans (congrArg some (by kernel_rfl))
  f299 := Try.func80.trans (congrArg some (by kernel_rfl))
  f300 := Try.func81.trans (congrArg some (by kernel_rfl))
  f301 := Try.func82.trans (congrArg some (by kernel_rfl))
  f328 := Try.func86.trans (congrArg some (by kernel_rfl))
  f329 := Try.func87.trans (congrArg some (by kernel_rfl))
  f330 := Try.func88.trans (congrArg some (by kernel_rfl))
  f331 := Try.func89.trans (congrArg some (by kernel_rfl))
  f332 := Try.func90.trans (congrArg some (by kernel_rfl))
  f343 := Try.func91.trans (congrArg some (by kernel_rfl))
  t0 := Try.underlying0
  a0 := Try.isAgg0
  z0 := Try.sizeOf0
  v0 := Try.zeroValue0
  t3 := Try.underlying3
  a3 := Try.isAgg3
  z3 := Try.sizeOf3
  v3 := Try.zeroValue3
  t4 := Try.underlying4
  a4 := Try.isAgg4
  z4 := Try.sizeOf4
  v4 := Try.zeroValue4
  t5 := Try.underlying5
  a5 := Try.isAgg5
  z5 := Try.sizeOf5
  v5 := Try.zeroValue5
  t9 := Try.underlying9
  a9 := Try.isAgg9
  z9 := Try.sizeOf9
  v9 := Try.zeroValue9
  t28 := Try.underlying25
  a28 := Try.isAgg25
  z28 := Try.sizeOf25
  v28 := Try.zeroValue25
  t46 := Try.underlying79
  a46 := Try.isAgg79
  z46 := Try.sizeOf79
  v46 := Try.zeroValue79
  t51 := Try.underlying91
  a51 := Try.isAgg91
  z51 := Try.sizeOf91
  v51 := Try.zeroValue91
  t53 := Try.underlying93
  a53 := Try.isAgg93
  z53 := Try.sizeOf93
  v53 := Try.zeroValue93
  t131 := Try.underlying72
  a131 := Try.isAgg72
  z131 := Try.sizeOf72
  v131 := Try.zeroValue72
  t182 := Try.underlying84
  a182 := Try.isAgg84
  z182 := Try.sizeOf84
  v182 := Try.zeroValue84
  t183 := Try.underlying85
  a183 := Try.isAgg85
  z183 := Try.sizeOf85
  v183 := Try.zeroValue85
  t218 := Try.underlying94
  a218 := Try.isAgg94
  z218 := Try.sizeOf94
  v218 := Try.zeroValue94
  t222 := Try.underlying98
  a222 := Try.isAgg98
  z222 := Try.sizeOf98
  v222 := Try.zeroValue98
  t228 := Try.underlying100
  a228 := Try.isAgg100
  z228 := Try.sizeOf100
  v228 := Try.zeroValue100
  t229 := Try.underlying101
  a229 := Try.isAgg101
  z229 := Try.sizeOf101
  v229 := Try.zeroValue101 }

end Go.Proofs

namespace Go.Proofs.Ythnhlaljnkdmfaa
open Go.RowKit Go.Sort
set_option linter.unusedVariables false
set_option linter.unusedSimpArgs false

theorem sortN_any (xs : List Nat) (v : Value) (base : Nat) (w : World) (hown : Own base 3 eNat 1 w v xs) (hl : xs.length ≤ 1000000) :
    Calls Try.prog 62 #[v] w fun e w' => e = .returned (.tuple #[]) ∧ w.grownBy w' v.ownBlock ∧ ∃ ys : List Nat, ys.Perm xs ∧ ys.Pairwise (· ≤ ·) ∧ Own base 3 eNat 1 w' v ys := by
  by_cases h0 : xs = []
  · subst h0
    obtain ⟨a, c, rfl⟩ := hown.isSlice
    refine Calls.mono (show Calls Try.prog 62 _ _ _ from Any.slices_Sort_int_none Try.laysSort a c w) ?_
    rintro e w' ⟨rfl, rfl⟩
    exact ⟨rfl, World.grownBy.refl _ _, [], List.Perm.refl _, List.Pairwise.nil, hown⟩
  · rcases hown.2 with ⟨rfl, hn⟩ | ⟨g, cap, cur, rfl, hbase, hb, h1, h2, h3, h4⟩
    · exact absurd (List.eq_nil_of_length_eq_zero hn) h0
    · rw [Nat.mul_one, flat_nat] at h4
      have hH := holds_of_blockI (ss := nzs xs) hb (by rw [ints_len]; exact h4)
      have hgl : g < w.heap.size := (Array.getElem?_eq_some_iff.1 hb).1
      have hc := Any.slices_Sort_int Try.laysSort g 0 cap (nzs xs) w hH hgl (by rw [ints_len]; omega)
      rw [ints_len] at hc
      refine Calls.mono (show Calls Try.prog 62 _ _ _ from hc) ?_
      rintro e w' ⟨rfl, n, os, rfl⟩
      obtain ⟨ys, hy, hp⟩ := perm_ints (List.mergeSort_perm (nzs xs) fun x y => decide (x ≤ y))
      have hlen : ((nzs xs).mergeSort fun x y => decide (x ≤ y)).length = (nzs xs).length := List.length_mergeSort _
      have hsort := List.pairwise_mergeSort (le := fun x y : Int => decide (x ≤ y)) (fun a b c h1 h2 => by simp at *; omega) (fun a b => by simp; omega) (nzs xs)
      refine ⟨rfl, grownBy_sortedI _, ys, hp, ?_, ?_⟩
      · rw [hy] at hsort
        unfold nzs at hsort
        rw [List.pairwise_map] at hsort
        exact hsort.imp (fun q => by simp at q; exact q)
      · have := ownsRow_sortedI (os := os) (w := w) (base := base) (cap := cap) (n := n) (ss := nzs xs) (ts := (nzs xs).mergeSort fun x y => decide (x ≤ y)) hlen hbase hb (by rw [ints_len]; exact h1) h2 h3
        have hyl : ys.length = xs.length := hp.length_eq
        unfold Own
        rw [hy] at this ⊢
        rw [flat_nat, hyl]
        rw [ints_len] at this
        exact this

end Go.Proofs.Ythnhlaljnkdmfaa
