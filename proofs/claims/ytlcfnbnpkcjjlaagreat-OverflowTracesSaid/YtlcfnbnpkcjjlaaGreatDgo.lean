/- slices.Sort at []int, on a row of the call's own: the shelf's contract laid here. Conditions: at most a million elements. -/
import Derived.Test.YtlcfnbnpkcjjlaaGreatDgs
import Derived.Shelf.Sort.Plain
import Derived.Shelf.Slices.In.SortNone
import Derived.Ground.NamesProg
namespace Go.Proofs
open Go.Shelf
def Tryz.laysSort_ren : Go.Shelf.Ren := ⟨fun | 189 => 107 | 125 => 118 | 257 => 117 | 128 => 129 | 129 => 130 | 294 => 121 | 295 => 122 | 296 => 123 | 297 => 124 | 298 => 125 | 299 => 126 | 216 => 109 | 300 => 127 | 301 => 128 | 328 => 132 | 329 => 133 | 330 => 134 | 331 => 135 | 332 => 136 | 215 => 74 | 343 => 137 | n => n, fun | 28 => 26 | 3 => 3 | 46 => 128 | 0 => 0 | 51 => 140 | 53 => 142 | 4 => 4 | 183 => 134 | 182 => 133 | 131 => 115 | 5 => 5 | 9 => 9 | 218 => 143 | 222 => 147 | 228 => 149 | 229 => 150 | n => n, fun | n => n⟩
theorem Tryz.laysSort : Go.Proofs.Lays.n189 Tryz.prog Tryz.laysSort_ren := {
  mixed := by kernel_rfl
  f125 := Tryz.func118.trans (congrArg some (by kernel_rfl))
  f128 := Tryz.func129.trans (congrArg some (by kernel_rfl))
  f129 := Tryz.func130.trans (congrArg some (by kernel_rfl))
  f189 := Tryz.func107.trans (congrArg some (by kernel_rfl))
  f215 := Tryz.func74.trans (congrArg some (by kernel_rfl))
  f216 := Tryz.func109.trans (congrArg some (by kernel_rfl))
  f257 := Tryz.func117.trans (congrArg some (by kernel_rfl))
  f294 := Tryz.func121.trans (congrArg some (by kernel_rfl))
  f295 := Tryz.func122.trans (congrArg some (by kernel_rfl))
  f296 := Tryz.func123.trans (congrArg some (by kernel_rfl))
  f297 := Tryz.func124.trans (congrArg some (by kernel_rfl))
  f298 := Tryz.func125.trans (congrArg some (by kernel_rfl))
  f299 := Tryz.func126.trans (congrArg some (by kernel_rfl))
  f300 := Tryz.func127.trans (congrArg some (by kernel_rfl))
  f301 := Tryz.func128.trans (congrArg some (by kernel_rfl))
  f328 := Tryz.func132.trans (congrArg some (by kernel_rfl))
  f329 := Tryz.func133.trans (congrArg some (by kernel_rfl))
  f330 := Tryz.func134.trans (congrArg some (by kernel_rfl))
  f331 := Tryz.func135.trans (congrArg some (by kernel_rfl))
  f332 := Tryz.func136.trans (congrArg some (by kernel_rfl))
  f343 := Tryz.func137.trans (congrArg some (by kernel_rfl))
  t0 := Tryz.underlying0
  a0 := Tryz.isAgg0
  z0 := Tryz.sizeOf0
  v0 := Tryz.zeroValue0
  t3 := Tryz.underlying3
  a3 := Tryz.isAgg3
  z3 := Tryz.sizeOf3
  v3 := Tryz.zeroValue3
  t4 := Tryz.underlying4
  a4 := Tryz.isAgg4
  z4 := Tryz.sizeOf4
  v4 := Tryz.zeroValue4
  t5 := Tryz.underlying5
  a5 := Tryz.isAgg5
  z5 := Tryz.sizeOf5
  v5 := Tryz.zeroValue5
  t9 := Tryz.underlying9
  a9 := Tryz.isAgg9
  z9 := Tryz.sizeOf9
  v9 := Tryz.zeroValue9
  t28 := Tryz.underlying26
  a28 := Tryz.isAgg26
  z28 := Tryz.sizeOf26
  v28 := Tryz.zeroValue26
  t46 := Tryz.underlying128
  a46 := Tryz.isAgg128
  z46 := Tryz.sizeOf128
  v46 := Tryz.zeroValue128
  t51 := Tryz.underlying140
  a51 := Tryz.isAgg140
  z51 := Tryz.sizeOf140
  v51 := Tryz.zeroValue140
  t53 := Tryz.underlying142
  a53 := Tryz.isAgg142
  z53 := Tryz.sizeOf142
  v53 := Tryz.zeroValue142
  t131 := Tryz.underlying115
  a131 := Tryz.isAgg115
  z131 := Tryz.sizeOf115
  v131 := Tryz.zeroValue115
  t182 := Tryz.underlying133
  a182 := Tryz.isAgg133
  z182 := Tryz.sizeOf133
  v182 := Tryz.zeroValue133
  t183 := Tryz.underlying134
  a183 := Tryz.isAgg134
  z183 := Tryz.sizeOf134
  v183 := Tryz.zeroValue134
  t218 := Tryz.underlying143
  a218 := Tryz.isAgg143
  z218 := Tryz.sizeOf143
  v218 := Tryz.zeroValue143
  t222 := Tryz.underlying147
  a222 := Tryz.isAgg147
  z222 := Tryz.sizeOf147
  v222 := Tryz.zeroValue147
  t228 := Tryz.underlying149
  a228 := Tryz.isAgg149
  z228 := Tryz.sizeOf149
  v228 := Tryz.zeroValue149
  t229 := Tryz.underlying150
  a229 := Tryz.isAgg150
  z229 := Tryz.sizeOf150
  v229 := Tryz.zeroValue150 }

end Go.Proofs

namespace Go.Proofs.YtlcfnbnpkcjjlaaGreat
open Go.RowKit Go.Sort
set_option linter.unusedVariables false
set_option linter.unusedSimpArgs false

theorem sortN_any (xs : List Nat) (v : Value) (base : Nat) (w : World) (hown : Own base 3 eNat 1 w v xs) (hl : xs.length ≤ 1000000) :
    Calls Tryz.prog 107 #[v] w fun e w' => e = .returned (.tuple #[]) ∧ w.grownBy w' v.ownBlock ∧ ∃ ys : List Nat, ys.Perm xs ∧ ys.Pairwise (· ≤ ·) ∧ Own base 3 eNat 1 w' v ys := by
  by_cases h0 : xs = []
  · subst h0
    obtain ⟨a, c, rfl⟩ := hown.isSlice
    refine Calls.mono (show Calls Tryz.prog 107 _ _ _ from Any.slices_Sort_int_none Tryz.laysSort a c w) ?_
    rintro e w' ⟨rfl, rfl⟩
    exact ⟨rfl, World.grownBy.refl _ _, [], List.Perm.refl _, List.Pairwise.nil, hown⟩
  · rcases hown.2 with ⟨rfl, hn⟩ | ⟨g, cap, cur, rfl, hbase, hb, h1, h2, h3, h4⟩
    · exact absurd (List.eq_nil_of_length_eq_zero hn) h0
    · rw [Nat.mul_one, flat_nat] at h4
      have hH := holds_of_blockI (ss := nzs xs) hb (by rw [ints_len]; exact h4)
      have hgl : g < w.heap.size := (Array.getElem?_eq_some_iff.1 hb).1
      have hc := Any.slices_Sort_int Tryz.laysSort g 0 cap (nzs xs) w hH hgl (by rw [ints_len]; omega)
      rw [ints_len] at hc
      refine Calls.mono (show Calls Tryz.prog 107 _ _ _ from hc) ?_
      rintro e w' ⟨rfl, n, os, rfl⟩
      obtain ⟨ys, hy, hp⟩ := perm_ints (List.mergeSort_perm (nzs xs) fun x y => decide (x ≤ y))
      have hlen : ((nzs xs).mergeSort fun x y => decide (x ≤ y)).length = (nzs xs).length := List.length_mergeSort _
      have hsort := List.pairwise_mergeSort (le := fun x y : Int => decide (x ≤ y)) (fun a b c h1 h2 => by simp at *; omega) (fun a b => by simp; omega) (nzs xs)
      refine ⟨rfl, grownBy_sortedI _, ys, hp, ?_, ?_⟩
      · rw [hy] at hsort
        unfold nzs at hsort
        rw [List.pairwise_map] at hsort
        exact hsort.imp (fun q => by simp at q; exact q)
      · have := ownsRow_sortedI (os := os) (w := w) (base := base) (cap := cap) (n := n) (ss := nzs xs) (ts := (nzs xs).mergeSort fun x y => decide (x ≤ y)) hlen hbase hb (by rw [ints_len]; exact h1) h2 h3
        have hyl : ys.length = xs.length := hp.length_eq
        unfold Own
        rw [hy] at this ⊢
        rw [flat_nat, hyl]
        rw [ints_len] at this
        exact this

end Go.Proofs.YtlcfnbnpkcjjlaaGreat
