/- slices.Sort at int, on a row of the call's own: the shelf's contract laid here. Conditions: the row is not empty. -/
import Derived.Test.YtdlaghjijfgncaaEvd
import Derived.Shelf.Sort.Plain
import Derived.Shelf.Lay
import Derived.Ground.NamesProg
import Derived.Sort.OwnSortedInts
namespace Go.Proofs
open Go.Shelf
shelf_lay Lays.n189 Nm 189 at Try as Try.laysSortInts
end Go.Proofs

namespace Go.Proofs.Ytdlaghjijfgncaa
open Go.RowKit Go.Sort
set_option linter.unusedVariables false
set_option linter.unusedSimpArgs false

theorem flat_int (xs : List Int) : xs.flatMap eInt = xs.map (Value.int .i64) := by
  induction xs with
  | nil => rfl
  | cons x r ih => simp [ih]

theorem sortI_any (xs : List Int) (v : Value) (base : Nat) (w : World) (hown : Own base 3 eInt 1 w v xs) (h0 : 0 < xs.length) (hl : xs.length ≤ 1000000) :
    Calls Try.prog 49 #[v] w fun e w' => (e = .returned (.tuple #[]) ∧ Own base 3 eInt 1 w' v (xs.mergeSort fun x y => decide (x ≤ y))) ∧ Below base w w' := by
  have hlt := hown.lt
  rcases hown.2 with ⟨rfl, hn⟩ | ⟨g, cap, cur, rfl, hbase, hb, h1, h2, h3, h4⟩
  · omega
  · rw [Nat.mul_one, flat_int] at h4
    have hH := holds_of_blockI (ss := xs) hb h4
    have hgl : g < w.heap.size := (Array.getElem?_eq_some_iff.1 hb).1
    have hc := Any.slices_Sort_int Try.laysSortInts g 0 cap xs w hH hgl (by omega)
    refine Calls.mono (show Calls Try.prog 49 _ _ _ from hc) ?_
    rintro e w' ⟨rfl, n, os, rfl⟩
    have hlen : (xs.mergeSort fun x y => decide (x ≤ y)).length = xs.length := List.length_mergeSort _
    refine ⟨⟨rfl, ?_⟩, ?_⟩
    · have := ownsRow_sortedI (os := os) (w := w) (base := base) (cap := cap) (n := n) (ss := xs) (ts := xs.mergeSort fun x y => decide (x ≤ y)) hlen hbase hb h1 h2 h3
      unfold Own
      rw [flat_int, hlen]
      exact this
    · exact (Below.refl base w).grown (grownBy_sortedI _) (by omega) (fun j hj => by cases hj; exact hbase)

end Go.Proofs.Ytdlaghjijfgncaa
