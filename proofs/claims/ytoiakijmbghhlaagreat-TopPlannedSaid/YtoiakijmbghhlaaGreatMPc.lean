/- planner.Solve at a small plan. Conditions: the plan lies in memory. | Rows that are made one behind the other; lists that lie in a block. No function is named. Conditions: none. -/
import Derived.Test.YtoiakijmbghhlaaGreatYpg
import Derived.Test.YtoiakijmbghhlaaGreatYpb
namespace Go.Proofs.YtoiakijmbghhlaaGreat
open Go.RowKit
set_option linter.unusedVariables false
set_option linter.unusedSimpArgs false

abbrev exP (ai al at' : Option Addr) : PlD := ⟨5, 10, 0, ⟨ai, 1, [3]⟩, ⟨al, 2, [0, 4]⟩, ⟨at', 1, [⟨0, 2⟩]⟩, 1⟩
theorem ex_ok (ai al at' : Option Addr) : planB (exP ai al at') = true := rfl
theorem ex_V (ai al at' : Option Addr) : Pn.V (plOf (exP ai al at')) [3] 5 = some 2 := rfl
theorem ex_rels (ai al at' : Option Addr) : rels (exP ai al at') = [0] := rfl
theorem ex_fits (ai al at' : Option Addr) : Fits (exP ai al at') := by
  have s0 : Pn.stepP (plOf (exP ai al at')) 5 3 0 = some (8, 2) := rfl
  have s1 : Pn.stepP (plOf (exP ai al at')) 5 3 1 = some (4, 2) := rfl
  refine ⟨[[5], [4, 8]], ⟨by decide, rfl, fun j hj => ?_, fun r hr => ?_, fun r hr v hv => ?_⟩, rfl⟩
  · have hj0 : j = 0 := by simp at hj; omega
    subst hj0
    refine ⟨by simp, fun x => ?_⟩
    show x ∈ [4, 8] ↔ RchS (exP ai al at') 3 [5] x
    constructor
    · intro h
      rcases List.mem_cons.1 h with rfl | h
      · exact ⟨5, by simp, 1, (show (1 : Nat) < 2 by decide), 2, s1⟩
      · rw [List.mem_singleton] at h
        subst h
        exact ⟨5, by simp, 0, (show (0 : Nat) < 2 by decide), 2, s0⟩
    · rintro ⟨v, hv, k, hk, c, hc⟩
      rw [List.mem_singleton] at hv
      subst hv
      have hk2 : k < 2 := hk
      have : k = 0 ∨ k = 1 := by omega
      rcases this with rfl | rfl
      · rw [s0] at hc; cases hc; simp
      · rw [s1] at hc; cases hc; simp
  · simp at hr
    rcases hr with rfl | rfl <;> simp
  · simp at hr
    rcases hr with rfl | rfl <;> simp at hv
    · subst hv; exact (show (0 : Int) ≤ 5 ∧ (5 : Int) ≤ 10 by decide)
    · rcases hv with rfl | rfl
      · exact (show (0 : Int) ≤ 4 ∧ (4 : Int) ≤ 10 by decide)
      · exact (show (0 : Int) ≤ 8 ∧ (8 : Int) ≤ 10 by decide)
theorem psolve_ex (ai al at' : Option Addr) (w : World) (hg : gPl w (exP ai al at')) : Calls Tryz.prog 19 #[vPl (exP ai al at')] w fun e w' => (∃ a c, e = .returned (.tuple #[.int .i64 2, .slice a 1 c, .int .i64 0]) ∧ IsInts w' (.slice a 1 c) [0]) ∧ Below w.heap.size w w' :=
  (psolve_any _ w hg).mono fun e w' h => by
    obtain ⟨⟨v, rfl, hv⟩, hb⟩ := h
    cases hv with
    | bad h => rw [ex_ok] at h; cases h
    | limit _ h => exact absurd (ex_fits ai al at') h
    | none _ _ h => rw [ex_V] at h; cases h
    | ok m u _ _ h hu =>
      rw [ex_V] at h
      cases h
      rw [ex_rels] at hu
      have hu' := hu
      obtain ⟨a, c, rfl, _⟩ := hu
      exact ⟨⟨a, c, rfl, hu'⟩, hb⟩

end Go.Proofs.YtoiakijmbghhlaaGreat

namespace Go.Proofs.YtoiakijmbghhlaaGreat
open Go.RowKit
set_option linter.unusedVariables false
set_option linter.unusedSimpArgs false

def allocs : World → List (Array Value × TypeId) → World
  | w, [] => w
  | w, x :: l => allocs (w.alloc (.cells x.1 x.2)) l
theorem allocs_below : ∀ (l : List (Array Value × TypeId)) (w : World), Below w.heap.size w (allocs w l)
  | [], w => Below.refl _ _
  | x :: l, w => by
    have h := allocs_below l (w.alloc (.cells x.1 x.2))
    exact ((Below.refl _ _).alloc (Nat.le_refl _) _).trans (h.mono (by simp))
theorem allocs_size : ∀ (l : List (Array Value × TypeId)) (w : World), (allocs w l).heap.size = w.heap.size + l.length
  | [], w => rfl
  | x :: l, w => by
    show (allocs (w.alloc (.cells x.1 x.2)) l).heap.size = _
    rw [allocs_size l]
    simp; omega
theorem allocs_at : ∀ (l : List (Array Value × TypeId)) (w : World) (i : Nat) (h : i < l.length), (allocs w l).heap[w.heap.size + i]? = some (.cells l[i].1 l[i].2 (0, 0))
  | x :: l, w, 0, _ => by
    have h := allocs_below l (w.alloc (.cells x.1 x.2))
    exact (h.block w.heap.size (by simp)).trans (heap_alloc_new w _)
  | x :: l, w, i + 1, hi => by
    have h := allocs_at l (w.alloc (.cells x.1 x.2)) i (by simpa using hi)
    rw [show (w.alloc (.cells x.1 x.2)).heap.size + i = w.heap.size + (i + 1) from by simp; omega] at h
    exact h
theorem isC_blk {α : Type} {enc : α → List Value} {k : Nat} {W : World} {b : Nat} {xs : List α} {cs : Array Value} {T : TypeId} (hk : ∀ x, (enc x).length = k) (hcs : cs = (xs.flatMap enc).toArray) (h : W.heap[b]? = some (.cells cs T (0, 0))) : IsC enc k W (some ⟨b, 0, none⟩) xs := by
  intro i hi
  refine ⟨b, 0, rfl, fun j hj => ?_⟩
  rw [tank_blk h, hcs, Nat.zero_add, List.getElem?_toArray]
  exact flat_get enc k hk xs i j hi hj
theorem isL_blk {α : Type} {enc : α → List Value} {k : Nat} {W : World} {b : Nat} {xs : List α} {cs : Array Value} {T : TypeId} (hk : ∀ x, (enc x).length = k) (hcs : cs = (xs.flatMap enc).toArray) (h : W.heap[b]? = some (.cells cs T (0, 0))) (hl : xs.length ≤ 9223372036854775807) : IsL enc k W (.slice (some ⟨b, 0, none⟩) xs.length xs.length) xs :=
  ⟨_, _, rfl, Nat.le_refl _, hl, isC_blk hk hcs h⟩
theorem gSl_blk {α : Type} {enc : α → List Value} {k : Nat} {W : World} {b : Nat} {xs : List α} {cs : Array Value} {T : TypeId} {good : World → α → Prop} (hk : ∀ x, (enc x).length = k) (hcs : cs = (xs.flatMap enc).toArray) (h : W.heap[b]? = some (.cells cs T (0, 0))) (hl : xs.length ≤ 9223372036854775807) (hg : ∀ x ∈ xs, good W x) : gSl enc k good W ⟨some ⟨b, 0, none⟩, xs.length, xs⟩ :=
  ⟨Nat.le_refl _, hl, isC_blk hk hcs h, hg⟩

end Go.Proofs.YtoiakijmbghhlaaGreat
