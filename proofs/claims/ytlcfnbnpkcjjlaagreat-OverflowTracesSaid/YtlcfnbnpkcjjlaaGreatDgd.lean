/- Shortest lengths: digraph.distances. Conditions: the edges lie among the nodes. -/
import Derived.Test.YtlcfnbnpkcjjlaaGreatDgn
import Derived.Test.YtlcfnbnpkcjjlaaGreatDgt
import Derived.Test.YtlcfnbnpkcjjlaaGreatMGp
namespace Go.Proofs.YtlcfnbnpkcjjlaaGreat
open Go.RowKit
set_option linter.unusedVariables false
set_option linter.unusedSimpArgs false

theorem Own.seti {base : Nat} {e : TypeId} {w : World} {g n c : Nat} {xs : List Int} (h : Own base e eInt 1 w (.slice (some ⟨g, 0, none⟩) n c) xs) (i : Nat) (hi : i < xs.length) (y : Int) :
    Own base e eInt 1 (w.setCell ⟨g, i, none⟩ (.int .i64 y)) (.slice (some ⟨g, 0, none⟩) n c) (xs.set i y) := by
  have := Own.store (enc := eInt) (k := 1) (fun _ => rfl) h i 0 hi Nat.zero_lt_one (.int .i64 y) y rfl
  simpa using this
theorem Own.inti {base : Nat} {e : TypeId} {w : World} {g n c : Nat} {xs : List Int} (h : Own base e eInt 1 w (.slice (some ⟨g, 0, none⟩) n c) xs) (i : Nat) (hi : i < xs.length) : w.cell? ⟨g, i, none⟩ = some (.int .i64 xs[i]) := by
  have := Own.cellAt' (enc := eInt) (k := 1) (fun _ => rfl) h i 0 hi Nat.zero_lt_one
  simpa using this
theorem fill_set (n k : Nat) (x y : Int) (hk : k < n) : (List.replicate k x ++ List.replicate (n - k) y).set k x = List.replicate (k + 1) x ++ List.replicate (n - (k + 1)) y := by
  apply List.ext_getElem
  · simp; omega
  · intro i h1 h2
    by_cases hi : k = i
    · subst hi
      rw [List.getElem_set_self, List.getElem_append_left (by simp), List.getElem_replicate]
    · rw [List.getElem_set_ne hi]
      by_cases hlt : i < k
      · rw [List.getElem_append_left (by simpa using hlt), List.getElem_append_left (by simp; omega), List.getElem_replicate, List.getElem_replicate]
      · rw [List.getElem_append_right (by simp; omega), List.getElem_append_right (by simp; omega), List.getElem_replicate, List.getElem_replicate]
theorem getD_at {α : Type} {xs : List α} {i : Nat} (hi : i < xs.length) (d : α) : xs.getD i d = xs[i] := by simp [List.getD, hi]
theorem begB_len {n b : Nat} (rd : Bool) : (Gp.begB n b rd).length = n := by
  unfold Gp.begB Gp.begS; split <;> simp
theorem neg_le (out : List Int) : Gp.neg out ≤ out.length := List.countP_le_length

theorem Own.isC {α : Type} {base : Nat} {e : TypeId} {enc : α → List Value} {k : Nat} {w : World} {a : Option Addr} {n c : Nat} {xs : List α} (h : Own base e enc k w (.slice a n c) xs) (hk : ∀ x, (enc x).length = k := by intro _; rfl) : IsC enc k w a xs := by
  obtain ⟨a', c', e, _, _, h3⟩ := h.isL hk
  simp only [Value.slice.injEq] at e
  obtain ⟨rfl, _, _⟩ := e
  exact h3

end Go.Proofs.YtlcfnbnpkcjjlaaGreat
