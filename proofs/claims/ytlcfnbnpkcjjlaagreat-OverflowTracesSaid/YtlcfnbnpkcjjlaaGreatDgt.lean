/- The edges the other way around: digraph.turned. Conditions: at most a million edges. -/
import Derived.Test.YtlcfnbnpkcjjlaaGreatDga
import Derived.WalkSpells
import Derived.Ground.NamesProg
namespace Go.Proofs.YtlcfnbnpkcjjlaaGreat
open Go.RowKit
set_option linter.unusedVariables false
set_option linter.unusedSimpArgs false

theorem rev_snoc {E : List (Nat × Nat)} {k : Nat} (hk : k < E.length) : Gp.rev (E.take k) ++ [((E[k]).2, (E[k]).1)] = Gp.rev (E.take (k + 1)) := by
  rw [List.take_succ_eq_append_getElem hk]
  unfold Gp.rev
  rw [List.map_append]; rfl
theorem rev_len (E : List (Nat × Nat)) : (Gp.rev E).length = E.length := by simp [Gp.rev]

end Go.Proofs.YtlcfnbnpkcjjlaaGreat
