/- Joined of the reference for any gap. Conditions: the list is right. -/
import Derived.Test.YtdlaghjijfgncaaEvj
import Derived.Test.YtdlaghjijfgncaaEvj2
namespace Go.Proofs.Ytdlaghjijfgncaa
open Go.RowKit
set_option linter.unusedVariables false
set_option linter.unusedSimpArgs false

set_option maxHeartbeats 1000000 in
theorem r21joinG_any (l : List Ev) (v : Value) (gap : Int) (w : World) (hv : IsEvs w v l) (hvm : validM l = true) :
    Calls Try.prog 27 #[v, .int .i64 gap] w fun e w' => (∃ v', e = .returned (.tuple #[v', .int .i64 (joinM l gap).2]) ∧ Own w.heap.size 34 eEv 4 w' v' (joinM l gap).1) ∧ Below w.heap.size w w' := by
  by_cases q1 : gap < 0
  · rw [show joinM l gap = ([], 2) from by simp only [joinM, hvm, q1, true_or, if_true]; simp]
    have u1 := decide_eq_true q1
    go_enter Try.func27, Try.ntmps27
    go_wp2_with fail
    go_ret2
    exact ⟨⟨_, rfl, World.ownsRow_nil _ _ _ _⟩, Below.refl _ _⟩
  by_cases q2 : 10000 < gap
  · rw [show joinM l gap = ([], 2) from by simp only [joinM, hvm, q2, or_true, if_true]; simp]
    have u1 := decide_eq_false q1
    have u2 := decide_eq_true q2
    go_enter Try.func27, Try.ntmps27
    go_wp2_with fail
    go_ret2
    exact ⟨⟨_, rfl, World.ownsRow_nil _ _ _ _⟩, Below.refl _ _⟩
  have h := r21join_any l v gap w hv (validM_len hvm) (validM_all hvm) (by omega) (by omega)
  have e : joinM l gap = (if (joinGo gap l [] false).2 then [] else (joinGo gap l [] false).1, if (joinGo gap l [] false).2 then 5 else 0) := by
    simp only [joinM, hvm, q1, q2, or_self, if_false]
    cases (joinGo gap l [] false).2 <;> simp
  rw [e]
  exact h

end Go.Proofs.Ytdlaghjijfgncaa
