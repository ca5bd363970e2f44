/- The reference's energy; the example of the chapter; whether the chapter's examples hold. Conditions: none. -/
import Derived.Test.YtmpegbebjefkaaaGreatPpl
import Derived.Test.YtmpegbebjefkaaaGreatWrf
namespace Go.Proofs.YtmpegbebjefkaaaGreat
open Go.RowKit
set_option linter.unusedVariables false
set_option linter.unusedSimpArgs false

theorem r33depth_any (n : Int) (w : World) : Calls Tryz.prog 11 #[.int .i64 n] w fun e w' => e = .returned (.bool (btwB n 0 4194304)) ∧ w' = w := by
  by_cases h1 : 0 ≤ n <;> by_cases h2 : n ≤ 4194304
  all_goals
    go_enter Tryz.func11, Tryz.ntmps11
    go_wp2_with fail
    go_ret
    exact ⟨ret_bool (by simp [btwB, h1, h2]), rfl⟩

end Go.Proofs.YtmpegbebjefkaaaGreat
