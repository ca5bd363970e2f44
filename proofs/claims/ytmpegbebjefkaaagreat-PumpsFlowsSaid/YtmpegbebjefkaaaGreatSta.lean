/- States as arguments: how they read, IndexFunc and ContainsFunc at states. Conditions: none. -/
import Derived.Test.YtmpegbebjefkaaaGreatRows
import Derived.BigRegion
import Derived.Test.YtmpegbebjefkaaaGreatRead
namespace Go.Proofs.YtmpegbebjefkaaaGreat
open Go.RowKit
set_option linter.unusedVariables false
set_option linter.unusedSimpArgs false

abbrev gI64 : World → Int → Prop := fun _ n => (Lit.int .i64 n).wf = true
abbrev eBool (b : Bool) : List Value := [.bool b]
abbrev gTrue {α : Type} : World → α → Prop := fun _ _ => True

theorem rdI : Rdr Tryz.prog 3 eInt 1 gI64 := rdInt (by kernel_rfl) (by kernel_rfl)
theorem rdInts : Rdr Tryz.prog 38 (fun s : Sl Int => [vSl s]) 1 (gSl eInt 1 gI64) := rdSlice rdI Nat.zero_lt_one (by kernel_rfl) (by kernel_rfl)

end Go.Proofs.YtmpegbebjefkaaaGreat
