/- slices.Index and Contains at int; the closures of the laws on pumps. Conditions: none. -/
import Derived.Test.YtmpegbebjefkaaaGreatPaw
namespace Go.Proofs.YtmpegbebjefkaaaGreat
open Go.RowKit
set_option linter.unusedVariables false
set_option linter.unusedSimpArgs false

end Go.Proofs.YtmpegbebjefkaaaGreat
