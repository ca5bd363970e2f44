/- Way of the reference. Conditions: network and state read as data, the network is right, the index is a node's. -/
import Derived.Test.YtlcfnbnpkcjjlaaGreatMCau
import Derived.Test.YtlcfnbnpkcjjlaaGreatNwa
namespace Go.Proofs.YtlcfnbnpkcjjlaaGreat
open Go.RowKit
set_option linter.unusedVariables false
set_option linter.unusedSimpArgs false

def lenV : Value → Nat
  | .slice _ n _ => n
  | _ => 0
def WayOut (N : Nat) (c : Int) (e : Ending) (w' : World) : Prop := ∃ v ys, e = .returned v ∧ IsInts w' v ys ∧ 0 < ys.length ∧ 0 ≤ lastI ys ∧ lastI ys < (N : Int) ∧ lastI ys = c
def WayIs (N : Nat) (ys : List Int) : Prop := 0 < ys.length ∧ ys.Nodup ∧ ∀ y ∈ ys, 0 ≤ y ∧ y < (N : Int)

end Go.Proofs.YtlcfnbnpkcjjlaaGreat
