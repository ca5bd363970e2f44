/-
  No cell of these rows narrows 'for every input' (looked for: loops, veiled, ifaces, maps, wideKeys, modest, calm, conditions, laid).
  DERIVED. THE GIVEN ROWS OF THIS SEAT. 8 by the template 'for every input the law returns true; each argument reads behind the call as it read before'; 0 by the template 'total and deterministic' (their statements: YthnhlaljnkdmfaaTotals.lean).
  GIVEN WITH THE SEED: the statements are not yours to turn. If you find one false, say at which input.
  Laid BY PROGRAM, IN A SANDBOX (cutbox-rows.mjs): the forced cells as the released guide's own fill.sh prints them over the translation a781841fe015470e… (all of the seat's roots in one cut). By AI agents, Wed Nov 11 2026. No macro, syntax, notation, axiom, sorry.
-/
import Derived.Test.YthnhlaljnkdmfaaChecked
import GoSem.Claim
import GoSem.ClaimJoined
import GoSem.ClaimMapViews
import Derived.JoinedTies
import Derived.KernelRfl
namespace Go.Proofs.Ythnhlaljnkdmfaa
/- THE CELL 'sum', in the pinned program and in every row, IS THE sha256 OF THE DUMP (.gsa) THAT YthnhlaljnkdmfaaProg.lean LOADS. Nothing in Lean hashes anything: it is a label: what it is worth is what the hold of that sum in a sandbox is worth. -/
noncomputable def Try.pinned : Pinned := { name := "ythnhlaljnkdmfaa", sum := "a781841fe015470ef5c6cf35e8786b22022fb8da240f504a6e0e3cd96f2684ab", checked := Try.checked }
namespace Rows
def none {H : Type} : Left H := { results := [], args := [] }

/-- 'sewershedlaw08.DigraphOrders': WHATEVER THE INPUT: true; the input reads as it did. -/
def digraphOrdersSpec : ChangeSpec := { name := "digraphOrders", fn := fun _ => fun
  | [d1, d2] => { results := [.lit (.bool true)], args := [d1, d2] }
  | _ => none }
def digraphOrdersRow : OpenClaim := { program := "ythnhlaljnkdmfaa", sum := "a781841fe015470ef5c6cf35e8786b22022fb8da240f504a6e0e3cd96f2684ab", func := "sewershed/sewershedlaw08.DigraphOrders", spec := "digraphOrders", inPlace := ["slices.overlaps[int]"], unfollowed := true, recurses := true, apart := false }
def DigraphOrdersSaid : Prop := digraphOrdersRow.holds Try.pinned (OpenSpec.ofChange digraphOrdersSpec)

/-- ITS FALSE NEIGHBOUR: 'it returns false'. Refute it at one input. -/
def digraphOrdersWrong : ChangeSpec := { name := "digraphOrders", fn := fun _ => fun
  | [d1, d2] => { results := [.lit (.bool false)], args := [d1, d2] }
  | _ => none }
def DigraphOrdersWrongFalsely : Prop := digraphOrdersRow.holds Try.pinned (OpenSpec.ofChange digraphOrdersWrong)

/-- 'sewershedlaw08.DigraphOrderly': WHATEVER THE INPUT: true; the input reads as it did. -/
def digraphOrderlySpec : ChangeSpec := { name := "digraphOrderly", fn := fun _ => fun
  | [d1, d2] => { results := [.lit (.bool true)], args := [d1, d2] }
  | _ => none }
def digraphOrderlyRow : OpenClaim := { program := "ythnhlaljnkdmfaa", sum := "a781841fe015470ef5c6cf35e8786b22022fb8da240f504a6e0e3cd96f2684ab", func := "sewershed/sewershedlaw08.DigraphOrderly", spec := "digraphOrderly", inPlace := ["slices.overlaps[int]"], unfollowed := true, recurses := true, apart := false }
def DigraphOrderlySaid : Prop := digraphOrderlyRow.holds Try.pinned (OpenSpec.ofChange digraphOrderlySpec)

/-- ITS FALSE NEIGHBOUR: 'it returns false'. Refute it at one input. -/
def digraphOrderlyWrong : ChangeSpec := { name := "digraphOrderly", fn := fun _ => fun
  | [d1, d2] => { results := [.lit (.bool false)], args := [d1, d2] }
  | _ => none }
def DigraphOrderlyWrongFalsely : Prop := digraphOrderlyRow.holds Try.pinned (OpenSpec.ofChange digraphOrderlyWrong)

/-- 'sewershedlaw08.DigraphLoops': WHATEVER THE INPUT: true; the input reads as it did. -/
def digraphLoopsSpec : ChangeSpec := { name := "digraphLoops", fn := fun _ => fun
  | [d1, d2] => { results := [.lit (.bool true)], args := [d1, d2] }
  | _ => none }
def digraphLoopsRow : OpenClaim := { program := "ythnhlaljnkdmfaa", sum := "a781841fe015470ef5c6cf35e8786b22022fb8da240f504a6e0e3cd96f2684ab", func := "sewershed/sewershedlaw08.DigraphLoops", spec := "digraphLoops", inPlace := ["slices.overlaps[int]"], unfollowed := true, recurses := true, apart := false }
def DigraphLoopsSaid : Prop := digraphLoopsRow.holds Try.pinned (OpenSpec.ofChange digraphLoopsSpec)

/-- ITS FALSE NEIGHBOUR: 'it returns false'. Refute it at one input. -/
def digraphLoopsWrong : ChangeSpec := { name := "digraphLoops", fn := fun _ => fun
  | [d1, d2] => { results := [.lit (.bool false)], args := [d1, d2] }
  | _ => none }
def DigraphLoopsWrongFalsely : Prop := digraphLoopsRow.holds Try.pinned (OpenSpec.ofChange digraphLoopsWrong)

/-- 'sewershedlaw08.DigraphWays': WHATEVER THE INPUT: true; the input reads as it did. -/
def digraphWaysSpec : ChangeSpec := { name := "digraphWays", fn := fun _ => fun
  | [d1, d2, d3, d4, d5] => { results := [.lit (.bool true)], args := [d1, d2, d3, d4, d5] }
  | _ => none }
def digraphWaysRow : OpenClaim := { program := "ythnhlaljnkdmfaa", sum := "a781841fe015470ef5c6cf35e8786b22022fb8da240f504a6e0e3cd96f2684ab", func := "sewershed/sewershedlaw08.DigraphWays", spec := "digraphWays", inPlace := ["slices.overlaps[int]"], unfollowed := true, recurses := true, apart := false }
def DigraphWaysSaid : Prop := digraphWaysRow.holds Try.pinned (OpenSpec.ofChange digraphWaysSpec)

/-- ITS FALSE NEIGHBOUR: 'it returns false'. Refute it at one input. -/
def digraphWaysWrong : ChangeSpec := { name := "digraphWays", fn := fun _ => fun
  | [d1, d2, d3, d4, d5] => { results := [.lit (.bool false)], args := [d1, d2, d3, d4, d5] }
  | _ => none }
def DigraphWaysWrongFalsely : Prop := digraphWaysRow.holds Try.pinned (OpenSpec.ofChange digraphWaysWrong)

/-- 'sewershedlaw08.DigraphReaches': WHATEVER THE INPUT: true; the input reads as it did. -/
def digraphReachesSpec : ChangeSpec := { name := "digraphReaches", fn := fun _ => fun
  | [d1, d2, d3] => { results := [.lit (.bool true)], args := [d1, d2, d3] }
  | _ => none }
def digraphReachesRow : OpenClaim := { program := "ythnhlaljnkdmfaa", sum := "a781841fe015470ef5c6cf35e8786b22022fb8da240f504a6e0e3cd96f2684ab", func := "sewershed/sewershedlaw08.DigraphReaches", spec := "digraphReaches", inPlace := ["slices.overlaps[int]"], unfollowed := true, recurses := true, apart := false }
def DigraphReachesSaid : Prop := digraphReachesRow.holds Try.pinned (OpenSpec.ofChange digraphReachesSpec)

/-- ITS FALSE NEIGHBOUR: 'it returns false'. Refute it at one input. -/
def digraphReachesWrong : ChangeSpec := { name := "digraphReaches", fn := fun _ => fun
  | [d1, d2, d3] => { results := [.lit (.bool false)], args := [d1, d2, d3] }
  | _ => none }
def DigraphReachesWrongFalsely : Prop := digraphReachesRow.holds Try.pinned (OpenSpec.ofChange digraphReachesWrong)

/-- 'sewershedlaw08.DigraphClosed': WHATEVER THE INPUT: true; the input reads as it did. -/
def digraphClosedSpec : ChangeSpec := { name := "digraphClosed", fn := fun _ => fun
  | [d1, d2, d3] => { results := [.lit (.bool true)], args := [d1, d2, d3] }
  | _ => none }
def digraphClosedRow : OpenClaim := { program := "ythnhlaljnkdmfaa", sum := "a781841fe015470ef5c6cf35e8786b22022fb8da240f504a6e0e3cd96f2684ab", func := "sewershed/sewershedlaw08.DigraphClosed", spec := "digraphClosed", inPlace := ["slices.overlaps[int]"], unfollowed := true, recurses := true, apart := false }
def DigraphClosedSaid : Prop := digraphClosedRow.holds Try.pinned (OpenSpec.ofChange digraphClosedSpec)

/-- ITS FALSE NEIGHBOUR: 'it returns false'. Refute it at one input. -/
def digraphClosedWrong : ChangeSpec := { name := "digraphClosed", fn := fun _ => fun
  | [d1, d2, d3] => { results := [.lit (.bool false)], args := [d1, d2, d3] }
  | _ => none }
def DigraphClosedWrongFalsely : Prop := digraphClosedRow.holds Try.pinned (OpenSpec.ofChange digraphClosedWrong)

/-- 'sewershedlaw08.DigraphPaths': WHATEVER THE INPUT: true; the input reads as it did. -/
def digraphPathsSpec : ChangeSpec := { name := "digraphPaths", fn := fun _ => fun
  | [d1, d2, d3, d4] => { results := [.lit (.bool true)], args := [d1, d2, d3, d4] }
  | _ => none }
def digraphPathsRow : OpenClaim := { program := "ythnhlaljnkdmfaa", sum := "a781841fe015470ef5c6cf35e8786b22022fb8da240f504a6e0e3cd96f2684ab", func := "sewershed/sewershedlaw08.DigraphPaths", spec := "digraphPaths", inPlace := ["slices.overlaps[int]"], unfollowed := true, recurses := true, apart := false }
def DigraphPathsSaid : Prop := digraphPathsRow.holds Try.pinned (OpenSpec.ofChange digraphPathsSpec)

/-- ITS FALSE NEIGHBOUR: 'it returns false'. Refute it at one input. -/
def digraphPathsWrong : ChangeSpec := { name := "digraphPaths", fn := fun _ => fun
  | [d1, d2, d3, d4] => { results := [.lit (.bool false)], args := [d1, d2, d3, d4] }
  | _ => none }
def DigraphPathsWrongFalsely : Prop := digraphPathsRow.holds Try.pinned (OpenSpec.ofChange digraphPathsWrong)

/-- 'sewershedlaw08.DigraphParts': WHATEVER THE INPUT: true; the input reads as it did. -/
def digraphPartsSpec : ChangeSpec := { name := "digraphParts", fn := fun _ => fun
  | [d1, d2, d3] => { results := [.lit (.bool true)], args := [d1, d2, d3] }
  | _ => none }
def digraphPartsRow : OpenClaim := { program := "ythnhlaljnkdmfaa", sum := "a781841fe015470ef5c6cf35e8786b22022fb8da240f504a6e0e3cd96f2684ab", func := "sewershed/sewershedlaw08.DigraphParts", spec := "digraphParts", inPlace := ["slices.overlaps[int]"], unfollowed := true, recurses := true, apart := false }
def DigraphPartsSaid : Prop := digraphPartsRow.holds Try.pinned (OpenSpec.ofChange digraphPartsSpec)

/-- ITS FALSE NEIGHBOUR: 'it returns false'. Refute it at one input. -/
def digraphPartsWrong : ChangeSpec := { name := "digraphParts", fn := fun _ => fun
  | [d1, d2, d3] => { results := [.lit (.bool false)], args := [d1, d2, d3] }
  | _ => none }
def DigraphPartsWrongFalsely : Prop := digraphPartsRow.holds Try.pinned (OpenSpec.ofChange digraphPartsWrong)

/- THE SECOND FORM. 'bulk': how many values and letters a reading holds, each counted each time it is reached (what is shared counts as often as it is met; a slice's spare places count too). A statement '..UptoSaid' is the law's where the arguments, and the package variables that the reading takes, are together of bulk at most 1048576: NARROWER than '..Said'. Prove '..Said' where nothing that the law and all that it calls make is longer than what came in: it says more and counts as full. Else prove '..UptoSaid'. A law counts once. -/
mutual
def uptoBulk {H : Type} : DataW H → Nat
  | .lit (.string bytes) => bytes.length + 1
  | .lit _ => 1
  | .nil => 1
  | .ptr d => uptoBulk d + 1
  | .slice elems spare => uptoBulkAll elems + uptoBulkAll spare + 1
  | .agg parts => uptoBulkAll parts + 1
  | .iface _ d => uptoBulk d + 1
  | .map entries => uptoBulkEntries entries + 1
  | .held _ => 1
def uptoBulkAll {H : Type} : List (DataW H) → Nat
  | [] => 0
  | d :: r => uptoBulk d + uptoBulkAll r
def uptoBulkEntries {H : Type} : List (Lit × DataW H) → Nat
  | [] => 0
  | x :: r => uptoBulkEntry x + uptoBulkEntries r
def uptoBulkEntry {H : Type} : Lit × DataW H → Nat
  | (.string bytes, d) => bytes.length + uptoBulk d + 1
  | (_, d) => uptoBulk d + 1
 end
def uptoSmall : (H : Type) → List (DataW H) → Bool := fun _ ds => decide (uptoBulkAll ds ≤ 1048576)
def OpenSpec.upto (s : _root_.Go.ChangeSpec) : _root_.Go.OpenSpec := { _root_.Go.OpenSpec.ofChange s with cond := some uptoSmall }

/-- 'sewershedlaw08.DigraphOrders', WHERE WHAT IT READS IS OF BULK AT MOST 1048576: true; the input reads as it did. -/
def digraphOrdersUptoRow : OpenClaim := { program := "ythnhlaljnkdmfaa", sum := "a781841fe015470ef5c6cf35e8786b22022fb8da240f504a6e0e3cd96f2684ab", func := "sewershed/sewershedlaw08.DigraphOrders", spec := "digraphOrders", inPlace := ["slices.overlaps[int]"], unfollowed := true, recurses := true, apart := false, narrowed := true }
def DigraphOrdersUptoSaid : Prop := digraphOrdersUptoRow.holds Try.pinned (OpenSpec.upto digraphOrdersSpec)

/-- 'sewershedlaw08.DigraphOrderly', WHERE WHAT IT READS IS OF BULK AT MOST 1048576: true; the input reads as it did. -/
def digraphOrderlyUptoRow : OpenClaim := { program := "ythnhlaljnkdmfaa", sum := "a781841fe015470ef5c6cf35e8786b22022fb8da240f504a6e0e3cd96f2684ab", func := "sewershed/sewershedlaw08.DigraphOrderly", spec := "digraphOrderly", inPlace := ["slices.overlaps[int]"], unfollowed := true, recurses := true, apart := false, narrowed := true }
def DigraphOrderlyUptoSaid : Prop := digraphOrderlyUptoRow.holds Try.pinned (OpenSpec.upto digraphOrderlySpec)

/-- 'sewershedlaw08.DigraphLoops', WHERE WHAT IT READS IS OF BULK AT MOST 1048576: true; the input reads as it did. -/
def digraphLoopsUptoRow : OpenClaim := { program := "ythnhlaljnkdmfaa", sum := "a781841fe015470ef5c6cf35e8786b22022fb8da240f504a6e0e3cd96f2684ab", func := "sewershed/sewershedlaw08.DigraphLoops", spec := "digraphLoops", inPlace := ["slices.overlaps[int]"], unfollowed := true, recurses := true, apart := false, narrowed := true }
def DigraphLoopsUptoSaid : Prop := digraphLoopsUptoRow.holds Try.pinned (OpenSpec.upto digraphLoopsSpec)

/-- 'sewershedlaw08.DigraphWays', WHERE WHAT IT READS IS OF BULK AT MOST 1048576: true; the input reads as it did. -/
def digraphWaysUptoRow : OpenClaim := { program := "ythnhlaljnkdmfaa", sum := "a781841fe015470ef5c6cf35e8786b22022fb8da240f504a6e0e3cd96f2684ab", func := "sewershed/sewershedlaw08.DigraphWays", spec := "digraphWays", inPlace := ["slices.overlaps[int]"], unfollowed := true, recurses := true, apart := false, narrowed := true }
def DigraphWaysUptoSaid : Prop := digraphWaysUptoRow.holds Try.pinned (OpenSpec.upto digraphWaysSpec)

/-- 'sewershedlaw08.DigraphReaches', WHERE WHAT IT READS IS OF BULK AT MOST 1048576: true; the input reads as it did. -/
def digraphReachesUptoRow : OpenClaim := { program := "ythnhlaljnkdmfaa", sum := "a781841fe015470ef5c6cf35e8786b22022fb8da240f504a6e0e3cd96f2684ab", func := "sewershed/sewershedlaw08.DigraphReaches", spec := "digraphReaches", inPlace := ["slices.overlaps[int]"], unfollowed := true, recurses := true, apart := false, narrowed := true }
def DigraphReachesUptoSaid : Prop := digraphReachesUptoRow.holds Try.pinned (OpenSpec.upto digraphReachesSpec)

/-- 'sewershedlaw08.DigraphClosed', WHERE WHAT IT READS IS OF BULK AT MOST 1048576: true; the input reads as it did. -/
def digraphClosedUptoRow : OpenClaim := { program := "ythnhlaljnkdmfaa", sum := "a781841fe015470ef5c6cf35e8786b22022fb8da240f504a6e0e3cd96f2684ab", func := "sewershed/sewershedlaw08.DigraphClosed", spec := "digraphClosed", inPlace := ["slices.overlaps[int]"], unfollowed := true, recurses := true, apart := false, narrowed := true }
def DigraphClosedUptoSaid : Prop := digraphClosedUptoRow.holds Try.pinned (OpenSpec.upto digraphClosedSpec)

/-- 'sewershedlaw08.DigraphPaths', WHERE WHAT IT READS IS OF BULK AT MOST 1048576: true; the input reads as it did. -/
def digraphPathsUptoRow : OpenClaim := { program := "ythnhlaljnkdmfaa", sum := "a781841fe015470ef5c6cf35e8786b22022fb8da240f504a6e0e3cd96f2684ab", func := "sewershed/sewershedlaw08.DigraphPaths", spec := "digraphPaths", inPlace := ["slices.overlaps[int]"], unfollowed := true, recurses := true, apart := false, narrowed := true }
def DigraphPathsUptoSaid : Prop := digraphPathsUptoRow.holds Try.pinned (OpenSpec.upto digraphPathsSpec)

/-- 'sewershedlaw08.DigraphParts', WHERE WHAT IT READS IS OF BULK AT MOST 1048576: true; the input reads as it did. -/
def digraphPartsUptoRow : OpenClaim := { program := "ythnhlaljnkdmfaa", sum := "a781841fe015470ef5c6cf35e8786b22022fb8da240f504a6e0e3cd96f2684ab", func := "sewershed/sewershedlaw08.DigraphParts", spec := "digraphParts", inPlace := ["slices.overlaps[int]"], unfollowed := true, recurses := true, apart := false, narrowed := true }
def DigraphPartsUptoSaid : Prop := digraphPartsUptoRow.holds Try.pinned (OpenSpec.upto digraphPartsSpec)

end Rows
end Go.Proofs.Ythnhlaljnkdmfaa
