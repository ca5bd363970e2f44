/-
  No cell of these rows narrows 'for every input' (looked for: loops, veiled, ifaces, maps, wideKeys, modest, calm, conditions, laid).
  DERIVED. THE GIVEN ROWS OF THIS SEAT. 7 by the template 'for every input the law returns true; each argument reads behind the call as it read before'; 0 by the template 'total and deterministic' (their statements: YtbkihndidbmhoaaTotals.lean).
  GIVEN WITH THE SEED: the statements are not yours to turn. If you find one false, say at which input.
  Laid BY PROGRAM, IN A SANDBOX (cutbox-rows.mjs): the forced cells as the released guide's own fill.sh prints them over the translation 34dfae5629c0d6b3… (all of the seat's roots in one cut). By AI agents, Wed Nov 11 2026. No macro, syntax, notation, axiom, sorry.
-/
import Derived.Test.YtbkihndidbmhoaaChecked
import GoSem.Claim
import GoSem.ClaimJoined
import GoSem.ClaimMapViews
import Derived.JoinedTies
import Derived.KernelRfl
namespace Go.Proofs.Ytbkihndidbmhoaa
/- THE CELL 'sum', in the pinned program and in every row, IS THE sha256 OF THE DUMP (.gsa) THAT YtbkihndidbmhoaaProg.lean LOADS. Nothing in Lean hashes anything: it is a label: what it is worth is what the hold of that sum in a sandbox is worth. -/
noncomputable def Try.pinned : Pinned := { name := "ytbkihndidbmhoaa", sum := "34dfae5629c0d6b3dcbe89bef9dca9959e4f30b23c8d883376626f48977c03b7", checked := Try.checked }
namespace Rows
def none {H : Type} : Left H := { results := [], args := [] }

/-- 'sewershedlaw38.OverflowSpills': WHATEVER THE INPUT: true; the input reads as it did. -/
def overflowSpillsSpec : ChangeSpec := { name := "overflowSpills", fn := fun _ => fun
  | [d1, d2] => { results := [.lit (.bool true)], args := [d1, d2] }
  | _ => none }
def overflowSpillsRow : OpenClaim := { program := "ytbkihndidbmhoaa", sum := "34dfae5629c0d6b3dcbe89bef9dca9959e4f30b23c8d883376626f48977c03b7", func := "sewershed/sewershedlaw38.OverflowSpills", spec := "overflowSpills", unfollowed := true, recurses := true, apart := false }
def OverflowSpillsSaid : Prop := overflowSpillsRow.holds Try.pinned (OpenSpec.ofChange overflowSpillsSpec)

/-- ITS FALSE NEIGHBOUR: 'it returns false'. Refute it at one input. -/
def overflowSpillsWrong : ChangeSpec := { name := "overflowSpills", fn := fun _ => fun
  | [d1, d2] => { results := [.lit (.bool false)], args := [d1, d2] }
  | _ => none }
def OverflowSpillsWrongFalsely : Prop := overflowSpillsRow.holds Try.pinned (OpenSpec.ofChange overflowSpillsWrong)

/-- 'sewershedlaw38.OverflowJoins': WHATEVER THE INPUT: true; the input reads as it did. -/
def overflowJoinsSpec : ChangeSpec := { name := "overflowJoins", fn := fun _ => fun
  | [d1, d2, d3, d4] => { results := [.lit (.bool true)], args := [d1, d2, d3, d4] }
  | _ => none }
def overflowJoinsRow : OpenClaim := { program := "ytbkihndidbmhoaa", sum := "34dfae5629c0d6b3dcbe89bef9dca9959e4f30b23c8d883376626f48977c03b7", func := "sewershed/sewershedlaw38.OverflowJoins", spec := "overflowJoins", unfollowed := true, recurses := true, apart := false }
def OverflowJoinsSaid : Prop := overflowJoinsRow.holds Try.pinned (OpenSpec.ofChange overflowJoinsSpec)

/-- ITS FALSE NEIGHBOUR: 'it returns false'. Refute it at one input. -/
def overflowJoinsWrong : ChangeSpec := { name := "overflowJoins", fn := fun _ => fun
  | [d1, d2, d3, d4] => { results := [.lit (.bool false)], args := [d1, d2, d3, d4] }
  | _ => none }
def OverflowJoinsWrongFalsely : Prop := overflowJoinsRow.holds Try.pinned (OpenSpec.ofChange overflowJoinsWrong)

/-- 'sewershedlaw38.OverflowCovers': WHATEVER THE INPUT: true; the input reads as it did. -/
def overflowCoversSpec : ChangeSpec := { name := "overflowCovers", fn := fun _ => fun
  | [d1, d2] => { results := [.lit (.bool true)], args := [d1, d2] }
  | _ => none }
def overflowCoversRow : OpenClaim := { program := "ytbkihndidbmhoaa", sum := "34dfae5629c0d6b3dcbe89bef9dca9959e4f30b23c8d883376626f48977c03b7", func := "sewershed/sewershedlaw38.OverflowCovers", spec := "overflowCovers", unfollowed := true, recurses := true, apart := false }
def OverflowCoversSaid : Prop := overflowCoversRow.holds Try.pinned (OpenSpec.ofChange overflowCoversSpec)

/-- ITS FALSE NEIGHBOUR: 'it returns false'. Refute it at one input. -/
def overflowCoversWrong : ChangeSpec := { name := "overflowCovers", fn := fun _ => fun
  | [d1, d2] => { results := [.lit (.bool false)], args := [d1, d2] }
  | _ => none }
def OverflowCoversWrongFalsely : Prop := overflowCoversRow.holds Try.pinned (OpenSpec.ofChange overflowCoversWrong)

/-- 'sewershedlaw38.OverflowStates': WHATEVER THE INPUT: true; the input reads as it did. -/
def overflowStatesSpec : ChangeSpec := { name := "overflowStates", fn := fun _ => fun
  | [d1, d2] => { results := [.lit (.bool true)], args := [d1, d2] }
  | _ => none }
def overflowStatesRow : OpenClaim := { program := "ytbkihndidbmhoaa", sum := "34dfae5629c0d6b3dcbe89bef9dca9959e4f30b23c8d883376626f48977c03b7", func := "sewershed/sewershedlaw38.OverflowStates", spec := "overflowStates", unfollowed := true, recurses := true, apart := false }
def OverflowStatesSaid : Prop := overflowStatesRow.holds Try.pinned (OpenSpec.ofChange overflowStatesSpec)

/-- ITS FALSE NEIGHBOUR: 'it returns false'. Refute it at one input. -/
def overflowStatesWrong : ChangeSpec := { name := "overflowStates", fn := fun _ => fun
  | [d1, d2] => { results := [.lit (.bool false)], args := [d1, d2] }
  | _ => none }
def OverflowStatesWrongFalsely : Prop := overflowStatesRow.holds Try.pinned (OpenSpec.ofChange overflowStatesWrong)

/-- 'sewershedlaw38.OverflowRanks': WHATEVER THE INPUT: true; the input reads as it did. -/
def overflowRanksSpec : ChangeSpec := { name := "overflowRanks", fn := fun _ => fun
  | [d1, d2, d3, d4] => { results := [.lit (.bool true)], args := [d1, d2, d3, d4] }
  | _ => none }
def overflowRanksRow : OpenClaim := { program := "ytbkihndidbmhoaa", sum := "34dfae5629c0d6b3dcbe89bef9dca9959e4f30b23c8d883376626f48977c03b7", func := "sewershed/sewershedlaw38.OverflowRanks", spec := "overflowRanks", unfollowed := true, recurses := true, apart := false }
def OverflowRanksSaid : Prop := overflowRanksRow.holds Try.pinned (OpenSpec.ofChange overflowRanksSpec)

/-- ITS FALSE NEIGHBOUR: 'it returns false'. Refute it at one input. -/
def overflowRanksWrong : ChangeSpec := { name := "overflowRanks", fn := fun _ => fun
  | [d1, d2, d3, d4] => { results := [.lit (.bool false)], args := [d1, d2, d3, d4] }
  | _ => none }
def OverflowRanksWrongFalsely : Prop := overflowRanksRow.holds Try.pinned (OpenSpec.ofChange overflowRanksWrong)

/-- 'sewershedlaw38.OverflowCounts': WHATEVER THE INPUT: true; the input reads as it did. -/
def overflowCountsSpec : ChangeSpec := { name := "overflowCounts", fn := fun _ => fun
  | [d1, d2, d3, d4, d5] => { results := [.lit (.bool true)], args := [d1, d2, d3, d4, d5] }
  | _ => none }
def overflowCountsRow : OpenClaim := { program := "ytbkihndidbmhoaa", sum := "34dfae5629c0d6b3dcbe89bef9dca9959e4f30b23c8d883376626f48977c03b7", func := "sewershed/sewershedlaw38.OverflowCounts", spec := "overflowCounts", unfollowed := true, recurses := true, apart := false }
def OverflowCountsSaid : Prop := overflowCountsRow.holds Try.pinned (OpenSpec.ofChange overflowCountsSpec)

/-- ITS FALSE NEIGHBOUR: 'it returns false'. Refute it at one input. -/
def overflowCountsWrong : ChangeSpec := { name := "overflowCounts", fn := fun _ => fun
  | [d1, d2, d3, d4, d5] => { results := [.lit (.bool false)], args := [d1, d2, d3, d4, d5] }
  | _ => none }
def OverflowCountsWrongFalsely : Prop := overflowCountsRow.holds Try.pinned (OpenSpec.ofChange overflowCountsWrong)

/-- 'sewershedlaw38.OverflowCauses': WHATEVER THE INPUT: true; the input reads as it did. -/
def overflowCausesSpec : ChangeSpec := { name := "overflowCauses", fn := fun _ => fun
  | [d1, d2, d3] => { results := [.lit (.bool true)], args := [d1, d2, d3] }
  | _ => none }
def overflowCausesRow : OpenClaim := { program := "ytbkihndidbmhoaa", sum := "34dfae5629c0d6b3dcbe89bef9dca9959e4f30b23c8d883376626f48977c03b7", func := "sewershed/sewershedlaw38.OverflowCauses", spec := "overflowCauses", unfollowed := true, recurses := true, apart := false }
def OverflowCausesSaid : Prop := overflowCausesRow.holds Try.pinned (OpenSpec.ofChange overflowCausesSpec)

/-- ITS FALSE NEIGHBOUR: 'it returns false'. Refute it at one input. -/
def overflowCausesWrong : ChangeSpec := { name := "overflowCauses", fn := fun _ => fun
  | [d1, d2, d3] => { results := [.lit (.bool false)], args := [d1, d2, d3] }
  | _ => none }
def OverflowCausesWrongFalsely : Prop := overflowCausesRow.holds Try.pinned (OpenSpec.ofChange overflowCausesWrong)

/- THE SECOND FORM. 'bulk': how many values and letters a reading holds, each counted each time it is reached (what is shared counts as often as it is met; a slice's spare places count too). A statement '..UptoSaid' is the law's where the arguments, and the package variables that the reading takes, are together of bulk at most 1048576: NARROWER than '..Said'. Prove '..Said' where nothing that the law and all that it calls make is longer than what came in: it says more and counts as full. Else prove '..UptoSaid'. A law counts once. -/
mutual
def uptoBulk {H : Type} : DataW H → Nat
  | .lit (.string bytes) => bytes.length + 1
  | .lit _ => 1
  | .nil => 1
  | .ptr d => uptoBulk d + 1
  | .slice elems spare => uptoBulkAll elems + uptoBulkAll spare + 1
  | .agg parts => uptoBulkAll parts + 1
  | .iface _ d => uptoBulk d + 1
  | .map entries => uptoBulkEntries entries + 1
  | .held _ => 1
def uptoBulkAll {H : Type} : List (DataW H) → Nat
  | [] => 0
  | d :: r => uptoBulk d + uptoBulkAll r
def uptoBulkEntries {H : Type} : List (Lit × DataW H) → Nat
  | [] => 0
  | x :: r => uptoBulkEntry x + uptoBulkEntries r
def uptoBulkEntry {H : Type} : Lit × DataW H → Nat
  | (.string bytes, d) => bytes.length + uptoBulk d + 1
  | (_, d) => uptoBulk d + 1
 end
def uptoSmall : (H : Type) → List (DataW H) → Bool := fun _ ds => decide (uptoBulkAll ds ≤ 1048576)
def OpenSpec.upto (s : _root_.Go.ChangeSpec) : _root_.Go.OpenSpec := { _root_.Go.OpenSpec.ofChange s with cond := some uptoSmall }

/-- 'sewershedlaw38.OverflowSpills', WHERE WHAT IT READS IS OF BULK AT MOST 1048576: true; the input reads as it did. -/
def overflowSpillsUptoRow : OpenClaim := { program := "ytbkihndidbmhoaa", sum := "34dfae5629c0d6b3dcbe89bef9dca9959e4f30b23c8d883376626f48977c03b7", func := "sewershed/sewershedlaw38.OverflowSpills", spec := "overflowSpills", unfollowed := true, recurses := true, apart := false, narrowed := true }
def OverflowSpillsUptoSaid : Prop := overflowSpillsUptoRow.holds Try.pinned (OpenSpec.upto overflowSpillsSpec)

/-- 'sewershedlaw38.OverflowJoins', WHERE WHAT IT READS IS OF BULK AT MOST 1048576: true; the input reads as it did. -/
def overflowJoinsUptoRow : OpenClaim := { program := "ytbkihndidbmhoaa", sum := "34dfae5629c0d6b3dcbe89bef9dca9959e4f30b23c8d883376626f48977c03b7", func := "sewershed/sewershedlaw38.OverflowJoins", spec := "overflowJoins", unfollowed := true, recurses := true, apart := false, narrowed := true }
def OverflowJoinsUptoSaid : Prop := overflowJoinsUptoRow.holds Try.pinned (OpenSpec.upto overflowJoinsSpec)

/-- 'sewershedlaw38.OverflowCovers', WHERE WHAT IT READS IS OF BULK AT MOST 1048576: true; the input reads as it did. -/
def overflowCoversUptoRow : OpenClaim := { program := "ytbkihndidbmhoaa", sum := "34dfae5629c0d6b3dcbe89bef9dca9959e4f30b23c8d883376626f48977c03b7", func := "sewershed/sewershedlaw38.OverflowCovers", spec := "overflowCovers", unfollowed := true, recurses := true, apart := false, narrowed := true }
def OverflowCoversUptoSaid : Prop := overflowCoversUptoRow.holds Try.pinned (OpenSpec.upto overflowCoversSpec)

/-- 'sewershedlaw38.OverflowStates', WHERE WHAT IT READS IS OF BULK AT MOST 1048576: true; the input reads as it did. -/
def overflowStatesUptoRow : OpenClaim := { program := "ytbkihndidbmhoaa", sum := "34dfae5629c0d6b3dcbe89bef9dca9959e4f30b23c8d883376626f48977c03b7", func := "sewershed/sewershedlaw38.OverflowStates", spec := "overflowStates", unfollowed := true, recurses := true, apart := false, narrowed := true }
def OverflowStatesUptoSaid : Prop := overflowStatesUptoRow.holds Try.pinned (OpenSpec.upto overflowStatesSpec)

/-- 'sewershedlaw38.OverflowRanks', WHERE WHAT IT READS IS OF BULK AT MOST 1048576: true; the input reads as it did. -/
def overflowRanksUptoRow : OpenClaim := { program := "ytbkihndidbmhoaa", sum := "34dfae5629c0d6b3dcbe89bef9dca9959e4f30b23c8d883376626f48977c03b7", func := "sewershed/sewershedlaw38.OverflowRanks", spec := "overflowRanks", unfollowed := true, recurses := true, apart := false, narrowed := true }
def OverflowRanksUptoSaid : Prop := overflowRanksUptoRow.holds Try.pinned (OpenSpec.upto overflowRanksSpec)

/-- 'sewershedlaw38.OverflowCounts', WHERE WHAT IT READS IS OF BULK AT MOST 1048576: true; the input reads as it did. -/
def overflowCountsUptoRow : OpenClaim := { program := "ytbkihndidbmhoaa", sum := "34dfae5629c0d6b3dcbe89bef9dca9959e4f30b23c8d883376626f48977c03b7", func := "sewershed/sewershedlaw38.OverflowCounts", spec := "overflowCounts", unfollowed := true, recurses := true, apart := false, narrowed := true }
def OverflowCountsUptoSaid : Prop := overflowCountsUptoRow.holds Try.pinned (OpenSpec.upto overflowCountsSpec)

/-- 'sewershedlaw38.OverflowCauses', WHERE WHAT IT READS IS OF BULK AT MOST 1048576: true; the input reads as it did. -/
def overflowCausesUptoRow : OpenClaim := { program := "ytbkihndidbmhoaa", sum := "34dfae5629c0d6b3dcbe89bef9dca9959e4f30b23c8d883376626f48977c03b7", func := "sewershed/sewershedlaw38.OverflowCauses", spec := "overflowCauses", unfollowed := true, recurses := true, apart := false, narrowed := true }
def OverflowCausesUptoSaid : Prop := overflowCausesUptoRow.holds Try.pinned (OpenSpec.upto overflowCausesSpec)

end Rows
end Go.Proofs.Ytbkihndidbmhoaa
