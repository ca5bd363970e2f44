/-
  No cell of these rows narrows 'for every input' (looked for: loops, veiled, ifaces, maps, wideKeys, modest, calm, conditions, laid).
  DERIVED. THE GIVEN ROWS OF THIS SEAT. 8 by the template 'for every input the law returns true; each argument reads behind the call as it read before'; 0 by the template 'total and deterministic' (their statements: YtdlaghjijfgncaaTotals.lean).
  GIVEN WITH THE SEED: the statements are not yours to turn. If you find one false, say at which input.
  Laid BY PROGRAM, IN A SANDBOX (cutbox-rows.mjs): the forced cells as the released guide's own fill.sh prints them over the translation d6af7d81a3c214b1… (all of the seat's roots in one cut). By AI agents, Wed Nov 11 2026. No macro, syntax, notation, axiom, sorry.
-/
import Derived.Test.YtdlaghjijfgncaaChecked
import GoSem.Claim
import GoSem.ClaimJoined
import GoSem.ClaimMapViews
import Derived.JoinedTies
import Derived.KernelRfl
namespace Go.Proofs.Ytdlaghjijfgncaa
/- THE CELL 'sum', in the pinned program and in every row, IS THE sha256 OF THE DUMP (.gsa) THAT YtdlaghjijfgncaaProg.lean LOADS. Nothing in Lean hashes anything: it is a label: what it is worth is what the hold of that sum in a sandbox is worth. -/
noncomputable def Try.pinned : Pinned := { name := "ytdlaghjijfgncaa", sum := "d6af7d81a3c214b193c4c871118258d620b8e6f640d64c7285bcfb60db482248", checked := Try.checked }
namespace Rows
def none {H : Type} : Left H := { results := [], args := [] }

/-- 'sewershedlaw21.EventsWhole': WHATEVER THE INPUT: true; the input reads as it did. -/
def eventsWholeSpec : ChangeSpec := { name := "eventsWhole", fn := fun _ => fun
  | [d1, d2] => { results := [.lit (.bool true)], args := [d1, d2] }
  | _ => none }
def eventsWholeRow : OpenClaim := { program := "ytdlaghjijfgncaa", sum := "d6af7d81a3c214b193c4c871118258d620b8e6f640d64c7285bcfb60db482248", func := "sewershed/sewershedlaw21.EventsWhole", spec := "eventsWhole", unfollowed := true, recurses := true, apart := false }
def EventsWholeSaid : Prop := eventsWholeRow.holds Try.pinned (OpenSpec.ofChange eventsWholeSpec)

/-- ITS FALSE NEIGHBOUR: 'it returns false'. Refute it at one input. -/
def eventsWholeWrong : ChangeSpec := { name := "eventsWhole", fn := fun _ => fun
  | [d1, d2] => { results := [.lit (.bool false)], args := [d1, d2] }
  | _ => none }
def EventsWholeWrongFalsely : Prop := eventsWholeRow.holds Try.pinned (OpenSpec.ofChange eventsWholeWrong)

/-- 'sewershedlaw21.EventsRanks': WHATEVER THE INPUT: true; the input reads as it did. -/
def eventsRanksSpec : ChangeSpec := { name := "eventsRanks", fn := fun _ => fun
  | [d1, d2, d3] => { results := [.lit (.bool true)], args := [d1, d2, d3] }
  | _ => none }
def eventsRanksRow : OpenClaim := { program := "ytdlaghjijfgncaa", sum := "d6af7d81a3c214b193c4c871118258d620b8e6f640d64c7285bcfb60db482248", func := "sewershed/sewershedlaw21.EventsRanks", spec := "eventsRanks", unfollowed := true, recurses := true, apart := false }
def EventsRanksSaid : Prop := eventsRanksRow.holds Try.pinned (OpenSpec.ofChange eventsRanksSpec)

/-- ITS FALSE NEIGHBOUR: 'it returns false'. Refute it at one input. -/
def eventsRanksWrong : ChangeSpec := { name := "eventsRanks", fn := fun _ => fun
  | [d1, d2, d3] => { results := [.lit (.bool false)], args := [d1, d2, d3] }
  | _ => none }
def EventsRanksWrongFalsely : Prop := eventsRanksRow.holds Try.pinned (OpenSpec.ofChange eventsRanksWrong)

/-- 'sewershedlaw21.EventsMiddle': WHATEVER THE INPUT: true; the input reads as it did. -/
def eventsMiddleSpec : ChangeSpec := { name := "eventsMiddle", fn := fun _ => fun
  | [d1, d2, d3, d4] => { results := [.lit (.bool true)], args := [d1, d2, d3, d4] }
  | _ => none }
def eventsMiddleRow : OpenClaim := { program := "ytdlaghjijfgncaa", sum := "d6af7d81a3c214b193c4c871118258d620b8e6f640d64c7285bcfb60db482248", func := "sewershed/sewershedlaw21.EventsMiddle", spec := "eventsMiddle", unfollowed := true, recurses := true, apart := false }
def EventsMiddleSaid : Prop := eventsMiddleRow.holds Try.pinned (OpenSpec.ofChange eventsMiddleSpec)

/-- ITS FALSE NEIGHBOUR: 'it returns false'. Refute it at one input. -/
def eventsMiddleWrong : ChangeSpec := { name := "eventsMiddle", fn := fun _ => fun
  | [d1, d2, d3, d4] => { results := [.lit (.bool false)], args := [d1, d2, d3, d4] }
  | _ => none }
def EventsMiddleWrongFalsely : Prop := eventsMiddleRow.holds Try.pinned (OpenSpec.ofChange eventsMiddleWrong)

/-- 'sewershedlaw21.EventsParts': WHATEVER THE INPUT: true; the input reads as it did. -/
def eventsPartsSpec : ChangeSpec := { name := "eventsParts", fn := fun _ => fun
  | [d1, d2, d3, d4] => { results := [.lit (.bool true)], args := [d1, d2, d3, d4] }
  | _ => none }
def eventsPartsRow : OpenClaim := { program := "ytdlaghjijfgncaa", sum := "d6af7d81a3c214b193c4c871118258d620b8e6f640d64c7285bcfb60db482248", func := "sewershed/sewershedlaw21.EventsParts", spec := "eventsParts", unfollowed := true, recurses := true, apart := false }
def EventsPartsSaid : Prop := eventsPartsRow.holds Try.pinned (OpenSpec.ofChange eventsPartsSpec)

/-- ITS FALSE NEIGHBOUR: 'it returns false'. Refute it at one input. -/
def eventsPartsWrong : ChangeSpec := { name := "eventsParts", fn := fun _ => fun
  | [d1, d2, d3, d4] => { results := [.lit (.bool false)], args := [d1, d2, d3, d4] }
  | _ => none }
def EventsPartsWrongFalsely : Prop := eventsPartsRow.holds Try.pinned (OpenSpec.ofChange eventsPartsWrong)

/-- 'sewershedlaw21.EventsJoined': WHATEVER THE INPUT: true; the input reads as it did. -/
def eventsJoinedSpec : ChangeSpec := { name := "eventsJoined", fn := fun _ => fun
  | [d1, d2, d3] => { results := [.lit (.bool true)], args := [d1, d2, d3] }
  | _ => none }
def eventsJoinedRow : OpenClaim := { program := "ytdlaghjijfgncaa", sum := "d6af7d81a3c214b193c4c871118258d620b8e6f640d64c7285bcfb60db482248", func := "sewershed/sewershedlaw21.EventsJoined", spec := "eventsJoined", unfollowed := true, recurses := true, apart := false }
def EventsJoinedSaid : Prop := eventsJoinedRow.holds Try.pinned (OpenSpec.ofChange eventsJoinedSpec)

/-- ITS FALSE NEIGHBOUR: 'it returns false'. Refute it at one input. -/
def eventsJoinedWrong : ChangeSpec := { name := "eventsJoined", fn := fun _ => fun
  | [d1, d2, d3] => { results := [.lit (.bool false)], args := [d1, d2, d3] }
  | _ => none }
def EventsJoinedWrongFalsely : Prop := eventsJoinedRow.holds Try.pinned (OpenSpec.ofChange eventsJoinedWrong)

/-- 'sewershedlaw21.EventsOrder': WHATEVER THE INPUT: true; the input reads as it did. -/
def eventsOrderSpec : ChangeSpec := { name := "eventsOrder", fn := fun _ => fun
  | [d1, d2] => { results := [.lit (.bool true)], args := [d1, d2] }
  | _ => none }
def eventsOrderRow : OpenClaim := { program := "ytdlaghjijfgncaa", sum := "d6af7d81a3c214b193c4c871118258d620b8e6f640d64c7285bcfb60db482248", func := "sewershed/sewershedlaw21.EventsOrder", spec := "eventsOrder", unfollowed := true, recurses := true, apart := false }
def EventsOrderSaid : Prop := eventsOrderRow.holds Try.pinned (OpenSpec.ofChange eventsOrderSpec)

/-- ITS FALSE NEIGHBOUR: 'it returns false'. Refute it at one input. -/
def eventsOrderWrong : ChangeSpec := { name := "eventsOrder", fn := fun _ => fun
  | [d1, d2] => { results := [.lit (.bool false)], args := [d1, d2] }
  | _ => none }
def EventsOrderWrongFalsely : Prop := eventsOrderRow.holds Try.pinned (OpenSpec.ofChange eventsOrderWrong)

/-- 'sewershedlaw21.EventsSplits': WHATEVER THE INPUT: true; the input reads as it did. -/
def eventsSplitsSpec : ChangeSpec := { name := "eventsSplits", fn := fun _ => fun
  | [d1, d2, d3, d4] => { results := [.lit (.bool true)], args := [d1, d2, d3, d4] }
  | _ => none }
def eventsSplitsRow : OpenClaim := { program := "ytdlaghjijfgncaa", sum := "d6af7d81a3c214b193c4c871118258d620b8e6f640d64c7285bcfb60db482248", func := "sewershed/sewershedlaw21.EventsSplits", spec := "eventsSplits", unfollowed := true, recurses := true, apart := false }
def EventsSplitsSaid : Prop := eventsSplitsRow.holds Try.pinned (OpenSpec.ofChange eventsSplitsSpec)

/-- ITS FALSE NEIGHBOUR: 'it returns false'. Refute it at one input. -/
def eventsSplitsWrong : ChangeSpec := { name := "eventsSplits", fn := fun _ => fun
  | [d1, d2, d3, d4] => { results := [.lit (.bool false)], args := [d1, d2, d3, d4] }
  | _ => none }
def EventsSplitsWrongFalsely : Prop := eventsSplitsRow.holds Try.pinned (OpenSpec.ofChange eventsSplitsWrong)

/-- 'sewershedlaw21.EventsDry': WHATEVER THE INPUT: true; the input reads as it did. -/
def eventsDrySpec : ChangeSpec := { name := "eventsDry", fn := fun _ => fun
  | [d1, d2, d3] => { results := [.lit (.bool true)], args := [d1, d2, d3] }
  | _ => none }
def eventsDryRow : OpenClaim := { program := "ytdlaghjijfgncaa", sum := "d6af7d81a3c214b193c4c871118258d620b8e6f640d64c7285bcfb60db482248", func := "sewershed/sewershedlaw21.EventsDry", spec := "eventsDry", unfollowed := true, recurses := true, apart := false }
def EventsDrySaid : Prop := eventsDryRow.holds Try.pinned (OpenSpec.ofChange eventsDrySpec)

/-- ITS FALSE NEIGHBOUR: 'it returns false'. Refute it at one input. -/
def eventsDryWrong : ChangeSpec := { name := "eventsDry", fn := fun _ => fun
  | [d1, d2, d3] => { results := [.lit (.bool false)], args := [d1, d2, d3] }
  | _ => none }
def EventsDryWrongFalsely : Prop := eventsDryRow.holds Try.pinned (OpenSpec.ofChange eventsDryWrong)

/- THE SECOND FORM. 'bulk': how many values and letters a reading holds, each counted each time it is reached (what is shared counts as often as it is met; a slice's spare places count too). A statement '..UptoSaid' is the law's where the arguments, and the package variables that the reading takes, are together of bulk at most 1048576: NARROWER than '..Said'. Prove '..Said' where nothing that the law and all that it calls make is longer than what came in: it says more and counts as full. Else prove '..UptoSaid'. A law counts once. -/
mutual
def uptoBulk {H : Type} : DataW H → Nat
  | .lit (.string bytes) => bytes.length + 1
  | .lit _ => 1
  | .nil => 1
  | .ptr d => uptoBulk d + 1
  | .slice elems spare => uptoBulkAll elems + uptoBulkAll spare + 1
  | .agg parts => uptoBulkAll parts + 1
  | .iface _ d => uptoBulk d + 1
  | .map entries => uptoBulkEntries entries + 1
  | .held _ => 1
def uptoBulkAll {H : Type} : List (DataW H) → Nat
  | [] => 0
  | d :: r => uptoBulk d + uptoBulkAll r
def uptoBulkEntries {H : Type} : List (Lit × DataW H) → Nat
  | [] => 0
  | x :: r => uptoBulkEntry x + uptoBulkEntries r
def uptoBulkEntry {H : Type} : Lit × DataW H → Nat
  | (.string bytes, d) => bytes.length + uptoBulk d + 1
  | (_, d) => uptoBulk d + 1
 end
def uptoSmall : (H : Type) → List (DataW H) → Bool := fun _ ds => decide (uptoBulkAll ds ≤ 1048576)
def OpenSpec.upto (s : _root_.Go.ChangeSpec) : _root_.Go.OpenSpec := { _root_.Go.OpenSpec.ofChange s with cond := some uptoSmall }

/-- 'sewershedlaw21.EventsWhole', WHERE WHAT IT READS IS OF BULK AT MOST 1048576: true; the input reads as it did. -/
def eventsWholeUptoRow : OpenClaim := { program := "ytdlaghjijfgncaa", sum := "d6af7d81a3c214b193c4c871118258d620b8e6f640d64c7285bcfb60db482248", func := "sewershed/sewershedlaw21.EventsWhole", spec := "eventsWhole", unfollowed := true, recurses := true, apart := false, narrowed := true }
def EventsWholeUptoSaid : Prop := eventsWholeUptoRow.holds Try.pinned (OpenSpec.upto eventsWholeSpec)

/-- 'sewershedlaw21.EventsRanks', WHERE WHAT IT READS IS OF BULK AT MOST 1048576: true; the input reads as it did. -/
def eventsRanksUptoRow : OpenClaim := { program := "ytdlaghjijfgncaa", sum := "d6af7d81a3c214b193c4c871118258d620b8e6f640d64c7285bcfb60db482248", func := "sewershed/sewershedlaw21.EventsRanks", spec := "eventsRanks", unfollowed := true, recurses := true, apart := false, narrowed := true }
def EventsRanksUptoSaid : Prop := eventsRanksUptoRow.holds Try.pinned (OpenSpec.upto eventsRanksSpec)

/-- 'sewershedlaw21.EventsMiddle', WHERE WHAT IT READS IS OF BULK AT MOST 1048576: true; the input reads as it did. -/
def eventsMiddleUptoRow : OpenClaim := { program := "ytdlaghjijfgncaa", sum := "d6af7d81a3c214b193c4c871118258d620b8e6f640d64c7285bcfb60db482248", func := "sewershed/sewershedlaw21.EventsMiddle", spec := "eventsMiddle", unfollowed := true, recurses := true, apart := false, narrowed := true }
def EventsMiddleUptoSaid : Prop := eventsMiddleUptoRow.holds Try.pinned (OpenSpec.upto eventsMiddleSpec)

/-- 'sewershedlaw21.EventsParts', WHERE WHAT IT READS IS OF BULK AT MOST 1048576: true; the input reads as it did. -/
def eventsPartsUptoRow : OpenClaim := { program := "ytdlaghjijfgncaa", sum := "d6af7d81a3c214b193c4c871118258d620b8e6f640d64c7285bcfb60db482248", func := "sewershed/sewershedlaw21.EventsParts", spec := "eventsParts", unfollowed := true, recurses := true, apart := false, narrowed := true }
def EventsPartsUptoSaid : Prop := eventsPartsUptoRow.holds Try.pinned (OpenSpec.upto eventsPartsSpec)

/-- 'sewershedlaw21.EventsJoined', WHERE WHAT IT READS IS OF BULK AT MOST 1048576: true; the input reads as it did. -/
def eventsJoinedUptoRow : OpenClaim := { program := "ytdlaghjijfgncaa", sum := "d6af7d81a3c214b193c4c871118258d620b8e6f640d64c7285bcfb60db482248", func := "sewershed/sewershedlaw21.EventsJoined", spec := "eventsJoined", unfollowed := true, recurses := true, apart := false, narrowed := true }
def EventsJoinedUptoSaid : Prop := eventsJoinedUptoRow.holds Try.pinned (OpenSpec.upto eventsJoinedSpec)

/-- 'sewershedlaw21.EventsOrder', WHERE WHAT IT READS IS OF BULK AT MOST 1048576: true; the input reads as it did. -/
def eventsOrderUptoRow : OpenClaim := { program := "ytdlaghjijfgncaa", sum := "d6af7d81a3c214b193c4c871118258d620b8e6f640d64c7285bcfb60db482248", func := "sewershed/sewershedlaw21.EventsOrder", spec := "eventsOrder", unfollowed := true, recurses := true, apart := false, narrowed := true }
def EventsOrderUptoSaid : Prop := eventsOrderUptoRow.holds Try.pinned (OpenSpec.upto eventsOrderSpec)

/-- 'sewershedlaw21.EventsSplits', WHERE WHAT IT READS IS OF BULK AT MOST 1048576: true; the input reads as it did. -/
def eventsSplitsUptoRow : OpenClaim := { program := "ytdlaghjijfgncaa", sum := "d6af7d81a3c214b193c4c871118258d620b8e6f640d64c7285bcfb60db482248", func := "sewershed/sewershedlaw21.EventsSplits", spec := "eventsSplits", unfollowed := true, recurses := true, apart := false, narrowed := true }
def EventsSplitsUptoSaid : Prop := eventsSplitsUptoRow.holds Try.pinned (OpenSpec.upto eventsSplitsSpec)

/-- 'sewershedlaw21.EventsDry', WHERE WHAT IT READS IS OF BULK AT MOST 1048576: true; the input reads as it did. -/
def eventsDryUptoRow : OpenClaim := { program := "ytdlaghjijfgncaa", sum := "d6af7d81a3c214b193c4c871118258d620b8e6f640d64c7285bcfb60db482248", func := "sewershed/sewershedlaw21.EventsDry", spec := "eventsDry", unfollowed := true, recurses := true, apart := false, narrowed := true }
def EventsDryUptoSaid : Prop := eventsDryUptoRow.holds Try.pinned (OpenSpec.upto eventsDrySpec)

end Rows
end Go.Proofs.Ytdlaghjijfgncaa
