/-
  No cell of these rows narrows 'for every input' (looked for: loops, veiled, ifaces, maps, wideKeys, modest, calm, conditions, laid).
  DERIVED. THE GIVEN ROWS OF THIS SEAT. 4 by the template 'for every input the law returns true; each argument reads behind the call as it read before'; 0 by the template 'total and deterministic' (their statements: YtjgfgbiohbgcaaaTotals.lean).
  GIVEN WITH THE SEED: the statements are not yours to turn. If you find one false, say at which input.
  Laid BY PROGRAM, IN A SANDBOX (cutbox-rows.mjs): the forced cells as the released guide's own fill.sh prints them over the translation cf3d768350714bd6… (all of the seat's roots in one cut). By AI agents, Wed Nov 11 2026. No macro, syntax, notation, axiom, sorry.
-/
import Derived.Test.YtjgfgbiohbgcaaaChecked
import GoSem.Claim
import GoSem.ClaimJoined
import GoSem.ClaimMapViews
import Derived.JoinedTies
import Derived.KernelRfl
namespace Go.Proofs.Ytjgfgbiohbgcaaa
/- THE CELL 'sum', in the pinned program and in every row, IS THE sha256 OF THE DUMP (.gsa) THAT YtjgfgbiohbgcaaaProg.lean LOADS. Nothing in Lean hashes anything: it is a label: what it is worth is what the hold of that sum in a sandbox is worth. -/
noncomputable def Try.pinned : Pinned := { name := "ytjgfgbiohbgcaaa", sum := "cf3d768350714bd64fea942e0f84530b99c51ce9e2c77b367b66da812101aa57", checked := Try.checked }
namespace Rows
def none {H : Type} : Left H := { results := [], args := [] }

/-- 'sewershedlaw29.StorageShapes': WHATEVER THE INPUT: true; the input reads as it did. -/
def storageShapesSpec : ChangeSpec := { name := "storageShapes", fn := fun _ => fun
  | [d1, d2, d3, d4, d5] => { results := [.lit (.bool true)], args := [d1, d2, d3, d4, d5] }
  | _ => none }
def storageShapesRow : OpenClaim := { program := "ytjgfgbiohbgcaaa", sum := "cf3d768350714bd64fea942e0f84530b99c51ce9e2c77b367b66da812101aa57", func := "sewershed/sewershedlaw29.StorageShapes", spec := "storageShapes", inPlace := ["math/bits.Sub64", "math/bits.Add64", "slices.overlaps[sewershed/api.Knot]"], unfollowed := true, recurses := true, named := ["math/bits.divideError", "math/bits.overflowError"], apart := false }
def StorageShapesSaid : Prop := storageShapesRow.holds Try.pinned (OpenSpec.ofChange storageShapesSpec)

/-- ITS FALSE NEIGHBOUR: 'it returns false'. Refute it at one input. -/
def storageShapesWrong : ChangeSpec := { name := "storageShapes", fn := fun _ => fun
  | [d1, d2, d3, d4, d5] => { results := [.lit (.bool false)], args := [d1, d2, d3, d4, d5] }
  | _ => none }
def StorageShapesWrongFalsely : Prop := storageShapesRow.holds Try.pinned (OpenSpec.ofChange storageShapesWrong)

/-- 'sewershedlaw29.StorageWide': WHATEVER THE INPUT: true; the input reads as it did. -/
def storageWideSpec : ChangeSpec := { name := "storageWide", fn := fun _ => fun
  | [d1, d2, d3, d4, d5] => { results := [.lit (.bool true)], args := [d1, d2, d3, d4, d5] }
  | _ => none }
def storageWideRow : OpenClaim := { program := "ytjgfgbiohbgcaaa", sum := "cf3d768350714bd64fea942e0f84530b99c51ce9e2c77b367b66da812101aa57", func := "sewershed/sewershedlaw29.StorageWide", spec := "storageWide", inPlace := ["math/bits.Sub64", "math/bits.Add64", "slices.overlaps[sewershed/api.Knot]"], unfollowed := true, recurses := true, named := ["math/bits.divideError", "math/bits.overflowError"], apart := false }
def StorageWideSaid : Prop := storageWideRow.holds Try.pinned (OpenSpec.ofChange storageWideSpec)

/-- ITS FALSE NEIGHBOUR: 'it returns false'. Refute it at one input. -/
def storageWideWrong : ChangeSpec := { name := "storageWide", fn := fun _ => fun
  | [d1, d2, d3, d4, d5] => { results := [.lit (.bool false)], args := [d1, d2, d3, d4, d5] }
  | _ => none }
def StorageWideWrongFalsely : Prop := storageWideRow.holds Try.pinned (OpenSpec.ofChange storageWideWrong)

/-- 'sewershedlaw29.StorageTurns': WHATEVER THE INPUT: true; the input reads as it did. -/
def storageTurnsSpec : ChangeSpec := { name := "storageTurns", fn := fun _ => fun
  | [d1, d2, d3] => { results := [.lit (.bool true)], args := [d1, d2, d3] }
  | _ => none }
def storageTurnsRow : OpenClaim := { program := "ytjgfgbiohbgcaaa", sum := "cf3d768350714bd64fea942e0f84530b99c51ce9e2c77b367b66da812101aa57", func := "sewershed/sewershedlaw29.StorageTurns", spec := "storageTurns", inPlace := ["math/bits.Sub64", "math/bits.Add64", "slices.overlaps[sewershed/api.Knot]"], unfollowed := true, recurses := true, named := ["math/bits.divideError", "math/bits.overflowError"], apart := false }
def StorageTurnsSaid : Prop := storageTurnsRow.holds Try.pinned (OpenSpec.ofChange storageTurnsSpec)

/-- ITS FALSE NEIGHBOUR: 'it returns false'. Refute it at one input. -/
def storageTurnsWrong : ChangeSpec := { name := "storageTurns", fn := fun _ => fun
  | [d1, d2, d3] => { results := [.lit (.bool false)], args := [d1, d2, d3] }
  | _ => none }
def StorageTurnsWrongFalsely : Prop := storageTurnsRow.holds Try.pinned (OpenSpec.ofChange storageTurnsWrong)

/-- 'sewershedlaw29.StorageFilled': WHATEVER THE INPUT: true; the input reads as it did. -/
def storageFilledSpec : ChangeSpec := { name := "storageFilled", fn := fun _ => fun
  | [d1, d2, d3, d4, d5] => { results := [.lit (.bool true)], args := [d1, d2, d3, d4, d5] }
  | _ => none }
def storageFilledRow : OpenClaim := { program := "ytjgfgbiohbgcaaa", sum := "cf3d768350714bd64fea942e0f84530b99c51ce9e2c77b367b66da812101aa57", func := "sewershed/sewershedlaw29.StorageFilled", spec := "storageFilled", inPlace := ["math/bits.Sub64", "math/bits.Add64", "slices.overlaps[sewershed/api.Knot]"], unfollowed := true, recurses := true, named := ["math/bits.divideError", "math/bits.overflowError"], apart := false }
def StorageFilledSaid : Prop := storageFilledRow.holds Try.pinned (OpenSpec.ofChange storageFilledSpec)

/-- ITS FALSE NEIGHBOUR: 'it returns false'. Refute it at one input. -/
def storageFilledWrong : ChangeSpec := { name := "storageFilled", fn := fun _ => fun
  | [d1, d2, d3, d4, d5] => { results := [.lit (.bool false)], args := [d1, d2, d3, d4, d5] }
  | _ => none }
def StorageFilledWrongFalsely : Prop := storageFilledRow.holds Try.pinned (OpenSpec.ofChange storageFilledWrong)

/- THE SECOND FORM. 'bulk': how many values and letters a reading holds, each counted each time it is reached (what is shared counts as often as it is met; a slice's spare places count too). A statement '..UptoSaid' is the law's where the arguments, and the package variables that the reading takes, are together of bulk at most 1048576: NARROWER than '..Said'. Prove '..Said' where nothing that the law and all that it calls make is longer than what came in: it says more and counts as full. Else prove '..UptoSaid'. A law counts once. -/
mutual
def uptoBulk {H : Type} : DataW H → Nat
  | .lit (.string bytes) => bytes.length + 1
  | .lit _ => 1
  | .nil => 1
  | .ptr d => uptoBulk d + 1
  | .slice elems spare => uptoBulkAll elems + uptoBulkAll spare + 1
  | .agg parts => uptoBulkAll parts + 1
  | .iface _ d => uptoBulk d + 1
  | .map entries => uptoBulkEntries entries + 1
  | .held _ => 1
def uptoBulkAll {H : Type} : List (DataW H) → Nat
  | [] => 0
  | d :: r => uptoBulk d + uptoBulkAll r
def uptoBulkEntries {H : Type} : List (Lit × DataW H) → Nat
  | [] => 0
  | x :: r => uptoBulkEntry x + uptoBulkEntries r
def uptoBulkEntry {H : Type} : Lit × DataW H → Nat
  | (.string bytes, d) => bytes.length + uptoBulk d + 1
  | (_, d) => uptoBulk d + 1
 end
def uptoSmall : (H : Type) → List (DataW H) → Bool := fun _ ds => decide (uptoBulkAll ds ≤ 1048576)
def OpenSpec.upto (s : _root_.Go.ChangeSpec) : _root_.Go.OpenSpec := { _root_.Go.OpenSpec.ofChange s with cond := some uptoSmall }

/-- 'sewershedlaw29.StorageShapes', WHERE WHAT IT READS IS OF BULK AT MOST 1048576: true; the input reads as it did. -/
def storageShapesUptoRow : OpenClaim := { program := "ytjgfgbiohbgcaaa", sum := "cf3d768350714bd64fea942e0f84530b99c51ce9e2c77b367b66da812101aa57", func := "sewershed/sewershedlaw29.StorageShapes", spec := "storageShapes", inPlace := ["math/bits.Sub64", "math/bits.Add64", "slices.overlaps[sewershed/api.Knot]"], unfollowed := true, recurses := true, named := ["math/bits.divideError", "math/bits.overflowError"], apart := false, narrowed := true }
def StorageShapesUptoSaid : Prop := storageShapesUptoRow.holds Try.pinned (OpenSpec.upto storageShapesSpec)

/-- 'sewershedlaw29.StorageWide', WHERE WHAT IT READS IS OF BULK AT MOST 1048576: true; the input reads as it did. -/
def storageWideUptoRow : OpenClaim := { program := "ytjgfgbiohbgcaaa", sum := "cf3d768350714bd64fea942e0f84530b99c51ce9e2c77b367b66da812101aa57", func := "sewershed/sewershedlaw29.StorageWide", spec := "storageWide", inPlace := ["math/bits.Sub64", "math/bits.Add64", "slices.overlaps[sewershed/api.Knot]"], unfollowed := true, recurses := true, named := ["math/bits.divideError", "math/bits.overflowError"], apart := false, narrowed := true }
def StorageWideUptoSaid : Prop := storageWideUptoRow.holds Try.pinned (OpenSpec.upto storageWideSpec)

/-- 'sewershedlaw29.StorageTurns', WHERE WHAT IT READS IS OF BULK AT MOST 1048576: true; the input reads as it did. -/
def storageTurnsUptoRow : OpenClaim := { program := "ytjgfgbiohbgcaaa", sum := "cf3d768350714bd64fea942e0f84530b99c51ce9e2c77b367b66da812101aa57", func := "sewershed/sewershedlaw29.StorageTurns", spec := "storageTurns", inPlace := ["math/bits.Sub64", "math/bits.Add64", "slices.overlaps[sewershed/api.Knot]"], unfollowed := true, recurses := true, named := ["math/bits.divideError", "math/bits.overflowError"], apart := false, narrowed := true }
def StorageTurnsUptoSaid : Prop := storageTurnsUptoRow.holds Try.pinned (OpenSpec.upto storageTurnsSpec)

/-- 'sewershedlaw29.StorageFilled', WHERE WHAT IT READS IS OF BULK AT MOST 1048576: true; the input reads as it did. -/
def storageFilledUptoRow : OpenClaim := { program := "ytjgfgbiohbgcaaa", sum := "cf3d768350714bd64fea942e0f84530b99c51ce9e2c77b367b66da812101aa57", func := "sewershed/sewershedlaw29.StorageFilled", spec := "storageFilled", inPlace := ["math/bits.Sub64", "math/bits.Add64", "slices.overlaps[sewershed/api.Knot]"], unfollowed := true, recurses := true, named := ["math/bits.divideError", "math/bits.overflowError"], apart := false, narrowed := true }
def StorageFilledUptoSaid : Prop := storageFilledUptoRow.holds Try.pinned (OpenSpec.upto storageFilledSpec)

end Rows
end Go.Proofs.Ytjgfgbiohbgcaaa
