/-
  No cell of these rows narrows 'for every input' (looked for: loops, veiled, ifaces, maps, wideKeys, modest, calm, conditions, laid).
  DERIVED. THE GIVEN ROWS OF THIS SEAT. 3 by the template 'for every input the law returns true; each argument reads behind the call as it read before'; 0 by the template 'total and deterministic' (their statements: YtjgfgbiohbgcaaaGreatTotals.lean).
  GIVEN WITH THE SEED: the statements are not yours to turn. If you find one false, say at which input.
  Laid BY PROGRAM, IN A SANDBOX (cutbox-rows.mjs): the forced cells as the released guide's own fill.sh prints them over the translation ee4b45ae247f5e23… (all of the seat's roots in one cut). By AI agents, Wed Nov 11 2026. No macro, syntax, notation, axiom, sorry.
-/
import Derived.Test.YtjgfgbiohbgcaaaGreatChecked
import GoSem.Claim
import GoSem.ClaimJoined
import GoSem.ClaimMapViews
import Derived.JoinedTies
import Derived.KernelRfl
namespace Go.Proofs.YtjgfgbiohbgcaaaGreat
/- THE CELL 'sum', in the pinned program and in every row, IS THE sha256 OF THE DUMP (.gsa) THAT YtjgfgbiohbgcaaaGreatProg.lean LOADS. Nothing in Lean hashes anything: it is a label: what it is worth is what the hold of that sum in a sandbox is worth. -/
noncomputable def Tryz.pinned : Pinned := { name := "ytjgfgbiohbgcaaagreat", sum := "ee4b45ae247f5e2351462cb5a7680474002deed32d65767ec9e74b3477faba37", checked := Tryz.checked }
namespace Rows
def none {H : Type} : Left H := { results := [], args := [] }

/-- 'sewershedlaw29.StorageNodes': WHATEVER THE INPUT: true; the input reads as it did. -/
def storageNodesSpec : ChangeSpec := { name := "storageNodes", fn := fun _ => fun
  | [d1, d2, d3] => { results := [.lit (.bool true)], args := [d1, d2, d3] }
  | _ => none }
def storageNodesRow : OpenClaim := { program := "ytjgfgbiohbgcaaagreat", sum := "ee4b45ae247f5e2351462cb5a7680474002deed32d65767ec9e74b3477faba37", func := "sewershed/sewershedlaw29.StorageNodes", spec := "storageNodes", inPlace := ["math/bits.Sub64", "math/bits.Add64", "slices.overlaps[sewershed/api.Knot]"], unfollowed := true, recurses := true, named := ["math/bits.divideError", "math/bits.overflowError"], apart := false }
def StorageNodesSaid : Prop := storageNodesRow.holds Tryz.pinned (OpenSpec.ofChange storageNodesSpec)

/-- ITS FALSE NEIGHBOUR: 'it returns false'. Refute it at one input. -/
def storageNodesWrong : ChangeSpec := { name := "storageNodes", fn := fun _ => fun
  | [d1, d2, d3] => { results := [.lit (.bool false)], args := [d1, d2, d3] }
  | _ => none }
def StorageNodesWrongFalsely : Prop := storageNodesRow.holds Tryz.pinned (OpenSpec.ofChange storageNodesWrong)

/-- 'sewershedlaw29.StorageLists': WHATEVER THE INPUT: true; the input reads as it did. -/
def storageListsSpec : ChangeSpec := { name := "storageLists", fn := fun _ => fun
  | [d1, d2, d3] => { results := [.lit (.bool true)], args := [d1, d2, d3] }
  | _ => none }
def storageListsRow : OpenClaim := { program := "ytjgfgbiohbgcaaagreat", sum := "ee4b45ae247f5e2351462cb5a7680474002deed32d65767ec9e74b3477faba37", func := "sewershed/sewershedlaw29.StorageLists", spec := "storageLists", inPlace := ["math/bits.Sub64", "math/bits.Add64", "slices.overlaps[sewershed/api.Knot]"], unfollowed := true, recurses := true, named := ["math/bits.divideError", "math/bits.overflowError"], apart := false }
def StorageListsSaid : Prop := storageListsRow.holds Tryz.pinned (OpenSpec.ofChange storageListsSpec)

/-- ITS FALSE NEIGHBOUR: 'it returns false'. Refute it at one input. -/
def storageListsWrong : ChangeSpec := { name := "storageLists", fn := fun _ => fun
  | [d1, d2, d3] => { results := [.lit (.bool false)], args := [d1, d2, d3] }
  | _ => none }
def StorageListsWrongFalsely : Prop := storageListsRow.holds Tryz.pinned (OpenSpec.ofChange storageListsWrong)

/-- 'sewershedlaw29.StorageStates': WHATEVER THE INPUT: true; the input reads as it did. -/
def storageStatesSpec : ChangeSpec := { name := "storageStates", fn := fun _ => fun
  | [d1, d2, d3, d4] => { results := [.lit (.bool true)], args := [d1, d2, d3, d4] }
  | _ => none }
def storageStatesRow : OpenClaim := { program := "ytjgfgbiohbgcaaagreat", sum := "ee4b45ae247f5e2351462cb5a7680474002deed32d65767ec9e74b3477faba37", func := "sewershed/sewershedlaw29.StorageStates", spec := "storageStates", inPlace := ["math/bits.Sub64", "math/bits.Add64", "slices.overlaps[sewershed/api.Knot]"], unfollowed := true, recurses := true, named := ["math/bits.divideError", "math/bits.overflowError"], apart := false }
def StorageStatesSaid : Prop := storageStatesRow.holds Tryz.pinned (OpenSpec.ofChange storageStatesSpec)

/-- ITS FALSE NEIGHBOUR: 'it returns false'. Refute it at one input. -/
def storageStatesWrong : ChangeSpec := { name := "storageStates", fn := fun _ => fun
  | [d1, d2, d3, d4] => { results := [.lit (.bool false)], args := [d1, d2, d3, d4] }
  | _ => none }
def StorageStatesWrongFalsely : Prop := storageStatesRow.holds Tryz.pinned (OpenSpec.ofChange storageStatesWrong)

/- THE SECOND FORM. 'bulk': how many values and letters a reading holds, each counted each time it is reached (what is shared counts as often as it is met; a slice's spare places count too). A statement '..UptoSaid' is the law's where the arguments, and the package variables that the reading takes, are together of bulk at most 1048576: NARROWER than '..Said'. Prove '..Said' where nothing that the law and all that it calls make is longer than what came in: it says more and counts as full. Else prove '..UptoSaid'. A law counts once. -/
mutual
def uptoBulk {H : Type} : DataW H → Nat
  | .lit (.string bytes) => bytes.length + 1
  | .lit _ => 1
  | .nil => 1
  | .ptr d => uptoBulk d + 1
  | .slice elems spare => uptoBulkAll elems + uptoBulkAll spare + 1
  | .agg parts => uptoBulkAll parts + 1
  | .iface _ d => uptoBulk d + 1
  | .map entries => uptoBulkEntries entries + 1
  | .held _ => 1
def uptoBulkAll {H : Type} : List (DataW H) → Nat
  | [] => 0
  | d :: r => uptoBulk d + uptoBulkAll r
def uptoBulkEntries {H : Type} : List (Lit × DataW H) → Nat
  | [] => 0
  | x :: r => uptoBulkEntry x + uptoBulkEntries r
def uptoBulkEntry {H : Type} : Lit × DataW H → Nat
  | (.string bytes, d) => bytes.length + uptoBulk d + 1
  | (_, d) => uptoBulk d + 1
 end
def uptoSmall : (H : Type) → List (DataW H) → Bool := fun _ ds => decide (uptoBulkAll ds ≤ 1048576)
def OpenSpec.upto (s : _root_.Go.ChangeSpec) : _root_.Go.OpenSpec := { _root_.Go.OpenSpec.ofChange s with cond := some uptoSmall }

/-- 'sewershedlaw29.StorageNodes', WHERE WHAT IT READS IS OF BULK AT MOST 1048576: true; the input reads as it did. -/
def storageNodesUptoRow : OpenClaim := { program := "ytjgfgbiohbgcaaagreat", sum := "ee4b45ae247f5e2351462cb5a7680474002deed32d65767ec9e74b3477faba37", func := "sewershed/sewershedlaw29.StorageNodes", spec := "storageNodes", inPlace := ["math/bits.Sub64", "math/bits.Add64", "slices.overlaps[sewershed/api.Knot]"], unfollowed := true, recurses := true, named := ["math/bits.divideError", "math/bits.overflowError"], apart := false, narrowed := true }
def StorageNodesUptoSaid : Prop := storageNodesUptoRow.holds Tryz.pinned (OpenSpec.upto storageNodesSpec)

/-- 'sewershedlaw29.StorageLists', WHERE WHAT IT READS IS OF BULK AT MOST 1048576: true; the input reads as it did. -/
def storageListsUptoRow : OpenClaim := { program := "ytjgfgbiohbgcaaagreat", sum := "ee4b45ae247f5e2351462cb5a7680474002deed32d65767ec9e74b3477faba37", func := "sewershed/sewershedlaw29.StorageLists", spec := "storageLists", inPlace := ["math/bits.Sub64", "math/bits.Add64", "slices.overlaps[sewershed/api.Knot]"], unfollowed := true, recurses := true, named := ["math/bits.divideError", "math/bits.overflowError"], apart := false, narrowed := true }
def StorageListsUptoSaid : Prop := storageListsUptoRow.holds Tryz.pinned (OpenSpec.upto storageListsSpec)

/-- 'sewershedlaw29.StorageStates', WHERE WHAT IT READS IS OF BULK AT MOST 1048576: true; the input reads as it did. -/
def storageStatesUptoRow : OpenClaim := { program := "ytjgfgbiohbgcaaagreat", sum := "ee4b45ae247f5e2351462cb5a7680474002deed32d65767ec9e74b3477faba37", func := "sewershed/sewershedlaw29.StorageStates", spec := "storageStates", inPlace := ["math/bits.Sub64", "math/bits.Add64", "slices.overlaps[sewershed/api.Knot]"], unfollowed := true, recurses := true, named := ["math/bits.divideError", "math/bits.overflowError"], apart := false, narrowed := true }
def StorageStatesUptoSaid : Prop := storageStatesUptoRow.holds Tryz.pinned (OpenSpec.upto storageStatesSpec)

end Rows
end Go.Proofs.YtjgfgbiohbgcaaaGreat
