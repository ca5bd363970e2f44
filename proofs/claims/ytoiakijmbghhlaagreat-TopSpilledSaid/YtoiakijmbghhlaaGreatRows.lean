/-
  No cell of these rows narrows 'for every input' (looked for: loops, veiled, ifaces, maps, wideKeys, modest, calm, conditions, laid).
  DERIVED. THE GIVEN ROWS OF THIS SEAT. 3 by the template 'for every input the law returns true; each argument reads behind the call as it read before'; 0 by the template 'total and deterministic' (their statements: YtoiakijmbghhlaaGreatTotals.lean).
  GIVEN WITH THE SEED: the statements are not yours to turn. If you find one false, say at which input.
  Laid BY PROGRAM, IN A SANDBOX (cutbox-rows.mjs): the forced cells as the released guide's own fill.sh prints them over the translation 5b0c8653482382b1… (all of the seat's roots in one cut). By AI agents, Wed Nov 11 2026. No macro, syntax, notation, axiom, sorry.
-/
import Derived.Test.YtoiakijmbghhlaaGreatChecked
import GoSem.Claim
import GoSem.ClaimJoined
import GoSem.ClaimMapViews
import Derived.JoinedTies
import Derived.KernelRfl
namespace Go.Proofs.YtoiakijmbghhlaaGreat
/- THE CELL 'sum', in the pinned program and in every row, IS THE sha256 OF THE DUMP (.gsa) THAT YtoiakijmbghhlaaGreatProg.lean LOADS. Nothing in Lean hashes anything: it is a label: what it is worth is what the hold of that sum in a sandbox is worth. -/
noncomputable def Tryz.pinned : Pinned := { name := "ytoiakijmbghhlaagreat", sum := "5b0c8653482382b1d9d2f53a0e4719337672accb1a0742dede1f4ad84f491627", checked := Tryz.checked }
namespace Rows
def none {H : Type} : Left H := { results := [], args := [] }

/-- 'sewershedtop.TopBalance': WHATEVER THE INPUT: true; the input reads as it did. -/
def topBalanceSpec : ChangeSpec := { name := "topBalance", fn := fun _ => fun
  | [d1, d2, d3, d4, d5, d6, d7, d8] => { results := [.lit (.bool true)], args := [d1, d2, d3, d4, d5, d6, d7, d8] }
  | _ => none }
def topBalanceRow : OpenClaim := { program := "ytoiakijmbghhlaagreat", sum := "5b0c8653482382b1d9d2f53a0e4719337672accb1a0742dede1f4ad84f491627", func := "sewershed/sewershedtop.TopBalance", spec := "topBalance", inPlace := ["math/bits.Sub64", "math/bits.Add64"], unfollowed := true, recurses := true, named := ["math/bits.divideError", "math/bits.overflowError"], plainKeys := false, apart := false }
def TopBalanceSaid : Prop := topBalanceRow.holds Tryz.pinned (OpenSpec.ofChange topBalanceSpec)

/-- ITS FALSE NEIGHBOUR: 'it returns false'. Refute it at one input. -/
def topBalanceWrong : ChangeSpec := { name := "topBalance", fn := fun _ => fun
  | [d1, d2, d3, d4, d5, d6, d7, d8] => { results := [.lit (.bool false)], args := [d1, d2, d3, d4, d5, d6, d7, d8] }
  | _ => none }
def TopBalanceWrongFalsely : Prop := topBalanceRow.holds Tryz.pinned (OpenSpec.ofChange topBalanceWrong)

/-- 'sewershedtop.TopPlanned': WHATEVER THE INPUT: true; the input reads as it did. -/
def topPlannedSpec : ChangeSpec := { name := "topPlanned", fn := fun _ => fun
  | [d1, d2, d3] => { results := [.lit (.bool true)], args := [d1, d2, d3] }
  | _ => none }
def topPlannedRow : OpenClaim := { program := "ytoiakijmbghhlaagreat", sum := "5b0c8653482382b1d9d2f53a0e4719337672accb1a0742dede1f4ad84f491627", func := "sewershed/sewershedtop.TopPlanned", spec := "topPlanned", inPlace := ["math/bits.Sub64", "math/bits.Add64"], unfollowed := true, recurses := true, named := ["math/bits.divideError", "math/bits.overflowError"], plainKeys := false, apart := false }
def TopPlannedSaid : Prop := topPlannedRow.holds Tryz.pinned (OpenSpec.ofChange topPlannedSpec)

/-- ITS FALSE NEIGHBOUR: 'it returns false'. Refute it at one input. -/
def topPlannedWrong : ChangeSpec := { name := "topPlanned", fn := fun _ => fun
  | [d1, d2, d3] => { results := [.lit (.bool false)], args := [d1, d2, d3] }
  | _ => none }
def TopPlannedWrongFalsely : Prop := topPlannedRow.holds Tryz.pinned (OpenSpec.ofChange topPlannedWrong)

/-- 'sewershedtop.TopSpilled': WHATEVER THE INPUT: true; the input reads as it did. -/
def topSpilledSpec : ChangeSpec := { name := "topSpilled", fn := fun _ => fun
  | [d1, d2, d3, d4, d5, d6] => { results := [.lit (.bool true)], args := [d1, d2, d3, d4, d5, d6] }
  | _ => none }
def topSpilledRow : OpenClaim := { program := "ytoiakijmbghhlaagreat", sum := "5b0c8653482382b1d9d2f53a0e4719337672accb1a0742dede1f4ad84f491627", func := "sewershed/sewershedtop.TopSpilled", spec := "topSpilled", inPlace := ["slices.overlaps[int]", "math/bits.Sub64", "math/bits.Add64"], unfollowed := true, recurses := true, named := ["math/bits.divideError", "math/bits.overflowError"], plainKeys := false, apart := false }
def TopSpilledSaid : Prop := topSpilledRow.holds Tryz.pinned (OpenSpec.ofChange topSpilledSpec)

/-- ITS FALSE NEIGHBOUR: 'it returns false'. Refute it at one input. -/
def topSpilledWrong : ChangeSpec := { name := "topSpilled", fn := fun _ => fun
  | [d1, d2, d3, d4, d5, d6] => { results := [.lit (.bool false)], args := [d1, d2, d3, d4, d5, d6] }
  | _ => none }
def TopSpilledWrongFalsely : Prop := topSpilledRow.holds Tryz.pinned (OpenSpec.ofChange topSpilledWrong)

/- THE SECOND FORM. 'bulk': how many values and letters a reading holds, each counted each time it is reached (what is shared counts as often as it is met; a slice's spare places count too). A statement '..UptoSaid' is the law's where the arguments, and the package variables that the reading takes, are together of bulk at most 1048576: NARROWER than '..Said'. Prove '..Said' where nothing that the law and all that it calls make is longer than what came in: it says more and counts as full. Else prove '..UptoSaid'. A law counts once. -/
mutual
def uptoBulk {H : Type} : DataW H → Nat
  | .lit (.string bytes) => bytes.length + 1
  | .lit _ => 1
  | .nil => 1
  | .ptr d => uptoBulk d + 1
  | .slice elems spare => uptoBulkAll elems + uptoBulkAll spare + 1
  | .agg parts => uptoBulkAll parts + 1
  | .iface _ d => uptoBulk d + 1
  | .map entries => uptoBulkEntries entries + 1
  | .held _ => 1
def uptoBulkAll {H : Type} : List (DataW H) → Nat
  | [] => 0
  | d :: r => uptoBulk d + uptoBulkAll r
def uptoBulkEntries {H : Type} : List (Lit × DataW H) → Nat
  | [] => 0
  | x :: r => uptoBulkEntry x + uptoBulkEntries r
def uptoBulkEntry {H : Type} : Lit × DataW H → Nat
  | (.string bytes, d) => bytes.length + uptoBulk d + 1
  | (_, d) => uptoBulk d + 1
 end
def uptoSmall : (H : Type) → List (DataW H) → Bool := fun _ ds => decide (uptoBulkAll ds ≤ 1048576)
def OpenSpec.upto (s : _root_.Go.ChangeSpec) : _root_.Go.OpenSpec := { _root_.Go.OpenSpec.ofChange s with cond := some uptoSmall }

/-- 'sewershedtop.TopBalance', WHERE WHAT IT READS IS OF BULK AT MOST 1048576: true; the input reads as it did. -/
def topBalanceUptoRow : OpenClaim := { program := "ytoiakijmbghhlaagreat", sum := "5b0c8653482382b1d9d2f53a0e4719337672accb1a0742dede1f4ad84f491627", func := "sewershed/sewershedtop.TopBalance", spec := "topBalance", inPlace := ["math/bits.Sub64", "math/bits.Add64"], unfollowed := true, recurses := true, named := ["math/bits.divideError", "math/bits.overflowError"], plainKeys := false, apart := false, narrowed := true }
def TopBalanceUptoSaid : Prop := topBalanceUptoRow.holds Tryz.pinned (OpenSpec.upto topBalanceSpec)

/-- 'sewershedtop.TopPlanned', WHERE WHAT IT READS IS OF BULK AT MOST 1048576: true; the input reads as it did. -/
def topPlannedUptoRow : OpenClaim := { program := "ytoiakijmbghhlaagreat", sum := "5b0c8653482382b1d9d2f53a0e4719337672accb1a0742dede1f4ad84f491627", func := "sewershed/sewershedtop.TopPlanned", spec := "topPlanned", inPlace := ["math/bits.Sub64", "math/bits.Add64"], unfollowed := true, recurses := true, named := ["math/bits.divideError", "math/bits.overflowError"], plainKeys := false, apart := false, narrowed := true }
def TopPlannedUptoSaid : Prop := topPlannedUptoRow.holds Tryz.pinned (OpenSpec.upto topPlannedSpec)

/-- 'sewershedtop.TopSpilled', WHERE WHAT IT READS IS OF BULK AT MOST 1048576: true; the input reads as it did. -/
def topSpilledUptoRow : OpenClaim := { program := "ytoiakijmbghhlaagreat", sum := "5b0c8653482382b1d9d2f53a0e4719337672accb1a0742dede1f4ad84f491627", func := "sewershed/sewershedtop.TopSpilled", spec := "topSpilled", inPlace := ["slices.overlaps[int]", "math/bits.Sub64", "math/bits.Add64"], unfollowed := true, recurses := true, named := ["math/bits.divideError", "math/bits.overflowError"], plainKeys := false, apart := false, narrowed := true }
def TopSpilledUptoSaid : Prop := topSpilledUptoRow.holds Tryz.pinned (OpenSpec.upto topSpilledSpec)

end Rows
end Go.Proofs.YtoiakijmbghhlaaGreat
