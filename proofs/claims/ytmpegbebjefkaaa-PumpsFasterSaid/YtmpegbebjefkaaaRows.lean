/-
  No cell of these rows narrows 'for every input' (looked for: loops, veiled, ifaces, maps, wideKeys, modest, calm, conditions, laid).
  DERIVED. THE GIVEN ROWS OF THIS SEAT. 6 by the template 'for every input the law returns true; each argument reads behind the call as it read before'; 0 by the template 'total and deterministic' (their statements: YtmpegbebjefkaaaTotals.lean).
  GIVEN WITH THE SEED: the statements are not yours to turn. If you find one false, say at which input.
  Laid BY PROGRAM, IN A SANDBOX (cutbox-rows.mjs): the forced cells as the released guide's own fill.sh prints them over the translation 83cfe1a054705963… (all of the seat's roots in one cut). By AI agents, Wed Nov 11 2026. No macro, syntax, notation, axiom, sorry.
-/
import Derived.Test.YtmpegbebjefkaaaChecked
import GoSem.Claim
import GoSem.ClaimJoined
import GoSem.ClaimMapViews
import Derived.JoinedTies
import Derived.KernelRfl
namespace Go.Proofs.Ytmpegbebjefkaaa
/- THE CELL 'sum', in the pinned program and in every row, IS THE sha256 OF THE DUMP (.gsa) THAT YtmpegbebjefkaaaProg.lean LOADS. Nothing in Lean hashes anything: it is a label: what it is worth is what the hold of that sum in a sandbox is worth. -/
noncomputable def Try.pinned : Pinned := { name := "ytmpegbebjefkaaa", sum := "83cfe1a0547059633a17d178f10bb2a2db625c887fef91823a58732aca8d9c0a", checked := Try.checked }
namespace Rows
def none {H : Type} : Left H := { results := [], args := [] }

/-- 'sewershedlaw33.PumpsStarts': WHATEVER THE INPUT: true; the input reads as it did. -/
def pumpsStartsSpec : ChangeSpec := { name := "pumpsStarts", fn := fun _ => fun
  | [d1, d2] => { results := [.lit (.bool true)], args := [d1, d2] }
  | _ => none }
def pumpsStartsRow : OpenClaim := { program := "ytmpegbebjefkaaa", sum := "83cfe1a0547059633a17d178f10bb2a2db625c887fef91823a58732aca8d9c0a", func := "sewershed/sewershedlaw33.PumpsStarts", spec := "pumpsStarts", inPlace := ["math/bits.Sub64", "math/bits.Add64"], unfollowed := true, recurses := true, named := ["math/bits.divideError", "math/bits.overflowError"], apart := false }
def PumpsStartsSaid : Prop := pumpsStartsRow.holds Try.pinned (OpenSpec.ofChange pumpsStartsSpec)

/-- ITS FALSE NEIGHBOUR: 'it returns false'. Refute it at one input. -/
def pumpsStartsWrong : ChangeSpec := { name := "pumpsStarts", fn := fun _ => fun
  | [d1, d2] => { results := [.lit (.bool false)], args := [d1, d2] }
  | _ => none }
def PumpsStartsWrongFalsely : Prop := pumpsStartsRow.holds Try.pinned (OpenSpec.ofChange pumpsStartsWrong)

/-- 'sewershedlaw33.PumpsEnergies': WHATEVER THE INPUT: true; the input reads as it did. -/
def pumpsEnergiesSpec : ChangeSpec := { name := "pumpsEnergies", fn := fun _ => fun
  | [d1, d2, d3] => { results := [.lit (.bool true)], args := [d1, d2, d3] }
  | _ => none }
def pumpsEnergiesRow : OpenClaim := { program := "ytmpegbebjefkaaa", sum := "83cfe1a0547059633a17d178f10bb2a2db625c887fef91823a58732aca8d9c0a", func := "sewershed/sewershedlaw33.PumpsEnergies", spec := "pumpsEnergies", inPlace := ["math/bits.Sub64", "math/bits.Add64"], unfollowed := true, recurses := true, named := ["math/bits.divideError", "math/bits.overflowError"], apart := false }
def PumpsEnergiesSaid : Prop := pumpsEnergiesRow.holds Try.pinned (OpenSpec.ofChange pumpsEnergiesSpec)

/-- ITS FALSE NEIGHBOUR: 'it returns false'. Refute it at one input. -/
def pumpsEnergiesWrong : ChangeSpec := { name := "pumpsEnergies", fn := fun _ => fun
  | [d1, d2, d3] => { results := [.lit (.bool false)], args := [d1, d2, d3] }
  | _ => none }
def PumpsEnergiesWrongFalsely : Prop := pumpsEnergiesRow.holds Try.pinned (OpenSpec.ofChange pumpsEnergiesWrong)

/-- 'sewershedlaw33.PumpsGrow': WHATEVER THE INPUT: true; the input reads as it did. -/
def pumpsGrowSpec : ChangeSpec := { name := "pumpsGrow", fn := fun _ => fun
  | [d1, d2, d3, d4, d5] => { results := [.lit (.bool true)], args := [d1, d2, d3, d4, d5] }
  | _ => none }
def pumpsGrowRow : OpenClaim := { program := "ytmpegbebjefkaaa", sum := "83cfe1a0547059633a17d178f10bb2a2db625c887fef91823a58732aca8d9c0a", func := "sewershed/sewershedlaw33.PumpsGrow", spec := "pumpsGrow", inPlace := ["math/bits.Sub64", "math/bits.Add64"], unfollowed := true, recurses := true, named := ["math/bits.divideError", "math/bits.overflowError"], apart := false }
def PumpsGrowSaid : Prop := pumpsGrowRow.holds Try.pinned (OpenSpec.ofChange pumpsGrowSpec)

/-- ITS FALSE NEIGHBOUR: 'it returns false'. Refute it at one input. -/
def pumpsGrowWrong : ChangeSpec := { name := "pumpsGrow", fn := fun _ => fun
  | [d1, d2, d3, d4, d5] => { results := [.lit (.bool false)], args := [d1, d2, d3, d4, d5] }
  | _ => none }
def PumpsGrowWrongFalsely : Prop := pumpsGrowRow.holds Try.pinned (OpenSpec.ofChange pumpsGrowWrong)

/-- 'sewershedlaw33.PumpsAdd': WHATEVER THE INPUT: true; the input reads as it did. -/
def pumpsAddSpec : ChangeSpec := { name := "pumpsAdd", fn := fun _ => fun
  | [d1, d2, d3, d4, d5] => { results := [.lit (.bool true)], args := [d1, d2, d3, d4, d5] }
  | _ => none }
def pumpsAddRow : OpenClaim := { program := "ytmpegbebjefkaaa", sum := "83cfe1a0547059633a17d178f10bb2a2db625c887fef91823a58732aca8d9c0a", func := "sewershed/sewershedlaw33.PumpsAdd", spec := "pumpsAdd", inPlace := ["math/bits.Sub64", "math/bits.Add64"], unfollowed := true, recurses := true, named := ["math/bits.divideError", "math/bits.overflowError"], apart := false }
def PumpsAddSaid : Prop := pumpsAddRow.holds Try.pinned (OpenSpec.ofChange pumpsAddSpec)

/-- ITS FALSE NEIGHBOUR: 'it returns false'. Refute it at one input. -/
def pumpsAddWrong : ChangeSpec := { name := "pumpsAdd", fn := fun _ => fun
  | [d1, d2, d3, d4, d5] => { results := [.lit (.bool false)], args := [d1, d2, d3, d4, d5] }
  | _ => none }
def PumpsAddWrongFalsely : Prop := pumpsAddRow.holds Try.pinned (OpenSpec.ofChange pumpsAddWrong)

/-- 'sewershedlaw33.PumpsTurns': WHATEVER THE INPUT: true; the input reads as it did. -/
def pumpsTurnsSpec : ChangeSpec := { name := "pumpsTurns", fn := fun _ => fun
  | [d1, d2, d3] => { results := [.lit (.bool true)], args := [d1, d2, d3] }
  | _ => none }
def pumpsTurnsRow : OpenClaim := { program := "ytmpegbebjefkaaa", sum := "83cfe1a0547059633a17d178f10bb2a2db625c887fef91823a58732aca8d9c0a", func := "sewershed/sewershedlaw33.PumpsTurns", spec := "pumpsTurns", inPlace := ["math/bits.Sub64", "math/bits.Add64"], unfollowed := true, recurses := true, named := ["math/bits.divideError", "math/bits.overflowError"], apart := false }
def PumpsTurnsSaid : Prop := pumpsTurnsRow.holds Try.pinned (OpenSpec.ofChange pumpsTurnsSpec)

/-- ITS FALSE NEIGHBOUR: 'it returns false'. Refute it at one input. -/
def pumpsTurnsWrong : ChangeSpec := { name := "pumpsTurns", fn := fun _ => fun
  | [d1, d2, d3] => { results := [.lit (.bool false)], args := [d1, d2, d3] }
  | _ => none }
def PumpsTurnsWrongFalsely : Prop := pumpsTurnsRow.holds Try.pinned (OpenSpec.ofChange pumpsTurnsWrong)

/-- 'sewershedlaw33.PumpsFaster': WHATEVER THE INPUT: true; the input reads as it did. -/
def pumpsFasterSpec : ChangeSpec := { name := "pumpsFaster", fn := fun _ => fun
  | [d1, d2, d3, d4] => { results := [.lit (.bool true)], args := [d1, d2, d3, d4] }
  | _ => none }
def pumpsFasterRow : OpenClaim := { program := "ytmpegbebjefkaaa", sum := "83cfe1a0547059633a17d178f10bb2a2db625c887fef91823a58732aca8d9c0a", func := "sewershed/sewershedlaw33.PumpsFaster", spec := "pumpsFaster", inPlace := ["math/bits.Sub64", "math/bits.Add64"], unfollowed := true, recurses := true, named := ["math/bits.divideError", "math/bits.overflowError"], apart := false }
def PumpsFasterSaid : Prop := pumpsFasterRow.holds Try.pinned (OpenSpec.ofChange pumpsFasterSpec)

/-- ITS FALSE NEIGHBOUR: 'it returns false'. Refute it at one input. -/
def pumpsFasterWrong : ChangeSpec := { name := "pumpsFaster", fn := fun _ => fun
  | [d1, d2, d3, d4] => { results := [.lit (.bool false)], args := [d1, d2, d3, d4] }
  | _ => none }
def PumpsFasterWrongFalsely : Prop := pumpsFasterRow.holds Try.pinned (OpenSpec.ofChange pumpsFasterWrong)

/- THE SECOND FORM. 'bulk': how many values and letters a reading holds, each counted each time it is reached (what is shared counts as often as it is met; a slice's spare places count too). A statement '..UptoSaid' is the law's where the arguments, and the package variables that the reading takes, are together of bulk at most 1048576: NARROWER than '..Said'. Prove '..Said' where nothing that the law and all that it calls make is longer than what came in: it says more and counts as full. Else prove '..UptoSaid'. A law counts once. -/
mutual
def uptoBulk {H : Type} : DataW H → Nat
  | .lit (.string bytes) => bytes.length + 1
  | .lit _ => 1
  | .nil => 1
  | .ptr d => uptoBulk d + 1
  | .slice elems spare => uptoBulkAll elems + uptoBulkAll spare + 1
  | .agg parts => uptoBulkAll parts + 1
  | .iface _ d => uptoBulk d + 1
  | .map entries => uptoBulkEntries entries + 1
  | .held _ => 1
def uptoBulkAll {H : Type} : List (DataW H) → Nat
  | [] => 0
  | d :: r => uptoBulk d + uptoBulkAll r
def uptoBulkEntries {H : Type} : List (Lit × DataW H) → Nat
  | [] => 0
  | x :: r => uptoBulkEntry x + uptoBulkEntries r
def uptoBulkEntry {H : Type} : Lit × DataW H → Nat
  | (.string bytes, d) => bytes.length + uptoBulk d + 1
  | (_, d) => uptoBulk d + 1
 end
def uptoSmall : (H : Type) → List (DataW H) → Bool := fun _ ds => decide (uptoBulkAll ds ≤ 1048576)
def OpenSpec.upto (s : _root_.Go.ChangeSpec) : _root_.Go.OpenSpec := { _root_.Go.OpenSpec.ofChange s with cond := some uptoSmall }

/-- 'sewershedlaw33.PumpsStarts', WHERE WHAT IT READS IS OF BULK AT MOST 1048576: true; the input reads as it did. -/
def pumpsStartsUptoRow : OpenClaim := { program := "ytmpegbebjefkaaa", sum := "83cfe1a0547059633a17d178f10bb2a2db625c887fef91823a58732aca8d9c0a", func := "sewershed/sewershedlaw33.PumpsStarts", spec := "pumpsStarts", inPlace := ["math/bits.Sub64", "math/bits.Add64"], unfollowed := true, recurses := true, named := ["math/bits.divideError", "math/bits.overflowError"], apart := false, narrowed := true }
def PumpsStartsUptoSaid : Prop := pumpsStartsUptoRow.holds Try.pinned (OpenSpec.upto pumpsStartsSpec)

/-- 'sewershedlaw33.PumpsEnergies', WHERE WHAT IT READS IS OF BULK AT MOST 1048576: true; the input reads as it did. -/
def pumpsEnergiesUptoRow : OpenClaim := { program := "ytmpegbebjefkaaa", sum := "83cfe1a0547059633a17d178f10bb2a2db625c887fef91823a58732aca8d9c0a", func := "sewershed/sewershedlaw33.PumpsEnergies", spec := "pumpsEnergies", inPlace := ["math/bits.Sub64", "math/bits.Add64"], unfollowed := true, recurses := true, named := ["math/bits.divideError", "math/bits.overflowError"], apart := false, narrowed := true }
def PumpsEnergiesUptoSaid : Prop := pumpsEnergiesUptoRow.holds Try.pinned (OpenSpec.upto pumpsEnergiesSpec)

/-- 'sewershedlaw33.PumpsGrow', WHERE WHAT IT READS IS OF BULK AT MOST 1048576: true; the input reads as it did. -/
def pumpsGrowUptoRow : OpenClaim := { program := "ytmpegbebjefkaaa", sum := "83cfe1a0547059633a17d178f10bb2a2db625c887fef91823a58732aca8d9c0a", func := "sewershed/sewershedlaw33.PumpsGrow", spec := "pumpsGrow", inPlace := ["math/bits.Sub64", "math/bits.Add64"], unfollowed := true, recurses := true, named := ["math/bits.divideError", "math/bits.overflowError"], apart := false, narrowed := true }
def PumpsGrowUptoSaid : Prop := pumpsGrowUptoRow.holds Try.pinned (OpenSpec.upto pumpsGrowSpec)

/-- 'sewershedlaw33.PumpsAdd', WHERE WHAT IT READS IS OF BULK AT MOST 1048576: true; the input reads as it did. -/
def pumpsAddUptoRow : OpenClaim := { program := "ytmpegbebjefkaaa", sum := "83cfe1a0547059633a17d178f10bb2a2db625c887fef91823a58732aca8d9c0a", func := "sewershed/sewershedlaw33.PumpsAdd", spec := "pumpsAdd", inPlace := ["math/bits.Sub64", "math/bits.Add64"], unfollowed := true, recurses := true, named := ["math/bits.divideError", "math/bits.overflowError"], apart := false, narrowed := true }
def PumpsAddUptoSaid : Prop := pumpsAddUptoRow.holds Try.pinned (OpenSpec.upto pumpsAddSpec)

/-- 'sewershedlaw33.PumpsTurns', WHERE WHAT IT READS IS OF BULK AT MOST 1048576: true; the input reads as it did. -/
def pumpsTurnsUptoRow : OpenClaim := { program := "ytmpegbebjefkaaa", sum := "83cfe1a0547059633a17d178f10bb2a2db625c887fef91823a58732aca8d9c0a", func := "sewershed/sewershedlaw33.PumpsTurns", spec := "pumpsTurns", inPlace := ["math/bits.Sub64", "math/bits.Add64"], unfollowed := true, recurses := true, named := ["math/bits.divideError", "math/bits.overflowError"], apart := false, narrowed := true }
def PumpsTurnsUptoSaid : Prop := pumpsTurnsUptoRow.holds Try.pinned (OpenSpec.upto pumpsTurnsSpec)

/-- 'sewershedlaw33.PumpsFaster', WHERE WHAT IT READS IS OF BULK AT MOST 1048576: true; the input reads as it did. -/
def pumpsFasterUptoRow : OpenClaim := { program := "ytmpegbebjefkaaa", sum := "83cfe1a0547059633a17d178f10bb2a2db625c887fef91823a58732aca8d9c0a", func := "sewershed/sewershedlaw33.PumpsFaster", spec := "pumpsFaster", inPlace := ["math/bits.Sub64", "math/bits.Add64"], unfollowed := true, recurses := true, named := ["math/bits.divideError", "math/bits.overflowError"], apart := false, narrowed := true }
def PumpsFasterUptoSaid : Prop := pumpsFasterUptoRow.holds Try.pinned (OpenSpec.upto pumpsFasterSpec)

end Rows
end Go.Proofs.Ytmpegbebjefkaaa
