/- States as arguments: how they read, IndexFunc and ContainsFunc at states. Conditions: none. -/
import Derived.Test.YtlcfnbnpkcjjlaaGreatRows
import Derived.BigRegion
import Derived.Test.YtlcfnbnpkcjjlaaGreatRead
namespace Go.Proofs.YtlcfnbnpkcjjlaaGreat
open Go.RowKit
set_option linter.unusedVariables false
set_option linter.unusedSimpArgs false

abbrev gI64 : World → Int → Prop := fun _ n => (Lit.int .i64 n).wf = true
abbrev eBool (b : Bool) : List Value := [.bool b]
abbrev gTrue {α : Type} : World → α → Prop := fun _ _ => True

theorem rdI : Rdr Tryz.prog 3 eInt 1 gI64 := rdInt (by kernel_rfl) (by kernel_rfl)
theorem rdInts : Rdr Tryz.prog 26 (fun s : Sl Int => [vSl s]) 1 (gSl eInt 1 gI64) := rdSlice rdI Nat.zero_lt_one (by kernel_rfl) (by kernel_rfl)
theorem rdBools : Rdr Tryz.prog 27 (fun s : Sl Bool => [vSl s]) 1 (gSl eBool 1 gTrue) := rdSlice (rdBool (t := 4) (by kernel_rfl) (by kernel_rfl)) Nat.zero_lt_one (by kernel_rfl) (by kernel_rfl)

structure St where
  V : Sl Int
  P : Sl Int
  S : Sl Int
  O : Sl Bool

abbrev eSt (s : St) : List Value := [vSl s.V, vSl s.P, vSl s.S, vSl s.O]
abbrev vSt (s : St) : Value := .agg #[vSl s.V, vSl s.P, vSl s.S, vSl s.O]
theorem eSt_len (s : St) : (eSt s).length = 4 := rfl
abbrev gInts : World → Sl Int → Prop := gSl eInt 1 gI64
def gSt (W : World) (s : St) : Prop := gInts W s.V ∧ gInts W s.P ∧ gInts W s.S ∧ gSl eBool 1 gTrue W s.O

theorem rdSt : Rdr Tryz.prog 29 eSt 4 gSt := by
  refine ⟨by kernel_rfl, fun _ => rfl, ?_, ?_⟩
  · intro H e W fuel cs x h
    obtain ⟨hl, hf⟩ := rd_fields (by kernel_rfl) h
    rw [show Tryz.prog.cellsOf 29 = 4 from by kernel_rfl] at hl
    obtain ⟨a0, e0, g0⟩ := hf 0 26 0 (by kernel_rfl) rdInts
    obtain ⟨a1, e1, g1⟩ := hf 1 26 1 (by kernel_rfl) rdInts
    obtain ⟨a2, e2, g2⟩ := hf 2 26 2 (by kernel_rfl) rdInts
    obtain ⟨a3, e3, g3⟩ := hf 3 27 3 (by kernel_rfl) rdBools
    have hj := cutAt_join cs [1, 1, 1, 1] 0 (by rw [hl]; rfl)
    simp only [cutAt, Nat.zero_add, Nat.reduceAdd] at hj
    rw [e0, e1, e2, e3] at hj
    exact ⟨⟨a0, a1, a2, a3⟩, by simpa using hj.symm, g0, g1, g2, g3⟩
  · intro W W' a ⟨h0, h1, h2, h3⟩ hb
    exact ⟨rdInts.mono h0 hb, rdInts.mono h1 hb, rdInts.mono h2 hb, rdBools.mono h3 hb⟩


end Go.Proofs.YtlcfnbnpkcjjlaaGreat
