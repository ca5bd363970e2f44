/- Events as arguments: how they read. Conditions: none. -/
import Derived.Test.YtbkihndidbmhoaaSta
namespace Go.Proofs.Ytbkihndidbmhoaa
open Go.RowKit
set_option linter.unusedVariables false
set_option linter.unusedSimpArgs false

def gEv (W : World) (e : Ev) : Prop := gI64 W e.From ∧ gI64 W e.To ∧ gI64 W e.Total ∧ gI64 W e.Peak
theorem rdEv : Rdr Try.prog 33 eEv 4 gEv := by
  refine ⟨by kernel_rfl, fun _ => rfl, ?_, ?_⟩
  · intro H e W fuel cs x h
    obtain ⟨hl, hf⟩ := rd_fields (by kernel_rfl) h
    rw [show Try.prog.cellsOf 33 = 4 from by kernel_rfl] at hl
    obtain ⟨a0, e0, g0⟩ := hf 0 3 0 (by kernel_rfl) rdI
    obtain ⟨a1, e1, g1⟩ := hf 1 3 1 (by kernel_rfl) rdI
    obtain ⟨a2, e2, g2⟩ := hf 2 3 2 (by kernel_rfl) rdI
    obtain ⟨a3, e3, g3⟩ := hf 3 3 3 (by kernel_rfl) rdI
    have hj := cutAt_join cs [1, 1, 1, 1] 0 (by rw [hl]; rfl)
    simp only [cutAt, Nat.zero_add, Nat.reduceAdd] at hj
    rw [e0, e1, e2, e3] at hj
    exact ⟨⟨a0, a1, a2, a3⟩, by simpa using hj.symm, g0, g1, g2, g3⟩
  · intro W W' a h hb
    exact h

set_option maxRecDepth 100000 in
theorem openEvs {H : Type} {en : TypeId × Value → H} {W : World} {v : Value} {d : DataW H} {ps : List MemPlace} {r : Reach} {b0 : Nat} (hv : Value.okWide Try.prog W r b0 25 v) (h : DataW.Trod en Try.prog W 0 (fun _ => true) true 25 v d ps) :
    ∃ s : Sl Ev, v = vSl s ∧ gSl eEv 4 gEv W s := arg_slice rdEv (by decide) (by kernel_rfl) (by kernel_rfl) hv h

end Go.Proofs.Ytbkihndidbmhoaa
