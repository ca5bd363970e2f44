/- Rows of parts in memory: what is read of them. Conditions: the part has a node. -/
import Derived.Test.YthnhlaljnkdmfaaGqr
import Derived.Test.YthnhlaljnkdmfaaDde
import Derived.Test.YthnhlaljnkdmfaaDcl
namespace Go.Proofs.Ythnhlaljnkdmfaa
open Go.RowKit
set_option linter.unusedVariables false
set_option linter.unusedSimpArgs false

theorem part_cells {base : Nat} {w : World} {rg n c : Nat} {us : List Value} {L : List (List Nat)} (h : OwnR base 25 3 eNat 1 w (.slice (some ⟨rg, 0, none⟩) n c) us L) {k : Nat} (hk : k < L.length) (hne : 0 < L[k].length) :
    ∃ ra rc, w.cell? ⟨rg, k, none⟩ = some (.slice (some ⟨ra, 0, none⟩) L[k].length rc) ∧ ∀ (i : Nat) (hi : i < L[k].length), w.cell? ⟨ra, i, none⟩ = some (.int .i64 ((L[k][i] : Nat) : Int)) := by
  have hk' : k < us.length := by rw [h.len]; exact hk
  have hrow := h.row k hk' hk
  obtain ⟨ra, rc, he, _⟩ := hrow.place hne
  have q := h.cellv k hk'
  rw [he] at q hrow
  refine ⟨ra, rc, q, fun i hi => ?_⟩
  have := Own.cellAt' (enc := eNat) (k := 1) (fun _ => rfl) hrow i 0 hi Nat.zero_lt_one
  simpa using this
theorem cntO_le (o : List Int) : cntO o ≤ o.length := List.countP_le_length

end Go.Proofs.Ythnhlaljnkdmfaa
