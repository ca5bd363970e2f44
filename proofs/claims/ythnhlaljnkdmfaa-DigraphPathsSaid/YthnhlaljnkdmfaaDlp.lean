/- Rows of rows compared: slices.EqualFunc with slices.Equal. Conditions: both hold the same lists. -/
import Derived.Test.YthnhlaljnkdmfaaDlr
import Derived.Test.YthnhlaljnkdmfaaDrp
import Derived.Test.YthnhlaljnkdmfaaDrz
namespace Go.Proofs.Ythnhlaljnkdmfaa
open Go.RowKit
set_option linter.unusedVariables false
set_option linter.unusedSimpArgs false

set_option maxRecDepth 100000 in
set_option maxHeartbeats 2000000 in
theorem eqF_same (xss : List (List Nat)) (B1 B2 : Nat) (v1 v2 : Value) (us1 us2 : List Value) (w : World) (h1 : OwnR B1 25 3 eNat 1 w v1 us1 xss) (h2 : OwnR B2 25 3 eNat 1 w v2 us2 xss) (hl : xss.length ≤ 1000000) :
    Calls Try.prog 41 #[v1, v2, .func (.func 18) #[] #[]] w fun e w' => e = .returned (.bool true) ∧ Below w.heap.size w w' := by
  obtain ⟨a1, c1, rfl⟩ := h1.out.isSlice
  obtain ⟨a2, c2, rfl⟩ := h2.out.isSlice
  have hl1 : us1.length = xss.length := h1.len
  have hl2 : us2.length = xss.length := h2.len
  have H1 := Lib.hid h1
  have H2 := Lib.hid h2
  rw [hl1] at H1 ⊢
  rw [hl2] at H2 ⊢
  have HL1 := Lib.hid hl1
  have HL2 := Lib.hid hl2
  obtain ⟨L, hL⟩ : ∃ L, L = xss.length := ⟨_, rfl⟩
  rw [← hL] at H1 H2 ⊢ hl
  have HL := Lib.hid hL
  clear h1 h2 hl1 hl2 hL
  go_enter Try.func41, Try.ntmps41
  go_wp2_with fail
  go_loopw [17] (fun s17 wr => ∃ i : Nat, i ≤ L ∧ s17 = .int .i64 i ∧ Below w.heap.size w wr) (fun s17 _ => L - (intOf s17).toNat)
  case atStart => exact ⟨0, Nat.zero_le _, rfl, Below.refl _ _⟩
  case round =>
    obtain ⟨i, hi, rfl, hb⟩ := hrel
    by_cases hil : i < L
    · have hix : i < xss.length := by rw [← HL.out]; exact hil
      have hi1 : i < us1.length := by rw [HL1.out]; exact hix
      have hi2 : i < us2.length := by rw [HL2.out]; exact hix
      obtain ⟨g1, rfl, q1⟩ := (H1.out.below hb).rowAt i hi1
      obtain ⟨g2, rfl, q2⟩ := (H2.out.below hb).rowAt i hi2
      have r1 := ((H1.out.below hb).row i hi1 hix).isL (fun _ => rfl)
      have r2 := ((H2.out.below hb).row i hi2 hix).isL (fun _ => rfl)
      have x8 : IntKind.i64.wrap ((i : Int) + 1) = i + 1 := IntWalk.i64_in _ (by omega)
      have i1 : decide (i < L) = true := decide_eq_true hil
      generalize us1[i] = u1 at *
      generalize us2[i] = u2 at *
      go_wp2_with fail
      refine Calls.go hb (eqN_same _ _ _ _ r1 r2) ?_
      rintro e w5 rfl hb5 hbb5
      clear q1 q2 r1 r2
      go_wp2_with fail
      go_roundw
      case measure => simp [intOf]; omega
      case rel => exact ⟨i + 1, by omega, by go_num, hbb5⟩
    · obtain rfl : L = i := by omega
      have i1 : decide (L < L) = false := by simp
      go_wp2_with fail
      go_ret
      exact ⟨rfl, hb⟩

end Go.Proofs.Ythnhlaljnkdmfaa
