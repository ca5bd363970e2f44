/- The reference's calendar: Number. Conditions: a valid date. -/
import Derived.Test.YtbkihndidbmhoaaOv19
namespace Go.Proofs.Ytbkihndidbmhoaa
open Go.RowKit
set_option linter.unusedVariables false
set_option linter.unusedSimpArgs false

theorem bef_2000 : bef 2000 + 730119 = 730119 := by decide

set_option maxRecDepth 100000 in
set_option maxHeartbeats 2000000 in
theorem r5number_any (y m d : Int) (w : World) (y1 : 1 ≤ y) (y2 : y ≤ 9999) (m1 : 1 ≤ m) (m2 : m ≤ 12) (d1 : 1 ≤ d) (d2 : d ≤ 31) :
    Calls Try.prog 106 #[.agg #[.int .i64 y, .int .i64 m, .int .i64 d]] w fun e w' => e = .returned (.int .i64 (bef y + d - 1 + mcum y m)) ∧ Below w.heap.size w w' := by
  have hb := bef_bound y y1 (by omega)
  have H2 := Lib.hid bef_2000
  go_enter Try.func106, Try.ntmps106
  go_wp2_with fail
  have k1 : IntKind.i64.wrap (bef y + 730119 - (bef 2000 + 730119)) = bef y := by rw [H2.out, IntWalk.i64_in _ (by omega)]; omega
  have k2 : IntKind.i64.wrap (bef y + d) = bef y + d := IntWalk.i64_in _ (by omega)
  have k3 : IntKind.i64.wrap (bef y + d - 1) = bef y + d - 1 := IntWalk.i64_in _ (by omega)
  go_quiet ((go_at_call 107; exact Calls.quiet_of_same ((r5before_any _ _ (by omega) (by omega)).mono fun e w' ⟨h1, h2⟩ => ⟨h1, h2.symm⟩)))
  clear k1 k2 k3
  have hbw : Below w.heap.size w ((w.alloc (.cells #[.int .i64 y, .int .i64 m, .int .i64 d] 64)).drewN nq) := by repeat' (first | exact Below.refl _ _ | assumption | refine Below.more ?_ ?_ _ | refine Below.alloc ?_ ?_ _ | refine Below.drew ?_ | refine below_drewN ?_ _ | refine Below.setCell ?_ ?_ _ | exact Below.size (by assumption) | (simp [go_sem, size_more]; done) | (simp [go_sem, size_more]; omega))
  have c0 : ((w.alloc (.cells #[.int .i64 y, .int .i64 m, .int .i64 d] 64)).drewN nq).cell? ⟨w.heap.size, 0, none⟩ = some (.int .i64 y) := by simp [go_sem]
  have c1 : ((w.alloc (.cells #[.int .i64 y, .int .i64 m, .int .i64 d] 64)).drewN nq).cell? ⟨w.heap.size, 1, none⟩ = some (.int .i64 m) := by simp [go_sem]
  have hz : w.heap.size < ((w.alloc (.cells #[.int .i64 y, .int .i64 m, .int .i64 d] 64)).drewN nq).heap.size := by simp
  generalize (w.alloc (.cells #[.int .i64 y, .int .i64 m, .int .i64 d] 64)).drewN nq = W0 at *
  go_wp2_with fail
  go_loopw [3, 4] (fun s3 s4 wr => ∃ k : Int, 1 ≤ k ∧ k ≤ m ∧ s4 = .int .i64 k ∧ s3 = .int .i64 (bef y + d - 1 + mcum y k) ∧ Below W0.heap.size W0 wr) (fun _ s _ => (m - intOf s).toNat)
  case atStart => exact ⟨1, by omega, m1, rfl, by rw [mcum_1, Int.add_zero], Below.refl _ _⟩
  case round =>
    obtain ⟨k, q1, q2, rfl, rfl, hbr⟩ := hrel
    have e0 := (hbr.cell (p := ⟨w.heap.size, 0, none⟩) hz).trans c0
    have e1 := (hbr.cell (p := ⟨w.heap.size, 1, none⟩) hz).trans c1
    have hc := mcum_bound y k
    have hm := mlen_bound y k
    by_cases hlt : k < m
    · have hs := Lib.hid (mcum_succ y k q1 (by omega))
      go_wp2_with fail
      refine Calls.go hbr (r5days_any y k _ (by omega) q1 (by omega)) ?_
      rintro e w2 rfl _ hb2
      go_wp2_with fail
      go_roundw
      case measure => simp [intOf]; omega
      case rel => exact ⟨k + 1, by omega, by omega, rfl, by rw [hs.out, Int.add_assoc], hb2⟩
    · obtain rfl : k = m := by omega
      go_wp2_with fail
      go_ret
      exact ⟨rfl, hbw.trans (hbr.mono hbw.size)⟩

end Go.Proofs.Ytbkihndidbmhoaa
