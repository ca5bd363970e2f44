/- The difference of two wide integers. Conditions: it is not negative. -/
import Derived.Test.YtoiakijmbghhlaaGreatWwe
import Derived.Test.YtoiakijmbghhlaaGreatMtl
namespace Go.Proofs.YtoiakijmbghhlaaGreat
open Go.RowKit
set_option linter.unusedVariables false
set_option linter.unusedSimpArgs false

theorem split64 (V : Nat) : ∃ A B, A * 18446744073709551616 + B = V ∧ B < 18446744073709551616 :=
  ⟨V / 18446744073709551616, V % 18446744073709551616, by rw [Nat.mul_comm]; exact Nat.div_add_mod V _, Nat.mod_lt _ (by decide)⟩

set_option maxRecDepth 100000 in
set_option maxHeartbeats 8000000 in
theorem wsub_any (h1 l1 h2 l2 h l : Nat) (w : World) (b1 : h1 < 576460752303423488) (b2 : h2 < 576460752303423488) (b3 : l1 < 1152921504606846976) (b4 : l2 < 1152921504606846976) (b5 : l < 1152921504606846976)
    (hv : h * 1152921504606846976 + l + (h2 * 1152921504606846976 + l2) = h1 * 1152921504606846976 + l1) :
    Calls Tryz.prog 247 #[vW h1 l1, vW h2 l2] w fun e w' => e = .returned (.tuple #[vW h l, .int .i64 0]) ∧ Below w.heap.size w w' := by
  obtain ⟨A, B, eA, lB⟩ := split64 (h1 * 1152921504606846976 + l1)
  obtain ⟨C, D, eC, lD⟩ := split64 (h2 * 1152921504606846976 + l2)
  obtain ⟨H, L, eH, lL⟩ := split64 (h * 1152921504606846976 + l)
  have lA : A < 36028797018963968 := by omega
  have lH : H < 36028797018963968 := by omega
  have hv1 := fun W => wvalue_any h1 l1 A B W b1 b3 eA.symm lB
  have hv2 := fun W => wvalue_any h2 l2 C D W b2 b4 eC.symm lD
  have ho1 := fun W => wvalid_any h1 l1 W (by omega) b3
  have ho2 := fun W => wvalid_any h2 l2 W (by omega) b4
  have hm := fun W => wminus_any C D W
  have hs := fun W => wsum_any A B C D H L W lA lB lD lL (by rw [eA, eC, eH]; exact hv)
  have hp := fun W => wplaced_any H L h l W lH lL eH.symm b5
  generalize nzB C D = z at *
  have hb0 : Below w.heap.size w (((w.alloc (.cells #[.int .i64 (h1 : Int), .int .i64 (l1 : Int)] 321)).alloc (.cells #[.int .i64 (h2 : Int), .int .i64 (l2 : Int)] 321)).alloc (.cells #[.int .i64 0, .int .i64 0] 321)) := by repeat' (first | exact Below.refl _ _ | assumption | refine Below.more ?_ ?_ _ | refine Below.alloc ?_ ?_ _ | refine Below.drew ?_ | refine below_drewN ?_ _ | refine Below.setCell ?_ ?_ _ | exact Below.size (by assumption) | (simp [go_sem, size_more]; done) | (simp [go_sem, size_more]; omega))
  have hX : Bi2 (((w.alloc (.cells #[.int .i64 (h1 : Int), .int .i64 (l1 : Int)] 321)).alloc (.cells #[.int .i64 (h2 : Int), .int .i64 (l2 : Int)] 321)).alloc (.cells #[.int .i64 0, .int .i64 0] 321)) w.heap.size h1 l1 := by
    refine ⟨?_, ?_, ?_, ?_⟩ <;> simp [go_sem]
  have hY : Bi2 (((w.alloc (.cells #[.int .i64 (h1 : Int), .int .i64 (l1 : Int)] 321)).alloc (.cells #[.int .i64 (h2 : Int), .int .i64 (l2 : Int)] 321)).alloc (.cells #[.int .i64 0, .int .i64 0] 321)) (w.heap.size + 1) h2 l2 := by
    refine ⟨?_, ?_, ?_, ?_⟩ <;> simp [go_sem]
  have hR : Bi2 (((w.alloc (.cells #[.int .i64 (h1 : Int), .int .i64 (l1 : Int)] 321)).alloc (.cells #[.int .i64 (h2 : Int), .int .i64 (l2 : Int)] 321)).alloc (.cells #[.int .i64 0, .int .i64 0] 321)) (w.heap.size + 1 + 1) 0 0 := by
    refine ⟨?_, ?_, ?_, ?_⟩ <;> simp [go_sem]
  clear eA eC eH lA lB lD lL lH hv
  go_enter Tryz.func247, Tryz.ntmps247
  go_wp2_with fail
  refine Calls.go hb0 (ho1 _) ?_
  rintro e w1 rfl hb1' hb1
  have hX := hX.mono hb1'
  have hY := hY.mono hb1'
  have hR := hR.mono hb1'
  obtain ⟨y0, y1, fy0, fy1⟩ := hY
  have hY : Bi2 w1 (w.heap.size + 1) h2 l2 := ⟨y0, y1, fy0, fy1⟩
  clear hb1' hb0
  go_wp2_with fail
  refine Calls.go hb1 (ho2 _) ?_
  rintro e w2 rfl hb2' hb2
  have hX := hX.mono hb2'
  have hY := hY.mono hb2'
  have hR := hR.mono hb2'
  clear hb2' hb1 y0 y1 fy0 fy1 ho1 ho2
  go_wp2_with fail
  generalize hwn : w.heap.size = n at *
  have HX := hX
  have HY := hY
  have HR := hR
  have hsz : n + 1 + 1 < w2.heap.size := hR.lt
  have hwn : Hid (w.heap.size = n) := hwn
  generalize w2 = W at *
  obtain ⟨x0, x1, fx0, fx1⟩ := hX
  obtain ⟨y0, y1, fy0, fy1⟩ := hY
  obtain ⟨r0, r1, fr0, fr1⟩ := hR
  clear fy0 fy1 fx0 fx1
  obtain ⟨x0, x1, fx0, fx1⟩ := HX
  obtain ⟨y0, y1, fy0, fy1⟩ := HY
  refine wp_region_more_tail 6 (by kernel_rfl) (by kernel_rfl) ?_
  simp only [List.take_succ_cons, List.take_zero]
  go_big_quiet_step (fail)
  go_big_quiet_step (first | (go_at_call 288; exact Calls.more_of (hv1 _)) )
  go_big_quiet_step (fail)
  go_big_quiet_step (first | (go_at_call 288; exact Calls.more_of (hv2 _)) )
  go_big_quiet_step (first | (go_at_call 289; exact Calls.more_of (hm _)) )
  go_big_quiet_step (first | (go_at_call 287; exact Calls.more_of (hs _)) )
  refine wpQuiet_nil ?_
  intro _ hwq
  obtain ⟨xq, hwq⟩ := hwq
  subst hwq
  refine wpAny_ready (rs := [6]) (by kernel_rfl) (by simp) ?_
  refine AllReady.cons rfl (fun K hK => ?_) AllReady.nil
  go_simp
  go_at_call 285
  refine (hp _).mono ?_
  rintro e5 v5 ⟨rfl, hw5⟩
  have k5 : Below W.heap.size W v5 := (below_more W xq).trans (hw5.mono (by rw [size_more]; omega))
  obtain ⟨r05, r15, fr05, fr15⟩ := HR.mono k5
  refine hK _ _ ?_
  clear hK K
  refine wpAny_take (i := 7) (v := ?_) rfl (by kernel_rfl) (by kernel_rfl) (by kernel_rfl) (fun _ _ _ h => h) (Or.inl ⟨by rfl, ?_⟩) ?_
  case refine_2 => (intro w; go_simp; try (with_reducible rfl))
  refine wpAny_take (i := 8) (v := ?_) rfl (by kernel_rfl) (by kernel_rfl) (by kernel_rfl) (fun _ _ _ h => h) (Or.inl ⟨by rfl, ?_⟩) ?_
  case refine_2 => (intro w; go_simp; try (with_reducible rfl))
  refine wpAny_ready (rs := [9]) (by kernel_rfl) (by simp) ?_
  refine AllReady.cons rfl (fun K hK => ?_) AllReady.nil
  go_simp
  refine hK _ _ ?_
  clear hK K
  refine wpAny_ready (rs := [10]) (by kernel_rfl) (by simp) ?_
  refine AllReady.cons rfl (fun K hK => ?_) AllReady.nil
  go_simp
  refine hK _ _ ?_
  clear hK K
  refine wpAny_done (by kernel_rfl) ?_ _
  have hbz : Below n w ((v5.setCell ⟨n + 1 + 1, 0, none⟩ (.int .i64 (h : Int))).setCell ⟨n + 1 + 1, 1, none⟩ (.int .i64 (l : Int))) := below_set2 (hb2.trans (Below.mono k5 (by omega))) (by omega) _ _
  clear hv1 hv2 hm hs hp
  go_wp2_with fail
  exact bodyPost_ret (v := .tuple #[vW h l, .int .i64 0]) (by simp (maxDischargeDepth := 9) [results, Tryz.results247, go_sem, r05, r15]) rfl ⟨rfl, (show w.heap.size = n from hwn) ▸ hbz⟩

end Go.Proofs.YtoiakijmbghhlaaGreat
