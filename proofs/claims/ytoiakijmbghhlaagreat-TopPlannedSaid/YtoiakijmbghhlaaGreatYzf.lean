/- sizing.Solve at one pipe. Conditions: the pipe lies in memory, its section is right. -/
import Derived.Test.YtoiakijmbghhlaaGreatYzd
namespace Go.Proofs.YtoiakijmbghhlaaGreat
open Go.RowKit
set_option linter.unusedVariables false
set_option linter.unusedSimpArgs false

set_option maxRecDepth 100000 in
set_option maxHeartbeats 8000000 in
theorem szsolve_one {a0 a1 a2 a3 a4 a5 : Nat} {s : SecD} (w : World) (h : Pip w a0 a1 a2 a3 a4 a5 s) (hs : catB [s] = true) (hB : secB s = true) (hH : s.Ht = 100) (hP : s.Pr = 3) :
    Calls Tryz.prog 39 #[vPip a0 a1 a2 a3 a4 a5] w fun e w' => (∃ a c, e = .returned (.tuple #[.int .i64 21, .slice a 1 c, .int .i64 0]) ∧ IsInts w' (.slice a 1 c) [0]) ∧ Below w.heap.size w w' := by
  have hb0 : Below w.heap.size w (w.alloc (.cells #[one a0, one a1, one a2, one a3, one a4, one a5] 105)) := (Below.refl _ _).alloc (Nat.le_refl _) _
  obtain ⟨b0, b1, b2, b3, b4, b5⟩ := boxPip w (w.alloc (.cells #[one a0, one a1, one a2, one a3, one a4, one a5] 105)) 105 a0 a1 a2 a3 a4 a5 _ rfl (Below.refl _ _)
  obtain ⟨W, hW⟩ : ∃ W, W = w.alloc (.cells #[one a0, one a1, one a2, one a3, one a4, one a5] 105) := ⟨_, rfl⟩
  have HW := Lib.hid hW
  rw [← hW] at hb0 b0 b1 b2 b3 b4 b5
  have HP := Lib.hid (h.mono hb0)
  have HF := Lib.hid (And.intro hB (And.intro hH hP))
  have hva := szvalid_one W HP.out hs
  clear hW h hs hB hH hP
  go_enter Tryz.func39, Tryz.ntmps39
  go_upto_region 1 with (fail)
  rw [← HW.out]
  clear HW
  go_wp2_with fail
  refine Calls.to hva ?_
  rintro e w1 rfl hb1
  have b0 := cel_lt b0 hb1
  have b1 := cel_lt b1 hb1
  have b2 := cel_lt b2 hb1
  have b3 := cel_lt b3 hb1
  have b4 := cel_lt b4 hb1
  have b5 := cel_lt b5 hb1
  have hbr := hb1
  clear hva hb1
  go_wp2_with fail
  refine Calls.to (sztree_one w1 (HP.out.mono hbr) HF.out.1 HF.out.2.1) ?_
  rintro e w2 ⟨g, rfl, hT⟩ hb2
  have hbr := hbr.trans (hb2.mono hbr.size)
  have b0 := cel_lt b0 hb2
  clear b1 b2 b3 b4 b5 hb2
  go_wp2_with fail
  refine Calls.to (szvalues_one w2 hT HF.out.2.2) ?_
  rintro e w3 ⟨o, b, c, rfl, ho, hv⟩ hb3
  have hbr := hbr.trans (hb3.mono hbr.size)
  have b0 := cel_lt b0 hb3
  have hT := hT.mono hb3
  clear hb3
  go_wp2_with fail
  refine (szbound_one o b c w3 hT ho hv (by rw [HF.out.2.1]; decide)).mono ?_
  rintro e w' ⟨rfl, rfl⟩
  have hle : W.heap.size ≤ w'.heap.size := hbr.size
  go_wp2_with (refine wpList_mk _ rfl _ _ 28 rfl w'.heap.size 3 _ 8 undInts infInt eInt 0 rfl rfl _ _ 1 rfl rfl rfl rfl (by decide) (by omega) (Nat.le_refl _) ?_; intro w4 hown4 hb4 hlt4)
  have hbr := hbr.trans (hb4.mono hbr.size)
  have hl := szleast_one b c 4194304 w4 (hT.mono hb4) (cel_lt hv hb4) (by rw [HF.out.2.1]; decide)
  have b0 := cel_lt b0 hb4
  have c0 := ((HP.out.mono hbr)).c0
  have ho := cel_lt ho hb4
  have hf4 := hown4.free 0
  have hc4 : w4.cell? ⟨w'.heap.size, 0, none⟩ = some (.int .i64 0) := by
    have := Own.cellAt' (enc := eInt) (fun _ => rfl) hown4 0 0 (by simp) (by simp)
    simpa using this
  have HO := Lib.hid hown4
  clear hown4 hb4 hT hv
  go_wp2_with fail
  refine wp_loop_rounds 2 ?_
  rw [rounds_succ]
  go_wp2_with fail
  refine hl.mono ?_
  rintro e w5 ⟨rfl, rfl⟩
  go_wp2_with fail
  rw [rounds_succ]
  go_wp2_with fail
  go_ret3
  have hst := Own.store (enc := eInt) (fun _ => rfl) HO.out 0 0 (by simp) (by simp) (.int .i64 0) 0 (by simp)
  have hL := hst.isL (fun _ => rfl)
  have hfin := hb0.trans (hbr.mono hb0.size)
  exact ⟨⟨_, _, rfl, hL⟩, hfin.setCell (by have := hb0.size; simp only; omega) _⟩

end Go.Proofs.YtoiakijmbghhlaaGreat
