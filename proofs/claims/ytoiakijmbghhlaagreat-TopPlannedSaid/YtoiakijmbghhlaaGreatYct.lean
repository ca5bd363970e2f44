/- control.Run without steps at an empty network. Conditions: none. -/
import Derived.Test.YtoiakijmbghhlaaGreatMSa
import Derived.Test.YtoiakijmbghhlaaGreatMNb
namespace Go.Proofs.YtoiakijmbghhlaaGreat
open Go.RowKit
set_option linter.unusedVariables false
set_option linter.unusedSimpArgs false

theorem rvalid_nil (w : World) : Calls Tryz.prog 54 #[.slice none 0 0] w fun e w' => e = .returned (.bool true) ∧ Below w.heap.size w w' := by
  have hmm := @run_makeMap Tryz.prog
  go_enter Tryz.func54, Tryz.ntmps54
  go_wp2_with fail
  refine wp_loop_rounds 1 ?_
  rw [rounds_succ]
  go_wp2_with fail
  go_ret
  exact ⟨rfl, by repeat' (first | exact Below.refl _ _ | assumption | refine Below.more ?_ ?_ _ | refine Below.alloc ?_ ?_ _ | refine Below.drew ?_ | refine below_drewN ?_ _ | refine Below.setCell ?_ ?_ _ | exact Below.size (by assumption) | (simp [go_sem, size_more]; done) | (simp [go_sem, size_more]; omega))⟩
theorem cwrong_nil (w : World) : Calls Tryz.prog 55 #[.agg #[.slice none 0 0, .slice none 0 0], .slice none 0 0] w fun e w' => e = .returned (.int .i64 0) ∧ Below w.heap.size w w' := by
  have hmm := @run_makeMap Tryz.prog
  go_enter Tryz.func55, Tryz.ntmps55
  go_wp2_with fail
  refine wp_loop_rounds 1 ?_
  rw [rounds_succ]
  go_wp2_with fail
  go_ret
  exact ⟨rfl, by repeat' (first | exact Below.refl _ _ | assumption | refine Below.more ?_ ?_ _ | refine Below.alloc ?_ ?_ _ | refine Below.drew ?_ | refine below_drewN ?_ _ | refine Below.setCell ?_ ?_ _ | exact Below.size (by assumption) | (simp [go_sem, size_more]; done) | (simp [go_sem, size_more]; omega))⟩
abbrev nilNet : Net := ⟨⟨none, 0, []⟩, ⟨none, 0, []⟩⟩
abbrev nilSta : St := ⟨⟨none, 0, []⟩, ⟨none, 0, []⟩, ⟨none, 0, []⟩, ⟨none, 0, []⟩⟩
theorem nil_gSl {α : Type} (enc : α → List Value) (k : Nat) (g : World → α → Prop) (w : World) : gSl enc k g w ⟨none, 0, []⟩ :=
  ⟨Nat.le_refl _, (show (0 : Nat) ≤ 9223372036854775807 by decide), fun i h => absurd h (Nat.not_lt_zero _), fun x hx => by cases hx⟩
theorem nilNet_ok (w : World) : gNet w nilNet := ⟨nil_gSl _ _ _ _, nil_gSl _ _ _ _⟩
theorem nilSta_ok (w : World) : gSt w nilSta := ⟨nil_gSl _ _ _ _, nil_gSl _ _ _ _, nil_gSl _ _ _ _, nil_gSl _ _ _ _⟩
set_option maxRecDepth 100000 in
set_option maxHeartbeats 4000000 in
theorem run_nil (w : World) : Calls Tryz.prog 9 #[vNet nilNet, .slice none 0 0, .slice none 0 0, vSt nilSta, .slice none 0 0, .int .i64 60, .int .i64 0] w fun e w' => e = .returned (.tuple #[.slice none 0 0, .slice none 0 0, .int .i64 0]) ∧ Below w.heap.size w w' := by
  have hcv := fun W => catvalid_any [] (.slice none 0 0) W ⟨IsL.nil _ _ _, fun s hs => by cases hs⟩
  rw [show catB [] = true from rfl] at hcv
  have hsv := fun W => svalid_any nilNet nilSta W (nilNet_ok W) (nilSta_ok W)
  rw [show (netB nilNet && stB nilNet nilSta) = true from rfl] at hsv
  simp only [vNet, vSt, vSl, List.length_nil] at hsv ⊢
  obtain ⟨W, hW⟩ : ∃ W, W = (w.alloc (.cells #[.slice none 0 0, .slice none 0 0] 25)).alloc (.cells #[.slice none 0 0, .slice none 0 0, .slice none 0 0, .slice none 0 0] 31) := ⟨_, rfl⟩
  have HW := Lib.hid hW
  have hb0 : Below w.heap.size w W := by rw [hW]; exact ((Below.refl _ _).alloc (Nat.le_refl _) _).alloc (by simp) _
  have c0 : W.cell? ⟨w.heap.size, 0, none⟩ = some (.slice none 0 0) := by rw [hW]; simp [go_sem]
  have c1 : W.cell? ⟨w.heap.size, 1, none⟩ = some (.slice none 0 0) := by rw [hW]; simp [go_sem]
  have d0 : W.cell? ⟨w.heap.size + 1, 0, none⟩ = some (.slice none 0 0) := by rw [hW]; simp [go_sem]
  have d1 : W.cell? ⟨w.heap.size + 1, 1, none⟩ = some (.slice none 0 0) := by rw [hW]; simp [go_sem]
  have d2 : W.cell? ⟨w.heap.size + 1, 2, none⟩ = some (.slice none 0 0) := by rw [hW]; simp [go_sem]
  have d3 : W.cell? ⟨w.heap.size + 1, 3, none⟩ = some (.slice none 0 0) := by rw [hW]; simp [go_sem]
  clear hW
  go_enter Tryz.func9, Tryz.ntmps9
  go_upto_region 1 with (fail)
  rw [← HW.out]
  clear HW
  go_wp2_with fail
  refine Calls.to (hcv _) ?_
  rintro e w1 rfl hb1
  go_wp2_with fail
  refine Calls.to (rvalid_nil _) ?_
  rintro e w2 rfl hb2
  have hbr := hb1.trans (hb2.mono hb1.size)
  clear hb1 hb2 hcv
  have c0 := cel_lt c0 hbr
  have c1 := cel_lt c1 hbr
  have d0 := cel_lt d0 hbr
  have d1 := cel_lt d1 hbr
  have d2 := cel_lt d2 hbr
  have d3 := cel_lt d3 hbr
  go_wp2_with fail
  refine Calls.to (hsv _) ?_
  rintro e w3 rfl hb3
  have hbr := hbr.trans (hb3.mono hbr.size)
  have c0 := cel_lt c0 hb3
  have c1 := cel_lt c1 hb3
  clear hb3 hsv d0 d1 d2 d3
  go_wp2_with fail
  refine Calls.to (cwrong_nil _) ?_
  rintro e w4 rfl hb4
  have hbr := hbr.trans (hb4.mono hbr.size)
  clear hb4 c0 c1
  go_wp2_with fail
  refine wp_loop_rounds 1 ?_
  rw [rounds_succ]
  go_wp2_with fail
  go_ret3
  exact ⟨rfl, hb0.trans (hbr.mono hb0.size)⟩

end Go.Proofs.YtoiakijmbghhlaaGreat
