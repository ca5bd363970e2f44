/- table.Floor. Conditions: the table reads as data. -/
import Derived.Test.YtoiakijmbghhlaaGreatTpi
import Derived.Test.YtoiakijmbghhlaaGreatMNam
namespace Go.Proofs.YtoiakijmbghhlaaGreat
open Go.RowKit
set_option linter.unusedVariables false
set_option linter.unusedSimpArgs false

set_option maxRecDepth 100000 in
set_option maxHeartbeats 1000000 in
theorem tfloor_any (xs : List Kn) (x : Int) (v : Value) (w : World) (hv : IsKns w v xs) (h : tabB xs = true) :
    Calls Tryz.prog 137 #[v, .int .i64 x] w fun e w' => e = .returned (.tuple #[.int .i64 (tabV xs x), .int .i64 0]) ∧ Below w.heap.size w w' := by
  have hp := fun W (hW : IsKns W v xs) => piece_any xs x v W hW h
  have hv0 := tvalid_any xs v w hv
  rw [h] at hv0
  have HV := Lib.hid hv
  obtain ⟨a, cap, rfl, _⟩ := hv
  clear h
  unfold tabV
  obtain ⟨⟨r1, r2, r3⟩, hr⟩ : ∃ r, tabP xs x = r := ⟨_, rfl⟩
  simp only [hr] at hp ⊢
  clear hr
  simp only [vP] at hp
  go_enter Tryz.func137, Tryz.ntmps137
  go_wp2_with fail
  refine Calls.to hv0 ?_
  rintro e w1 rfl hb1
  go_wp2_with fail
  refine Calls.go hb1 (hp _ (HV.out.mono hb1)) ?_
  rintro e w2 rfl _ hb2
  go_wp2_with fail
  go_ret2
  exact ⟨rfl, hb2⟩

set_option maxRecDepth 100000 in
set_option maxHeartbeats 1000000 in
theorem tfloor_bad (xs : List Kn) (x : Int) (v : Value) (w : World) (hv : IsKns w v xs) (h : tabB xs = false) :
    Calls Tryz.prog 137 #[v, .int .i64 x] w fun e w' => e = .returned (.tuple #[.int .i64 0, .int .i64 1]) ∧ Below w.heap.size w w' := by
  have hv0 := tvalid_any xs v w hv
  rw [h] at hv0
  obtain ⟨a, cap, rfl, _⟩ := hv
  clear h
  go_enter Tryz.func137, Tryz.ntmps137
  go_wp2_with fail
  refine Calls.to hv0 ?_
  rintro e w1 rfl hb1
  go_wp2_with fail
  go_ret2
  exact ⟨rfl, hb1⟩

end Go.Proofs.YtoiakijmbghhlaaGreat
