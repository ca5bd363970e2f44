/- Floors and ceilings of products over a divisor, the reference's side. Conditions: the numbers are not negative, the divisor is positive, the quotient is an int. -/
import Derived.Test.YtjgfgbiohbgcaaaGreatMwr
import Derived.Deep.RegionLaw
namespace Go.Proofs.YtjgfgbiohbgcaaaGreat
open Go.RowKit
set_option linter.unusedVariables false
set_option linter.unusedSimpArgs false

/-- A block of a number: two parts and a sign. -/
structure Bx3 (w : World) (B a b : Nat) (c : Bool) : Prop where
  c0 : w.cell? ⟨B, 0, none⟩ = some (.int .u64 (a : Int))
  c1 : w.cell? ⟨B, 1, none⟩ = some (.int .u64 (b : Int))
  c2 : w.cell? ⟨B, 2, none⟩ = some (.bool c)
  f0 : w.frozen? ⟨B, 0, none⟩ = false
  f1 : w.frozen? ⟨B, 1, none⟩ = false
  f2 : w.frozen? ⟨B, 2, none⟩ = false
theorem Bx3.lt {w : World} {B a b : Nat} {c : Bool} (h : Bx3 w B a b c) : B < w.heap.size := lt_of_isSome (a := ⟨B, 0, none⟩) (by rw [h.c0]; rfl)
theorem Bx3.mono {w w' : World} {B a b : Nat} {c : Bool} (h : Bx3 w B a b c) (hb : Below w.heap.size w w') : Bx3 w' B a b c :=
  ⟨(hb.cell (p := ⟨B, 0, none⟩) h.lt).trans h.c0, (hb.cell (p := ⟨B, 1, none⟩) h.lt).trans h.c1, (hb.cell (p := ⟨B, 2, none⟩) h.lt).trans h.c2, (hb.frozen (p := ⟨B, 0, none⟩) h.lt).trans h.f0, (hb.frozen (p := ⟨B, 1, none⟩) h.lt).trans h.f1, (hb.frozen (p := ⟨B, 2, none⟩) h.lt).trans h.f2⟩
theorem Bx3.new (w : World) (a b : Nat) (c : Bool) (T : TypeId) : Bx3 (w.alloc (.cells #[.int .u64 (a : Int), .int .u64 (b : Int), .bool c] T)) w.heap.size a b c := ⟨by simp [go_sem], by simp [go_sem], by simp [go_sem], by simp [go_sem], by simp [go_sem], by simp [go_sem]⟩

set_option maxHeartbeats 1000000 in
theorem r3times_any (a b : Nat) (w : World) (ha : a < 9223372036854775808) (hb : b < 9223372036854775808) :
    Calls Tryz.prog 95 #[.int .i64 (a : Int), .int .i64 (b : Int)] w fun e w' => e = .returned (vN (a * b / 18446744073709551616) (a * b % 18446744073709551616) false) ∧ Below w.heap.size w w' := by
  have u1 := decide_eq_false (show ¬ (a : Int) < 0 by omega)
  have u2 := decide_eq_false (show ¬ (b : Int) < 0 by omega)
  have hs1 := fun W => r3size_any a W ha
  have hs2 := fun W => r3size_any b W hb
  have hm := fun W => r3mul_any a b W (by omega) (by omega)
  generalize a * b / 18446744073709551616 = H at *
  generalize a * b % 18446744073709551616 = L at *
  have hmd := fun W => r3made_any H L false W
  have hx := Bx3.new w 0 0 false 116
  have hb0 : Below w.heap.size w (w.alloc (.cells #[.int .u64 0, .int .u64 0, .bool false] 116)) := (Below.refl _ _).alloc (Nat.le_refl _) _
  go_enter Tryz.func95, Tryz.ntmps95
  go_wp2_with fail
  refine (hs1 _).mono ?_
  rintro e w1 ⟨rfl, rfl⟩
  go_wp2_with fail
  refine (hs2 _).mono ?_
  rintro e w1 ⟨rfl, rfl⟩
  go_wp2_with fail
  refine Calls.to (hm _) ?_
  rintro e w1 rfl hb1
  have hx := hx.mono hb1
  have hbb := hb0.trans (hb1.mono hb0.size)
  clear hb1
  go_wp2_with fail
  refine Calls.go hbb (hmd _) ?_
  rintro e w2 rfl hb2' hb2
  have hx := hx.mono hb2'
  obtain ⟨c0, c1, c2, f0, f1, f2⟩ := hx
  clear hb2' hbb
  go_wp2_with fail
  exact bodyPost_ret (v := vN H L false) (by simp (maxDischargeDepth := 9) [results, Tryz.results95, go_sem, c0, c1, c2]) rfl ⟨rfl, by repeat' (first | exact Below.refl _ _ | assumption | refine Below.more ?_ ?_ _ | refine Below.alloc ?_ ?_ _ | refine Below.drew ?_ | refine below_drewN ?_ _ | refine Below.setCell ?_ ?_ _ | exact Below.size (by assumption) | (simp [go_sem, size_more]; done) | (simp [go_sem, size_more]; omega))⟩

set_option maxHeartbeats 1000000 in
theorem r3ofint_any (n : Nat) (w : World) (h : n < 9223372036854775808) : Calls Tryz.prog 96 #[.int .i64 (n : Int)] w fun e w' => e = .returned (vN 0 n false) ∧ Below w.heap.size w w' := by
  have u1 := decide_eq_false (show ¬ (n : Int) < 0 by omega)
  have hs1 := fun W => r3size_any n W h
  have hmd := fun W => r3made_any 0 n false W
  have hx := Bx3.new w 0 0 false 116
  have hb0 : Below w.heap.size w (w.alloc (.cells #[.int .u64 0, .int .u64 0, .bool false] 116)) := (Below.refl _ _).alloc (Nat.le_refl _) _
  go_enter Tryz.func96, Tryz.ntmps96
  go_wp2_with fail
  refine (hs1 _).mono ?_
  rintro e w1 ⟨rfl, rfl⟩
  go_wp2_with fail
  refine Calls.to (hmd _) ?_
  rintro e w1 rfl hb1
  have hx := hx.mono hb1
  have hbb := hb0.trans (hb1.mono hb0.size)
  obtain ⟨c0, c1, c2, f0, f1, f2⟩ := hx
  clear hb1
  go_wp2_with fail
  exact bodyPost_ret (v := vN 0 n false) (by simp (maxDischargeDepth := 9) [results, Tryz.results96, go_sem, c0, c1, c2]) rfl ⟨rfl, by repeat' (first | exact Below.refl _ _ | assumption | refine Below.more ?_ ?_ _ | refine Below.alloc ?_ ?_ _ | refine Below.drew ?_ | refine below_drewN ?_ _ | refine Below.setCell ?_ ?_ _ | exact Below.size (by assumption) | (simp [go_sem, size_more]; done) | (simp [go_sem, size_more]; omega))⟩

set_option maxHeartbeats 1000000 in
theorem r3isint_any (n : Nat) (w : World) (h : n < 9223372036854775808) : Calls Tryz.prog 93 #[vN 0 n false] w fun e w' => e = .returned (.tuple #[.int .i64 (n : Int), .bool true]) ∧ Below w.heap.size w w' := by
  have hb0 : Below w.heap.size w (w.alloc (.cells #[.int .u64 0, .int .u64 (n : Int), .bool false] 116)) := (Below.refl _ _).alloc (Nat.le_refl _) _
  have u1 := decide_eq_true (show (n : Int) < 9223372036854775808 by omega)
  have u1' := decide_eq_true h
  have x1 : IntKind.i64.wrap (n : Int) = (n : Int) := IntWalk.i64_in _ (by omega)
  go_enter Tryz.func93, Tryz.ntmps93
  go_wp2_with fail
  go_quiet (fail)
  go_wp2_with fail
  go_ret2
  exact ⟨rfl, by repeat' (first | exact Below.refl _ _ | assumption | refine Below.more ?_ ?_ _ | refine Below.alloc ?_ ?_ _ | refine Below.drew ?_ | refine below_drewN ?_ _ | refine Below.setCell ?_ ?_ _ | exact Below.size (by assumption) | (simp [go_sem, size_more]; done) | (simp [go_sem, size_more]; omega))⟩


theorem nzB_val (H L : Nat) : nzB H L = !decide (H * 18446744073709551616 + L = 0) := by
  unfold nzB
  by_cases h1 : H = 0 <;> by_cases h2 : L = 0
  all_goals first | (simp [h1, h2]; done) | (simp [h1, h2]; omega)

set_option maxRecDepth 100000 in
set_option maxHeartbeats 4000000 in
theorem r3down_any (H L D : Nat) (s : Bool) (w : World) (hH : H < 9223372036854775808) (hL : L < 18446744073709551616) (hD : 0 < D) (hD2 : D ≤ 9223372036854775808) :
    Calls Tryz.prog 94 #[vN H L s, vN 0 D false] w fun e w' => (∃ qH qL : Nat, e = .returned (vN qH qL (s && nzB qH qL)) ∧ qL < 18446744073709551616 ∧
      qH * 18446744073709551616 + qL = (H * 18446744073709551616 + L) / D + (if s = true ∧ ¬ (H * 18446744073709551616 + L) % D = 0 then 1 else 0)) ∧ Below w.heap.size w w' := by
  obtain ⟨T, HT⟩ : ∃ T, Hid ((H * 18446744073709551616 + L) / D + (if s = true ∧ ¬ (H * 18446744073709551616 + L) % D = 0 then 1 else 0) = T) := ⟨_, rfl⟩
  rw [HT.out]
  have hdv := fun W => r3div_any H L D W (by omega) hL hD hD2
  have hb0 : Below w.heap.size w (((w.alloc (.cells #[.int .u64 (H : Int), .int .u64 (L : Int), .bool s] 116)).alloc (.cells #[.int .u64 0, .int .u64 (D : Int), .bool false] 116)).alloc (.cells #[.int .u64 0, .int .u64 0, .bool false] 116)) := by repeat' (first | exact Below.refl _ _ | assumption | refine Below.more ?_ ?_ _ | refine Below.alloc ?_ ?_ _ | refine Below.drew ?_ | refine below_drewN ?_ _ | refine Below.setCell ?_ ?_ _ | exact Below.size (by assumption) | (simp [go_sem, size_more]; done) | (simp [go_sem, size_more]; omega))
  have hA : Bx3 (((w.alloc (.cells #[.int .u64 (H : Int), .int .u64 (L : Int), .bool s] 116)).alloc (.cells #[.int .u64 0, .int .u64 (D : Int), .bool false] 116)).alloc (.cells #[.int .u64 0, .int .u64 0, .bool false] 116)) w.heap.size H L s := by
    refine ⟨?_, ?_, ?_, ?_, ?_, ?_⟩ <;> simp [go_sem]
  have hB : Bx3 (((w.alloc (.cells #[.int .u64 (H : Int), .int .u64 (L : Int), .bool s] 116)).alloc (.cells #[.int .u64 0, .int .u64 (D : Int), .bool false] 116)).alloc (.cells #[.int .u64 0, .int .u64 0, .bool false] 116)) (w.heap.size + 1) 0 D false := by
    refine ⟨?_, ?_, ?_, ?_, ?_, ?_⟩ <;> simp [go_sem]
  have hR : Bx3 (((w.alloc (.cells #[.int .u64 (H : Int), .int .u64 (L : Int), .bool s] 116)).alloc (.cells #[.int .u64 0, .int .u64 (D : Int), .bool false] 116)).alloc (.cells #[.int .u64 0, .int .u64 0, .bool false] 116)) (w.heap.size + 1 + 1) 0 0 false := by
    refine ⟨?_, ?_, ?_, ?_, ?_, ?_⟩ <;> simp [go_sem]
  cases s
  · go_enter Tryz.func94, Tryz.ntmps94
    go_wp2_with fail
    refine Calls.to (hdv _) ?_
    rintro e w1 ⟨qH, qL, rL, rfl, hqL, hq, hr⟩ hb1
    have hA := hA.mono hb1
    have hB := hB.mono hb1
    have hR := hR.mono hb1
    have hbb := hb0.trans (hb1.mono hb0.size)
    have hwz : w.heap.size + 1 + 1 < w1.heap.size := hR.lt
    obtain ⟨a0, a1, a2, fa0, fa1, fa2⟩ := hA
    obtain ⟨b0, b1, b2, fb0, fb1, fb2⟩ := hB
    have HQ := Lib.hid hq
    have HR2 := Lib.hid hr
    clear hb1 hq hr hdv
    have hmd := fun W => r3made_any qH qL false W
    rw [Bool.false_and] at hmd
    go_wp2_with fail
    obtain ⟨rz, hrz⟩ : ∃ z, z = rL := ⟨_, rfl⟩
    subst hrz
    have hbA : Below w1.heap.size w1 ((w1.alloc (.cells #[.int .u64 (qH : Int), .int .u64 (qL : Int)] 114)).alloc (.cells #[.int .u64 0, .int .u64 (rz : Int)] 114)) := ((Below.refl _ _).alloc (Nat.le_refl _) _).alloc (by simp) _
    refine Calls.mono (hmd _) ?_
    rintro e w2 ⟨rfl, hb2⟩
    have hR2 := (hR.mono hbA).mono hb2
    have hbb2 := (hbb.trans (hbA.mono hbb.size)).trans (hb2.mono (Nat.le_trans hbb.size hbA.size))
    obtain ⟨c0, c1, c2, f0, f1, f2⟩ := hR2
    clear hb2 hbA hbb fa0 fa1 fa2 fb0 fb1 fb2 a0 a1 a2 b0 b1 b2
    go_wp2_with fail
    exact bodyPost_ret (v := vN qH qL false) (by simp (maxDischargeDepth := 9) [results, Tryz.results94, go_sem, c0, c1, c2]) rfl ⟨⟨qH, qL, by simp, hqL, by rw [← HT.out, HQ.out]; simp⟩, by repeat' (first | exact Below.refl _ _ | assumption | refine Below.more ?_ ?_ _ | refine Below.alloc ?_ ?_ _ | refine Below.drew ?_ | refine below_drewN ?_ _ | refine Below.setCell ?_ ?_ _ | exact Below.size (by assumption) | (simp [go_sem, size_more]; done) | (simp [go_sem, size_more]; omega))⟩
  · go_enter Tryz.func94, Tryz.ntmps94
    go_wp2_with fail
    refine Calls.to (hdv _) ?_
    rintro e w1 ⟨qH, qL, rL, rfl, hqL, hq, hr⟩ hb1
    have hA := hA.mono hb1
    have hB := hB.mono hb1
    have hR := hR.mono hb1
    have hbb := hb0.trans (hb1.mono hb0.size)
    have hwz : w.heap.size + 1 + 1 < w1.heap.size := hR.lt
    obtain ⟨a0, a1, a2, fa0, fa1, fa2⟩ := hA
    obtain ⟨b0, b1, b2, fb0, fb1, fb2⟩ := hB
    have HQ := Lib.hid hq
    have HR2 := Lib.hid hr
    clear hb1 hq hr hdv
    have hqb : qH * 18446744073709551616 + qL ≤ H * 18446744073709551616 + L := by rw [HQ.out]; exact Nat.div_le_self _ _
    by_cases hz : rL = 0
    · subst hz
      have hmd := fun W => r3made_any qH qL true W
      obtain ⟨nz, hnz⟩ : ∃ z, Hid (nzB qH qL = z) := ⟨_, rfl⟩
      rw [hnz.out] at hmd
      rw [Bool.true_and] at hmd
      clear hqb
      go_wp2_with fail
      obtain ⟨rz, hrz⟩ : ∃ z : Nat, z = 0 := ⟨_, rfl⟩
      have hbA : Below w1.heap.size w1 ((w1.alloc (.cells #[.int .u64 (qH : Int), .int .u64 (qL : Int)] 114)).alloc (.cells #[.int .u64 0, .int .u64 0] 114)) := ((Below.refl _ _).alloc (Nat.le_refl _) _).alloc (by simp) _
      refine Calls.mono (hmd _) ?_
      rintro e w2 ⟨rfl, hb2⟩
      have hR2 := (hR.mono hbA).mono hb2
      have hbb2 := (hbb.trans (hbA.mono hbb.size)).trans (hb2.mono (Nat.le_trans hbb.size hbA.size))
      obtain ⟨c0, c1, c2, f0, f1, f2⟩ := hR2
      clear hb2 hbA hbb fa0 fa1 fa2 fb0 fb1 fb2 a0 a1 a2 b0 b1 b2
      go_wp2_with fail
      exact bodyPost_ret (v := vN qH qL nz) (by simp (maxDischargeDepth := 9) [results, Tryz.results94, go_sem, c0, c1, c2]) rfl ⟨⟨qH, qL, by simp [hnz.out], hqL, by rw [← HT.out, HQ.out]; simp [← HR2.out]⟩, by repeat' (first | exact Below.refl _ _ | assumption | refine Below.more ?_ ?_ _ | refine Below.alloc ?_ ?_ _ | refine Below.drew ?_ | refine below_drewN ?_ _ | refine Below.setCell ?_ ?_ _ | exact Below.size (by assumption) | (simp [go_sem, size_more]; done) | (simp [go_sem, size_more]; omega))⟩
    · obtain ⟨pH, hpH⟩ : ∃ z, (qH * 18446744073709551616 + qL + 1) / 18446744073709551616 = z := ⟨_, rfl⟩
      obtain ⟨pL, hpL⟩ : ∃ z, (qH * 18446744073709551616 + qL + 1) % 18446744073709551616 = z := ⟨_, rfl⟩
      have hpl := fun W => r3plus_any qH qL 0 1 pH pL W (by omega) hqL (by omega) (by omega) (by omega) (by omega) (by omega)
      have HP : Hid (pH * 18446744073709551616 + pL = qH * 18446744073709551616 + qL + 1 ∧ pL < 18446744073709551616) := ⟨by omega, by omega⟩
      have hmd := fun W => r3made_any pH pL true W
      obtain ⟨nz, hnz⟩ : ∃ z, Hid (nzB pH pL = z) := ⟨_, rfl⟩
      rw [hnz.out] at hmd
      rw [Bool.true_and] at hmd
      clear hpH hpL hqb
      go_wp2_with fail
      have hbA : Below w1.heap.size w1 ((w1.alloc (.cells #[.int .u64 (qH : Int), .int .u64 (qL : Int)] 114)).alloc (.cells #[.int .u64 0, .int .u64 (rL : Int)] 114)) := ((Below.refl _ _).alloc (Nat.le_refl _) _).alloc (by simp) _
      refine Calls.mono (hpl _) ?_
      rintro e w2 ⟨rfl, hb2⟩
      have hQ2 : Bx2 w2 w1.heap.size qH qL := Bx2.mono (w := (w1.alloc (.cells #[.int .u64 (qH : Int), .int .u64 (qL : Int)] 114)).alloc (.cells #[.int .u64 0, .int .u64 (rL : Int)] 114)) ⟨by simp [go_sem], by simp [go_sem], by simp [go_sem], by simp [go_sem]⟩ hb2
      have hb12 := hbA.trans (hb2.mono hbA.size)
      have hR2 := hR.mono hb12
      have hQ3 := hQ2.set pH pL
      have hb3 := below_set2 (C := w1.heap.size) hb12 (Nat.le_refl _) (.int .u64 (pH : Int)) (.int .u64 (pL : Int))
      have hR3 := hR.mono hb3
      have hbb3 := hbb.trans (hb3.mono hbb.size)
      obtain ⟨x0, x1, fx0, fx1⟩ := hQ2
      obtain ⟨y0, y1, fy0, fy1⟩ := hQ3
      clear hpl hb2 hbA hb12 hb3 hbb hR hR2 fa0 fa1 fa2 fb0 fb1 fb2 a0 a1 a2 b0 b1 b2
      go_wp2_with fail
      refine Calls.mono (hmd _) ?_
      rintro e w4 ⟨rfl, hb4⟩
      have hR4 := hR3.mono hb4
      have hbb4 := hbb3.trans (hb4.mono hbb3.size)
      obtain ⟨c0, c1, c2, f0, f1, f2⟩ := hR4
      clear hb4 x0 x1 fx0 fx1 y0 y1 fy0 fy1 hbb3
      go_wp2_with fail
      exact bodyPost_ret (v := vN pH pL nz) (by simp (maxDischargeDepth := 9) [results, Tryz.results94, go_sem, c0, c1, c2]) rfl ⟨⟨pH, pL, by simp [hnz.out], HP.out.2, by rw [← HT.out, HP.out.1, HQ.out, if_pos ⟨by simp, by rw [← HR2.out]; exact hz⟩]⟩, by repeat' (first | exact Below.refl _ _ | assumption | refine Below.more ?_ ?_ _ | refine Below.alloc ?_ ?_ _ | refine Below.drew ?_ | refine below_drewN ?_ _ | refine Below.setCell ?_ ?_ _ | exact Below.size (by assumption) | (simp [go_sem, size_more]; done) | (simp [go_sem, size_more]; omega))⟩


set_option maxRecDepth 100000 in
set_option maxHeartbeats 2000000 in
theorem r3floor_any (a b d : Nat) (w : World) (ha : a < 9223372036854775808) (hb : b < 9223372036854775808) (hd : 0 < d) (hd2 : d < 9223372036854775808) (hq : a * b / d < 9223372036854775808) :
    Calls Tryz.prog 75 #[.int .i64 (a : Int), .int .i64 (b : Int), .int .i64 (d : Int)] w fun e w' => e = .returned (.int .i64 ((a * b / d : Nat) : Int)) ∧ Below w.heap.size w w' := by
  have ht := fun W => r3times_any a b W ha hb
  have ho := fun W => r3ofint_any d W hd2
  have hab : a * b ≤ 9223372036854775807 * 9223372036854775807 := Nat.mul_le_mul (by omega) (by omega)
  obtain ⟨V, hV⟩ : ∃ V, a * b = V := ⟨_, rfl⟩
  rw [hV] at ht hab hq ⊢
  obtain ⟨H, hH⟩ : ∃ H, V / 18446744073709551616 = H := ⟨_, rfl⟩
  obtain ⟨L, hL⟩ : ∃ L, V % 18446744073709551616 = L := ⟨_, rfl⟩
  rw [hH, hL] at ht
  have hVe : H * 18446744073709551616 + L = V := by omega
  have hdn := fun W => r3down_any H L d false W (by omega) (by omega) hd (by omega)
  rw [hVe] at hdn
  obtain ⟨q, hqe⟩ : ∃ q, V / d = q := ⟨_, rfl⟩
  rw [hqe] at hdn hq ⊢
  have hi := fun W => r3isint_any q W hq
  clear hV hH hL hVe hab hqe
  go_enter Tryz.func75, Tryz.ntmps75
  go_wp2_with fail
  refine Calls.to (ht _) ?_
  rintro e w1 rfl hb1
  go_wp2_with fail
  refine Calls.go hb1 (ho _) ?_
  rintro e w2 rfl _ hb2
  go_wp2_with fail
  refine Calls.go hb2 (hdn _) ?_
  rintro e w3 ⟨qH, qL, rfl, h1, h2⟩ _ hb3
  obtain rfl : qH = 0 := by simp at h2; omega
  obtain rfl : qL = q := by simp at h2; exact h2
  simp only [Bool.false_and]
  clear h1 h2
  go_wp2_with fail
  refine Calls.go hb3 (hi _) ?_
  rintro e w4 rfl _ hb4
  go_wp2_with fail
  go_ret
  exact ⟨rfl, hb4⟩

theorem ceil_val {V D q : Nat} (hD : 0 < D) {b : Bool} (hb : b = !decide (V = 0)) (h : q = V / D + if b = true ∧ ¬ V % D = 0 then 1 else 0) : q = (V + D - 1) / D ∧ (b = false → q = 0) := by
  have hV := Nat.div_add_mod V D
  have hm := Nat.mod_lt V hD
  constructor
  · by_cases h0 : V % D = 0
    · have e : V + D - 1 = D * (V / D) + (D - 1) := by omega
      rw [h, e, Nat.mul_add_div hD, Nat.div_eq_of_lt (show D - 1 < D by omega)]
      simp [h0]
    · have hv0 : ¬ V = 0 := by rintro rfl; simp at h0
      have e : V + D - 1 = D * (V / D + 1) + (V % D - 1) := by rw [Nat.mul_add, Nat.mul_one]; omega
      rw [h, e, Nat.mul_add_div hD, Nat.div_eq_of_lt (show V % D - 1 < D by omega), if_pos ⟨by rw [hb]; simp [hv0], h0⟩]
  · rintro rfl
    have hv0 : V = 0 := by simpa using hb
    subst hv0
    simpa using h

end Go.Proofs.YtjgfgbiohbgcaaaGreat
