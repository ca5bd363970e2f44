/- Mul of fractions that are reduced and not negative. Conditions: the products in range. -/
import Derived.Test.YtdlaghjijfgncaaEvfr
namespace Go.Proofs.Ytdlaghjijfgncaa
open Go.RowKit
set_option linter.unusedVariables false
set_option linter.unusedSimpArgs false

theorem ent52 : ∀ args w, (callFunc 52 args).run Try.prog w = .ok (.enter 52 args) w := by
  intro args w
  simp [go_sem]

set_option maxHeartbeats 1000000 in
theorem mul1_any (a d b e B C : Nat) (w : World) (k0 : w.cell? ⟨B, 0, none⟩ = some (.int .i64 a)) (k1 : w.cell? ⟨B, 1, none⟩ = some (.int .i64 d)) (l0 : w.cell? ⟨C, 0, none⟩ = some (.int .i64 b)) (l1 : w.cell? ⟨C, 1, none⟩ = some (.int .i64 e))
    (h1 : a * b ≤ 1073741824) (h2 : d * e ≤ 1073741824) :
    Calls Try.prog 52 #[.pointer (some ⟨B, 0, none⟩), .pointer (some ⟨C, 0, none⟩)] w fun r w' => r = .returned (.tuple #[.int .i64 ((a * b : Nat) : Int), .int .i64 ((d * e : Nat) : Int)]) ∧ Below w.heap.size w w' := by
  have c1 : (a : Int) * (b : Int) = ((a * b : Nat) : Int) := by rw [Int.natCast_mul]
  have c2 : (d : Int) * (e : Int) = ((d * e : Nat) : Int) := by rw [Int.natCast_mul]
  have x1 : IntKind.i64.wrap ((a : Int) * (b : Int)) = ((a * b : Nat) : Int) := by rw [c1]; exact IntWalk.i64_in _ (by omega)
  have x2 : IntKind.i64.wrap ((d : Int) * (e : Int)) = ((d * e : Nat) : Int) := by rw [c2]; exact IntWalk.i64_in _ (by omega)
  clear c1 c2
  generalize a * b = X at *
  generalize d * e = Y at *
  go_enter Try.func52, Try.ntmps52
  go_wp2_with fail
  go_quiet (fail)
  go_wp2_with fail
  go_ret2
  exact ⟨rfl, below_drewN (Below.refl _ _) _⟩

set_option maxRecDepth 100000 in
set_option maxHeartbeats 4000000 in
theorem both_any (a d b e B C : Nat) (w : World) (ha : a ≤ 1073741824) (hd1 : 1 ≤ d) (hd2 : d ≤ 1073741824) (hg : Nat.gcd a d = 1) (hb : b ≤ 1073741824) (he1 : 1 ≤ e) (he2 : e ≤ 1073741824) (hg2 : Nat.gcd b e = 1)
    (k0 : w.cell? ⟨B, 0, none⟩ = some (.int .i64 a)) (k1 : w.cell? ⟨B, 1, none⟩ = some (.int .i64 d)) (l0 : w.cell? ⟨C, 0, none⟩ = some (.int .i64 b)) (l1 : w.cell? ⟨C, 1, none⟩ = some (.int .i64 e))
    (h1 : a * b ≤ 1073741824) (h2 : d * e ≤ 1073741824) :
    Calls Try.prog 51 #[vFr a d, vFr b e, .func (.func 52) #[] #[.pointer (some ⟨B, 0, none⟩), .pointer (some ⟨C, 0, none⟩)]] w fun r w' => MakeIs (a * b) (d * e) r ∧ Below w.heap.size w w' := by
  have hb0 : Below w.heap.size w (((w.alloc (.cells #[.int .i64 a, .int .i64 d] 40)).alloc (.cells #[.int .i64 b, .int .i64 e] 40)).alloc (.cells #[.int .i64 0, .int .i64 0] 40)) := (((Below.refl _ _).alloc (Nat.le_refl _) _).alloc (by simp) _).alloc (by simp; omega) _
  have hv1 := fun W => frValid_any a d W ha hd1 hd2 hg
  have hv2 := fun W => frValid_any b e W hb he1 he2 hg2
  have hm1 := fun W k0 k1 l0 l1 => mul1_any a d b e B C W k0 k1 l0 l1 h1 h2
  have hde : 1 ≤ d * e := Nat.mul_pos hd1 he1
  have hmk := fun W => make_any (a * b) (d * e) W h1 hde h2
  have K0 := Lib.hid k0
  have K1 := Lib.hid k1
  have L0 := Lib.hid l0
  have L1 := Lib.hid l1
  clear k0 k1 l0 l1 hg hg2
  unfold MakeIs at hmk ⊢
  generalize a * b = X at *
  generalize d * e = Y at *
  generalize ((X / Nat.gcd X Y : Nat) : Int) = N at *
  generalize ((Y / Nat.gcd X Y : Nat) : Int) = D at *
  go_enter Try.func51, Try.ntmps51
  go_wp2_with fail
  refine Calls.to (hv1 _) ?_
  rintro r w1 rfl hb1
  have hbb := hb0.trans (hb1.mono hb0.size)
  have m0 : w1.cell? ⟨w.heap.size + 1, 0, none⟩ = some (.int .i64 b) := (hb1.cell (p := ⟨w.heap.size + 1, 0, none⟩) (by simp)).trans (by simp [go_sem])
  have m1 : w1.cell? ⟨w.heap.size + 1, 1, none⟩ = some (.int .i64 e) := (hb1.cell (p := ⟨w.heap.size + 1, 1, none⟩) (by simp)).trans (by simp [go_sem])
  have hz : w.heap.size + 2 < w1.heap.size := by have := hb1.size; simp at this; omega
  have c0 : w1.cell? ⟨w.heap.size + 2, 0, none⟩ = some (.int .i64 0) := (hb1.cell (p := ⟨w.heap.size + 2, 0, none⟩) (by simp)).trans (by simp [go_sem])
  have c1 : w1.cell? ⟨w.heap.size + 2, 1, none⟩ = some (.int .i64 0) := (hb1.cell (p := ⟨w.heap.size + 2, 1, none⟩) (by simp)).trans (by simp [go_sem])
  have f0 : w1.frozen? ⟨w.heap.size + 2, 0, none⟩ = false := (hb1.frozen (p := ⟨w.heap.size + 2, 0, none⟩) (by simp)).trans (by simp [go_sem])
  have f1 : w1.frozen? ⟨w.heap.size + 2, 1, none⟩ = false := (hb1.frozen (p := ⟨w.heap.size + 2, 1, none⟩) (by simp)).trans (by simp [go_sem])
  clear hb1 hv1
  go_wp2_with fail
  refine Calls.go hbb (hv2 _) ?_
  rintro r w2 rfl hb2' hb2
  have c0 := box_lt c0 hb2'
  have c1 := box_lt c1 hb2'
  have f0 := (hb2'.frozen (p := ⟨w.heap.size + 2, 0, none⟩) hz).trans f0
  have f1 := (hb2'.frozen (p := ⟨w.heap.size + 2, 1, none⟩) hz).trans f1
  have hz := Nat.lt_of_lt_of_le hz hb2'.size
  clear hb2' hbb hv2 m0 m1
  go_wp2_with fail
  refine Calls.go hb2 (hm1 _ (box_lt K0.out hb2) (box_lt K1.out hb2) (box_lt L0.out hb2) (box_lt L1.out hb2)) ?_
  rintro r w3 rfl hb3' hb3
  have c0 := box_lt c0 hb3'
  have c1 := box_lt c1 hb3'
  have f0 := (hb3'.frozen (p := ⟨w.heap.size + 2, 0, none⟩) hz).trans f0
  have f1 := (hb3'.frozen (p := ⟨w.heap.size + 2, 1, none⟩) hz).trans f1
  have hz := Nat.lt_of_lt_of_le hz hb3'.size
  clear hb3' hb2 hm1
  go_wp2_with fail
  refine Calls.go hb3 (hmk _) ?_
  rintro r w4 rfl hb4' hb4
  have c0 := box_lt c0 hb4'
  have c1 := box_lt c1 hb4'
  have f0 := (hb4'.frozen (p := ⟨w.heap.size + 2, 0, none⟩) hz).trans f0
  have f1 := (hb4'.frozen (p := ⟨w.heap.size + 2, 1, none⟩) hz).trans f1
  clear hb4' hb3
  go_wp2_with fail
  exact bodyPost_ret (v := .tuple #[.agg #[.int .i64 N, .int .i64 D], .int .i64 0]) (by simp (maxDischargeDepth := 9) [results, Try.results51, go_sem, c0, c1]) rfl ⟨rfl, by repeat' (first | exact Below.refl _ _ | assumption | refine Below.more ?_ ?_ _ | refine Below.alloc ?_ ?_ _ | refine Below.drew ?_ | refine below_drewN ?_ _ | refine Below.setCell ?_ ?_ _ | exact Below.size (by assumption) | (simp [go_sem, size_more]; done) | (simp [go_sem, size_more]; omega))⟩

set_option maxRecDepth 100000 in
set_option maxHeartbeats 4000000 in
theorem frMul_any (a d b e : Nat) (w : World) (ha : a ≤ 1073741824) (hd1 : 1 ≤ d) (hd2 : d ≤ 1073741824) (hg : Nat.gcd a d = 1) (hb : b ≤ 1073741824) (he1 : 1 ≤ e) (he2 : e ≤ 1073741824) (hg2 : Nat.gcd b e = 1) (h1 : a * b ≤ 1073741824) (h2 : d * e ≤ 1073741824) :
    Calls Try.prog 30 #[vFr a d, vFr b e] w fun r w' => MakeIs (a * b) (d * e) r ∧ Below w.heap.size w w' := by
  have hb0 : Below w.heap.size w (((w.alloc (.cells #[.int .i64 a, .int .i64 d] 40)).alloc (.cells #[.int .i64 b, .int .i64 e] 40)).alloc (.cells #[.int .i64 0, .int .i64 0] 40)) := (((Below.refl _ _).alloc (Nat.le_refl _) _).alloc (by simp) _).alloc (by simp; omega) _
  have hbo := fun W k0 k1 l0 l1 => both_any a d b e w.heap.size (w.heap.size + 1) W ha hd1 hd2 hg hb he1 he2 hg2 k0 k1 l0 l1 h1 h2
  clear hg hg2
  unfold MakeIs at hbo ⊢
  generalize a * b = X at *
  generalize d * e = Y at *
  generalize ((X / Nat.gcd X Y : Nat) : Int) = N at *
  generalize ((Y / Nat.gcd X Y : Nat) : Int) = D at *
  go_enter Try.func30, Try.ntmps30
  go_wp2_with fail
  refine Calls.to (hbo _ (by simp [go_sem]) (by simp [go_sem]) (by simp [go_sem]) (by simp [go_sem])) ?_
  rintro r w1 rfl hb1
  have hbb := hb0.trans (hb1.mono hb0.size)
  have c0 : w1.cell? ⟨w.heap.size + 2, 0, none⟩ = some (.int .i64 0) := (hb1.cell (p := ⟨w.heap.size + 2, 0, none⟩) (by simp)).trans (by simp [go_sem])
  have c1 : w1.cell? ⟨w.heap.size + 2, 1, none⟩ = some (.int .i64 0) := (hb1.cell (p := ⟨w.heap.size + 2, 1, none⟩) (by simp)).trans (by simp [go_sem])
  have f0 : w1.frozen? ⟨w.heap.size + 2, 0, none⟩ = false := (hb1.frozen (p := ⟨w.heap.size + 2, 0, none⟩) (by simp)).trans (by simp [go_sem])
  have f1 : w1.frozen? ⟨w.heap.size + 2, 1, none⟩ = false := (hb1.frozen (p := ⟨w.heap.size + 2, 1, none⟩) (by simp)).trans (by simp [go_sem])
  clear hb1
  go_wp2_with fail
  exact bodyPost_ret (v := .tuple #[.agg #[.int .i64 N, .int .i64 D], .int .i64 0]) (by simp (maxDischargeDepth := 9) [results, Try.results30, go_sem, c0, c1]) rfl ⟨rfl, by repeat' (first | exact Below.refl _ _ | assumption | refine Below.more ?_ ?_ _ | refine Below.alloc ?_ ?_ _ | refine Below.drew ?_ | refine below_drewN ?_ _ | refine Below.setCell ?_ ?_ _ | exact Below.size (by assumption) | (simp [go_sem, size_more]; done) | (simp [go_sem, size_more]; omega))⟩

end Go.Proofs.Ytdlaghjijfgncaa
