/- Valid and Cmp of fractions that are reduced and not negative. Conditions: the numbers in range. -/
import Derived.Test.YtdlaghjijfgncaaEvr2
namespace Go.Proofs.Ytdlaghjijfgncaa
open Go.RowKit
set_option linter.unusedVariables false
set_option linter.unusedSimpArgs false

set_option maxRecDepth 100000 in
set_option maxHeartbeats 4000000 in
theorem frValid_any (a d : Nat) (w : World) (ha : a ≤ 1073741824) (hd1 : 1 ≤ d) (hd2 : d ≤ 1073741824) (hg : Nat.gcd a d = 1) :
    Calls Try.prog 50 #[vFr a d] w fun e w' => e = .returned (.bool true) ∧ Below w.heap.size w w' := by
  have hb0 : Below w.heap.size w (w.alloc (.cells #[.int .i64 a, .int .i64 d] 40)) := (Below.refl _ _).alloc (Nat.le_refl _) _
  have u1 : decide ((1 : Int) ≤ (d : Int)) = true := decide_eq_true (by omega)
  have u1' : decide (1 ≤ d) = true := decide_eq_true hd1
  have u2 : decide ((d : Int) ≤ 1073741824) = true := decide_eq_true (by omega)
  have u3 : decide ((-1073741824 : Int) ≤ (a : Int)) = true := decide_eq_true (by omega)
  have u4 : decide ((a : Int) ≤ 1073741824) = true := decide_eq_true (by omega)
  have cv := u64_wrap d hd2
  have hsz : ∀ W, Calls Try.prog 62 #[.int .i64 a] W fun e w' => e = .returned (.int .u64 a) ∧ Below W.heap.size W w' := fun W => (size_any a W (by omega) (by omega)).mono fun e w' ⟨h1, h2⟩ => ⟨h1, h2 ▸ Below.refl _ _⟩
  have hcm : ∀ W, Calls Try.prog 63 #[.int .u64 a, .int .u64 d] W fun e w' => e = .returned (.int .u64 1) ∧ Below W.heap.size W w' := fun W => (common_any a d W ha hd2).mono fun e w' ⟨h1, q, h2⟩ => ⟨by rw [h1, hg]; rfl, h2 ▸ below_drewN (Below.refl _ _) q⟩
  go_enter Try.func50, Try.ntmps50
  go_wp2_with fail
  generalize hW : w.alloc (.cells #[.int .i64 (a : Int), .int .i64 (d : Int)] 40) = W at *
  have c0 : W.cell? ⟨w.heap.size, 0, none⟩ = some (.int .i64 a) := by rw [← hW]; simp [go_sem]
  have c1 : W.cell? ⟨w.heap.size, 1, none⟩ = some (.int .i64 d) := by rw [← hW]; simp [go_sem]
  clear hW
  refine wp_region_more_lit (by kernel_rfl) (by kernel_rfl) ?_
  repeat (go_big_quiet_step (first | (go_at_call 62; exact Calls.more_of (hsz _)) | (go_at_call 63; exact Calls.more_of (hcm _))))
  refine wpQuiet_nil ?_
  intro _ hwq
  obtain ⟨xq, hwq⟩ := hwq
  subst hwq
  go_wp2_with fail
  go_ret
  exact ⟨rfl, hb0.trans ((below_more W xq).mono hb0.size)⟩

def cmpN (x y : Nat) : Int := if x < y then -1 else if y < x then 1 else 0

set_option maxRecDepth 100000 in
set_option maxHeartbeats 4000000 in
theorem frCmp_any (a d b e : Nat) (w : World) (ha : a ≤ 1073741824) (hd1 : 1 ≤ d) (hd2 : d ≤ 1073741824) (hg : Nat.gcd a d = 1) (hb : b ≤ 1073741824) (he1 : 1 ≤ e) (he2 : e ≤ 1073741824) (hg2 : Nat.gcd b e = 1) :
    Calls Try.prog 29 #[vFr a d, vFr b e] w fun r w' => r = .returned (.tuple #[.int .i64 (cmpN (a * e) (b * d)), .int .i64 0]) ∧ Below w.heap.size w w' := by
  have hb0 : Below w.heap.size w ((w.alloc (.cells #[.int .i64 a, .int .i64 d] 40)).alloc (.cells #[.int .i64 b, .int .i64 e] 40)) := ((Below.refl _ _).alloc (Nat.le_refl _) _).alloc (by simp) _
  have m1 : a * e ≤ 1073741824 * 1073741824 := Nat.mul_le_mul ha he2
  have m2 : b * d ≤ 1073741824 * 1073741824 := Nat.mul_le_mul hb hd2
  have c1 : (a : Int) * (e : Int) = ((a * e : Nat) : Int) := by rw [Int.natCast_mul]
  have c2 : (b : Int) * (d : Int) = ((b * d : Nat) : Int) := by rw [Int.natCast_mul]
  have x1 : IntKind.i64.wrap ((a : Int) * (e : Int)) = ((a * e : Nat) : Int) := by rw [c1]; exact IntWalk.i64_in _ (by omega)
  have x2 : IntKind.i64.wrap ((b : Int) * (d : Int)) = ((b * d : Nat) : Int) := by rw [c2]; exact IntWalk.i64_in _ (by omega)
  have hv1 := fun W => frValid_any a d W ha hd1 hd2 hg
  have hv2 := fun W => frValid_any b e W hb he1 he2 hg2
  clear c1 c2 hg hg2
  generalize a * e = X at *
  generalize b * d = Y at *
  have x3 : IntKind.i64.wrap ((X : Int) - (Y : Int)) = (X : Int) - (Y : Int) := IntWalk.i64_in _ (by omega)
  have X1 := Lib.hid x1
  have X2 := Lib.hid x2
  have X3 := Lib.hid x3
  clear x1 x2 x3
  go_enter Try.func29, Try.ntmps29
  go_wp2_with fail
  refine Calls.to (hv1 _) ?_
  rintro r w1 rfl hb1
  have k0 : w1.cell? ⟨w.heap.size, 0, none⟩ = some (.int .i64 a) := (hb1.cell (p := ⟨w.heap.size, 0, none⟩) (by simp; omega)).trans (by simp [go_sem])
  have k1 : w1.cell? ⟨w.heap.size, 1, none⟩ = some (.int .i64 d) := (hb1.cell (p := ⟨w.heap.size, 1, none⟩) (by simp; omega)).trans (by simp [go_sem])
  have l0 : w1.cell? ⟨w.heap.size + 1, 0, none⟩ = some (.int .i64 b) := (hb1.cell (p := ⟨w.heap.size + 1, 0, none⟩) (by simp)).trans (by simp [go_sem])
  have l1 : w1.cell? ⟨w.heap.size + 1, 1, none⟩ = some (.int .i64 e) := (hb1.cell (p := ⟨w.heap.size + 1, 1, none⟩) (by simp)).trans (by simp [go_sem])
  have hbb := hb0.trans (hb1.mono hb0.size)
  clear hb1 hv1
  go_wp2_with fail
  refine Calls.go hbb (hv2 _) ?_
  rintro r w2 rfl hb2' hb2
  have k0 := box_lt k0 hb2'
  have k1 := box_lt k1 hb2'
  have l0 := box_lt l0 hb2'
  have l1 := box_lt l1 hb2'
  clear hb2' hbb hv2
  have x1 := X1.out
  have x2 := X2.out
  have x3 := X3.out
  by_cases q1 : X < Y
  · have HC : Hid (cmpN X Y = -1) := by show _ = _; unfold cmpN; rw [if_pos q1]
    have u1 : decide ((X : Int) - (Y : Int) < 0) = true := decide_eq_true (by omega)
    have u1' : decide (X < Y) = true := decide_eq_true q1
    clear q1
    go_wp2_with fail
    go_ret2
    exact ⟨by rw [HC.out]; rfl, hb2⟩
  have u1 : decide ((X : Int) - (Y : Int) < 0) = false := decide_eq_false (by omega)
  have u1' : decide (X < Y) = false := decide_eq_false q1
  by_cases q2 : Y < X
  · have HC : Hid (cmpN X Y = 1) := by show _ = _; unfold cmpN; rw [if_neg q1, if_pos q2]
    have u2 : decide (0 < (X : Int) - (Y : Int)) = true := decide_eq_true (by omega)
    have u2' : decide (Y < X) = true := decide_eq_true q2
    clear q1 q2
    go_wp2_with fail
    go_ret2
    exact ⟨by rw [HC.out]; rfl, hb2⟩
  · have HC : Hid (cmpN X Y = 0) := by show _ = _; unfold cmpN; rw [if_neg q1, if_neg q2]
    have u2 : decide (0 < (X : Int) - (Y : Int)) = false := decide_eq_false (by omega)
    have u2' : decide (Y < X) = false := decide_eq_false q2
    clear q1 q2
    go_wp2_with fail
    go_ret2
    exact ⟨by rw [HC.out]; rfl, hb2⟩

end Go.Proofs.Ytdlaghjijfgncaa
