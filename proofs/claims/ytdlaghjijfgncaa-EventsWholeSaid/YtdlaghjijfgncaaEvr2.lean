/- Period of the reference; two fractions held against each other. Conditions: the list is right, the numbers in range. -/
import Derived.Test.YtdlaghjijfgncaaEvn
import Derived.Test.YtdlaghjijfgncaaEvw
namespace Go.Proofs.Ytdlaghjijfgncaa
open Go.RowKit
set_option linter.unusedVariables false
set_option linter.unusedSimpArgs false

abbrev vFr (a b : Int) : Value := .agg #[.int .i64 a, .int .i64 b]
theorem neqFr (a b : Int) (w : World) : (binOp .neq 40 (vFr a b) (vFr a b)).run Try.prog w = .ok (.bool false) w := by
  simp [go_sem]

set_option maxRecDepth 100000 in
set_option maxHeartbeats 4000000 in
theorem r21period_any (l : List Ev) (v : Value) (kn n : Nat) (w : World) (hv : IsEvs w v l) (hl : l.length ≤ 1000) (hkn : kn < l.length) (h2 : 2 ≤ n) (hn : n ≤ 10001) :
    Calls Try.prog 22 #[v, .int .i64 kn, .int .i64 ((n : Int) - 1)] w fun e w' => e = .returned (vFr ((n / Nat.gcd n (rankN l kn) : Nat) : Int) ((rankN l kn / Nat.gcd n (rankN l kn) : Nat) : Int)) ∧ Below w.heap.size w w' := by
  have hb0 : Below w.heap.size w (w.alloc (.cells #[.int .i64 0, .int .i64 0] 40)) := (Below.refl _ _).alloc (Nat.le_refl _) _
  have hrn := rankN_le l kn
  have hr1 : 1 ≤ rankN l kn := by unfold rankN; omega
  have HK := fun W h => r21rankOf_any l v kn W h hl hkn
  generalize hd : rankN l kn = d at *
  clear hd
  have x1 : IntKind.i64.wrap ((n : Int) - 1 + 1) = n := IntWalk.i64_in _ (by omega) |>.trans (by omega)
  have x3 : wrap64 (n : Int) = n := IntWalk.wrap64_in _ (by omega)
  obtain ⟨N, hN⟩ : ∃ N : Int, ((n / Nat.gcd n d : Nat) : Int) = N := ⟨_, rfl⟩
  obtain ⟨D, hD⟩ : ∃ D : Int, ((d / Nat.gcd n d : Nat) : Int) = D := ⟨_, rfl⟩
  have hmk := fun W => rmake_any n d W (by omega) hr1 (by omega)
  unfold MakeIs at hmk
  rw [hN, hD] at hmk ⊢
  clear hN hD
  go_enter Try.func22, Try.ntmps22
  go_wp2_with fail
  refine Calls.to (HK _ (hv.mono hb0)) ?_
  rintro e w1 rfl hb1
  have hbb := hb0.trans (hb1.mono hb0.size)
  have hz : w.heap.size < w1.heap.size := by have := hb1.size; simp at this; omega
  have c0 : w1.cell? ⟨w.heap.size, 0, none⟩ = some (.int .i64 0) := (hb1.cell (p := ⟨w.heap.size, 0, none⟩) (by simp)).trans (by simp [go_sem])
  have c1 : w1.cell? ⟨w.heap.size, 1, none⟩ = some (.int .i64 0) := (hb1.cell (p := ⟨w.heap.size, 1, none⟩) (by simp)).trans (by simp [go_sem])
  have f0 : w1.frozen? ⟨w.heap.size, 0, none⟩ = false := (hb1.frozen (p := ⟨w.heap.size, 0, none⟩) (by simp)).trans (by simp [go_sem])
  have f1 : w1.frozen? ⟨w.heap.size, 1, none⟩ = false := (hb1.frozen (p := ⟨w.heap.size, 1, none⟩) (by simp)).trans (by simp [go_sem])
  clear hb1 HK
  go_wp2_with fail
  refine Calls.go hbb (hmk _) ?_
  rintro e w4 rfl hb4' hb4
  have hz4 : w.heap.size ≠ w4.heap.size := by have := hb4'.size; omega
  have c0 := (hb4'.cell (p := ⟨w.heap.size, 0, none⟩) hz).trans c0
  have c1 := (hb4'.cell (p := ⟨w.heap.size, 1, none⟩) hz).trans c1
  have f0 := (hb4'.frozen (p := ⟨w.heap.size, 0, none⟩) hz).trans f0
  have f1 := (hb4'.frozen (p := ⟨w.heap.size, 1, none⟩) hz).trans f1
  have hlt4 : w.heap.size < w4.heap.size := by have := hb4'.size; omega
  clear hb4' hbb
  have hbA : Below w4.heap.size w4 (w4.alloc (.cells #[.int .i64 N, .int .i64 D] 40)) := (Below.refl _ _).alloc (Nat.le_refl _) _
  have g0 := (hbA.frozen (p := ⟨w.heap.size, 0, none⟩) hlt4).trans f0
  have g1 := (hbA.frozen (p := ⟨w.heap.size, 1, none⟩) hlt4).trans f1
  have hbAA := hb4.trans (hbA.mono hb4.size)
  clear hbA
  go_wp2_with fail
  exact bodyPost_ret (v := .agg #[.int .i64 N, .int .i64 D]) (by simp (maxDischargeDepth := 9) [results, Try.results22, go_sem, c0, c1]) rfl ⟨rfl, by repeat' (first | exact Below.refl _ _ | assumption | refine Below.more ?_ ?_ _ | refine Below.alloc ?_ ?_ _ | refine Below.drew ?_ | refine below_drewN ?_ _ | refine Below.setCell ?_ ?_ _ | exact Below.size (by assumption) | (simp [go_sem, size_more]; done) | (simp [go_sem, size_more]; omega))⟩

end Go.Proofs.Ytdlaghjijfgncaa
