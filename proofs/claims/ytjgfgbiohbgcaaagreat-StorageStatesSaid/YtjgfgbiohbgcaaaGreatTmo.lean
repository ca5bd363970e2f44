/- table.Most. Conditions: the table is right, and the value is at least its first one. -/
import Derived.Test.YtjgfgbiohbgcaaaGreatMtm
import Derived.Test.YtjgfgbiohbgcaaaGreatTfo
import Derived.Test.YtjgfgbiohbgcaaaGreatMls
namespace Go.Proofs.YtjgfgbiohbgcaaaGreat
open Go.RowKit
set_option linter.unusedVariables false
set_option linter.unusedSimpArgs false

theorem cell_up {w w' : World} {b off : Nat} {v : Value} (h : w.cell? ⟨b, off, none⟩ = some v) (hb : Below w.heap.size w w') : w'.cell? ⟨b, off, none⟩ = some v :=
  (hb.cell (p := ⟨b, off, none⟩) (lt_of_isSome (a := ⟨b, off, none⟩) (by rw [h]; rfl))).trans h
theorem ent89 : ∀ args w, (callFunc 89 args).run Tryz.prog w = .ok (.enter 89 args) w := by
  intro args w
  simp [go_sem]
theorem most1_any (k : Kn) (y : Int) (B : Nat) (w : World) (hy : w.cell? ⟨B, 0, none⟩ = some (.int .i64 y)) : Calls Tryz.prog 89 #[vKn k, .pointer (some ⟨B, 0, none⟩)] w fun e w' => e = .returned (.bool (decide (y < k.Y))) ∧ Below w.heap.size w w' := by
  have hB : B < w.heap.size := lt_of_isSome (a := ⟨B, 0, none⟩) (by rw [hy]; rfl)
  cases h : decide (y < k.Y)
  all_goals
    obtain ⟨kx, ky⟩ := k
    simp only at h
    go_enter Tryz.func89, Tryz.ntmps89
    go_wp2_with fail
    go_ret
    exact ⟨rfl, by repeat' (first | exact Below.refl _ _ | assumption | refine Below.more ?_ ?_ _ | refine Below.alloc ?_ ?_ _ | refine Below.drew ?_ | refine below_drewN ?_ _ | refine Below.setCell ?_ ?_ _ | exact Below.size (by assumption) | (simp [go_sem, size_more]; done) | (simp [go_sem, size_more]; omega))⟩

set_option maxRecDepth 100000 in
set_option maxHeartbeats 4000000 in
theorem most_any (xs : List Kn) (y : Int) (v : Value) (w : World) (hv : IsKns w v xs) (h : tabB xs = true) (h0 : (xs[0]'(by have := tabB_len h; omega)).Y ≤ y) :
    Calls Tryz.prog 71 #[v, .int .i64 y] w fun e w' => e = .returned (.tuple #[.int .i64 (mostV xs y), .int .i64 0]) ∧ Below w.heap.size w w' := by
  have hb0 := alloc_below w (.cells #[.int .i64 y] 3)
  have cy0 : (w.alloc (.cells #[.int .i64 y] 3)).cell? ⟨w.heap.size, 0, none⟩ = some (.int .i64 y) := by simp [go_sem]
  have HV := Lib.hid (hv.mono hb0)
  have hva := tvalid_any xs v _ HV.out
  rw [h] at hva
  have hix := fun W (hb : Below (w.alloc (.cells #[.int .i64 y] 3)).heap.size (w.alloc (.cells #[.int .i64 y] 3)) W) =>
    indexKn 89 #[.pointer (some ⟨w.heap.size, 0, none⟩)] ent89 (fun k : Kn => decide (y < k.Y)) xs v W (HV.out.mono hb) (fun W' hW' k _ => most1_any k y w.heap.size W' (cell_up (cell_up cy0 hb) hW'))
  rw [idx_cntY (tabB_pwY h) y 0, Nat.zero_add] at hix
  have hlen := tabB_len h
  have hle := cntY_le xs y
  have hk0 : 0 < cntY xs y := (cntY_lt h y 0 (by omega)).2 h0
  by_cases hk : cntY xs y = xs.length
  · rw [mostV_end h y hk]
    rw [if_pos hk] at hix
    obtain ⟨a, cap, rfl, hcap, hbig, hs⟩ := hv
    have hl1 : xs.length - 1 < xs.length := by omega
    obtain ⟨⟨ax, ay⟩, hA⟩ : ∃ K, xs[xs.length - 1]'hl1 = K := ⟨_, rfl⟩
    rw [hA]
    show Calls _ _ _ _ fun e w' => e = .returned (.tuple #[.int .i64 ax, .int .i64 0]) ∧ Below w.heap.size w w'
    have x1 : IntKind.i64.wrap ((xs.length : Int) - 1) = ((xs.length - 1 : Nat) : Int) := by rw [IntKind.wrap_i64]; omega
    have hqs := hs
    clear hs h0 hk hk0 hle
    go_enter Tryz.func71, Tryz.ntmps71
    go_wp2_with fail
    refine Calls.to hva ?_
    rintro e w1 rfl hb1
    go_wp2_with fail
    refine Calls.to (hix w1 hb1) ?_
    rintro e w2 rfl hb2
    have hbb := hb0.trans ((hb1.trans (hb2.mono hb1.size)).mono hb0.size)
    obtain ⟨b, off, rfl, d1, d2⟩ := (hqs.mono hbb).kn (xs.length - 1) hl1
    rw [hA] at d1 d2
    simp only at d1 d2
    clear hix hva hqs hA
    generalize xs.length - 1 = m at *
    go_wp2_with fail
    go_ret2
    exact ⟨rfl, hbb⟩
  · obtain ⟨m, hm⟩ : ∃ m, cntY xs y = m + 1 := ⟨cntY xs y - 1, by omega⟩
    have hm0 : m < xs.length := by omega
    have hm1 : m + 1 < xs.length := by omega
    obtain ⟨e, e1, e2⟩ := mostV_mid h y m hm0 hm1 hm
    have hst := tabB_lt h m (m + 1) (by omega) hm1
    have t0 := tabB_at h m hm0
    have t1 := tabB_at h (m + 1) hm1
    rw [if_neg hk, hm] at hix
    rw [e]
    clear e
    obtain ⟨a, cap, rfl, hcap, hbig, hs⟩ := hv
    obtain ⟨⟨ax, ay⟩, hA⟩ : ∃ K, xs[m] = K := ⟨_, rfl⟩
    obtain ⟨⟨bx, b_y⟩, hB⟩ : ∃ K, xs[m + 1] = K := ⟨_, rfl⟩
    rw [hA] at e1 hst t0 ⊢
    rw [hB] at e2 hst t1 ⊢
    simp only at e1 e2 hst t0 t1 ⊢
    obtain ⟨U, eU⟩ : ∃ U : Nat, y - ay = U := ⟨(y - ay).toNat, by omega⟩
    obtain ⟨E, eE⟩ : ∃ E : Nat, bx - ax = E := ⟨(bx - ax).toNat, by omega⟩
    obtain ⟨D, eD⟩ : ∃ D : Nat, b_y - ay = D := ⟨(b_y - ay).toNat, by omega⟩
    have hUD : U < D := by omega
    have hD0 : 0 < D := by omega
    have hqE : U * E / D ≤ E := Nat.div_le_of_le_mul (Nat.mul_le_mul_right _ (Nat.le_of_lt hUD))
    have hsc := fun W => wscale_any U E D W (by omega) (by omega) hD0 (by omega) (by rw [quoN_up hD0]; exact q_small _ _ (Nat.le_trans hqE (by omega)))
    have eq0 : quoN (U * E) D false = U * E / D := by simp [quoN]
    rw [eq0] at hsc
    rw [eU, eE, eD, ← Int.natCast_mul, ← Int.natCast_ediv]
    generalize U * E / D = q at *
    generalize quoN (U * E) D true = qu at *
    have x1 : IntKind.i64.wrap (((m + 1 : Nat) : Int) - 1) = (m : Int) := by rw [IntKind.wrap_i64]; omega
    have x2 : IntKind.i64.wrap (y - ay) = (U : Int) := by rw [eU, IntKind.wrap_i64]; omega
    have x3 : IntKind.i64.wrap (bx - ax) = (E : Int) := by rw [eE, IntKind.wrap_i64]; omega
    have x4 : IntKind.i64.wrap (b_y - ay) = (D : Int) := by rw [eD, IntKind.wrap_i64]; omega
    have x5 : IntKind.i64.wrap (ax + (q : Int)) = ax + (q : Int) := by rw [IntKind.wrap_i64]; omega
    have g0 : (((m + 1 : Nat) : Int) == 0) = false := by rw [beq_eq_false_iff_ne]; omega
    have g1 : (((m + 1 : Nat) : Int) == -1) = false := by rw [beq_eq_false_iff_ne]; omega
    have hqs := hs
    clear hs h0 hk hk0 hle hm e1 e2 hst t0 t1 eU eE eD hUD hD0 hqE eq0 h
    go_enter Tryz.func71, Tryz.ntmps71
    go_wp2_with fail
    refine Calls.to hva ?_
    rintro e w1 rfl hb1
    go_wp2_with fail
    refine Calls.to (hix w1 hb1) ?_
    rintro e w2 rfl hb2
    have cy := cell_up (cell_up cy0 hb1) hb2
    have hb2 := hb0.trans ((hb1.trans (hb2.mono hb1.size)).mono hb0.size)
    obtain ⟨b, off, rfl, d1, d2⟩ := (hqs.mono hb2).kn m hm0
    obtain ⟨b', off', e', d3, d4⟩ := (hqs.mono hb2).kn (m + 1) hm1
    obtain ⟨rfl, rfl⟩ : b' = b ∧ off' = off := by cases e'; exact ⟨rfl, rfl⟩
    rw [hA] at d1 d2
    rw [hB] at d3 d4
    simp only at d1 d2 d3 d4
    clear hix hva hqs hA hB hb1 hb0 cy0
    go_wp2_with fail
    go_region
    · have hX : Sp2 (((w2.alloc (.cells #[.int .i64 ax, .int .i64 ay] 71)).alloc (.cells #[.int .i64 bx, .int .i64 b_y] 71)).drew) w2.heap.size ax ay := ⟨by simp [go_sem], by simp [go_sem]⟩
      have hZ : Sp2 (((w2.alloc (.cells #[.int .i64 ax, .int .i64 ay] 71)).alloc (.cells #[.int .i64 bx, .int .i64 b_y] 71)).drew) (w2.heap.size + 1) bx b_y := ⟨by simp [go_sem], by simp [go_sem]⟩
      have hbW : Below w.heap.size w (((w2.alloc (.cells #[.int .i64 ax, .int .i64 ay] 71)).alloc (.cells #[.int .i64 bx, .int .i64 b_y] 71)).drew) := by
        have := hb2.size
        repeat' (first | exact Below.refl _ _ | assumption | refine Below.more ?_ ?_ _ | refine Below.alloc ?_ ?_ _ | refine Below.drew ?_ | refine below_drewN ?_ _ | refine Below.setCell ?_ ?_ _ | exact Below.size (by assumption) | (simp [go_sem, size_more]; done) | (simp [go_sem, size_more]; omega))
      have cy2 : (((w2.alloc (.cells #[.int .i64 ax, .int .i64 ay] 71)).alloc (.cells #[.int .i64 bx, .int .i64 b_y] 71)).drew).cell? ⟨w.heap.size, 0, none⟩ = some (.int .i64 y) := by
        have hlt : w.heap.size < w2.heap.size := lt_of_isSome (a := ⟨w.heap.size, 0, none⟩) (by rw [cy]; rfl)
        exact (show Below w2.heap.size w2 (((w2.alloc (.cells #[.int .i64 ax, .int .i64 ay] 71)).alloc (.cells #[.int .i64 bx, .int .i64 b_y] 71)).drew) from by repeat' (first | exact Below.refl _ _ | assumption | refine Below.more ?_ ?_ _ | refine Below.alloc ?_ ?_ _ | refine Below.drew ?_ | refine below_drewN ?_ _ | refine Below.setCell ?_ ?_ _ | exact Below.size (by assumption) | (simp [go_sem, size_more]; done) | (simp [go_sem, size_more]; omega))).cell (p := ⟨w.heap.size, 0, none⟩) hlt |>.trans cy
      have HX := Lib.hid hX
      obtain ⟨p0, p1⟩ := hX
      obtain ⟨q0, q1⟩ := hZ
      clear d1 d2 d3 d4 cy hb2
      go_wp2_with fail
      refine Calls.go hbW (hsc _) ?_
      rintro e w3 rfl hb3' hb3
      clear p0 p1 q0 q1 cy2
      have hX := HX.out.mono hb3'
      obtain ⟨p0, p1⟩ := hX
      clear hb3' hsc hbW
      go_wp2_with fail
      go_ret2
      exact ⟨rfl, hb3⟩
    · have hX : Sp2 (((w2.alloc (.cells #[.int .i64 bx, .int .i64 b_y] 71)).alloc (.cells #[.int .i64 ax, .int .i64 ay] 71)).drew) (w2.heap.size + 1) ax ay := ⟨by simp [go_sem], by simp [go_sem]⟩
      have hZ : Sp2 (((w2.alloc (.cells #[.int .i64 bx, .int .i64 b_y] 71)).alloc (.cells #[.int .i64 ax, .int .i64 ay] 71)).drew) w2.heap.size bx b_y := ⟨by simp [go_sem], by simp [go_sem]⟩
      have hbW : Below w.heap.size w (((w2.alloc (.cells #[.int .i64 bx, .int .i64 b_y] 71)).alloc (.cells #[.int .i64 ax, .int .i64 ay] 71)).drew) := by
        have := hb2.size
        repeat' (first | exact Below.refl _ _ | assumption | refine Below.more ?_ ?_ _ | refine Below.alloc ?_ ?_ _ | refine Below.drew ?_ | refine below_drewN ?_ _ | refine Below.setCell ?_ ?_ _ | exact Below.size (by assumption) | (simp [go_sem, size_more]; done) | (simp [go_sem, size_more]; omega))
      have cy2 : (((w2.alloc (.cells #[.int .i64 bx, .int .i64 b_y] 71)).alloc (.cells #[.int .i64 ax, .int .i64 ay] 71)).drew).cell? ⟨w.heap.size, 0, none⟩ = some (.int .i64 y) := by
        have hlt : w.heap.size < w2.heap.size := lt_of_isSome (a := ⟨w.heap.size, 0, none⟩) (by rw [cy]; rfl)
        exact (show Below w2.heap.size w2 (((w2.alloc (.cells #[.int .i64 bx, .int .i64 b_y] 71)).alloc (.cells #[.int .i64 ax, .int .i64 ay] 71)).drew) from by repeat' (first | exact Below.refl _ _ | assumption | refine Below.more ?_ ?_ _ | refine Below.alloc ?_ ?_ _ | refine Below.drew ?_ | refine below_drewN ?_ _ | refine Below.setCell ?_ ?_ _ | exact Below.size (by assumption) | (simp [go_sem, size_more]; done) | (simp [go_sem, size_more]; omega))).cell (p := ⟨w.heap.size, 0, none⟩) hlt |>.trans cy
      have HX := Lib.hid hX
      obtain ⟨p0, p1⟩ := hX
      obtain ⟨q0, q1⟩ := hZ
      clear d1 d2 d3 d4 cy hb2
      go_wp2_with fail
      refine Calls.go hbW (hsc _) ?_
      rintro e w3 rfl hb3' hb3
      clear p0 p1 q0 q1 cy2
      have hX := HX.out.mono hb3'
      obtain ⟨p0, p1⟩ := hX
      clear hb3' hsc hbW
      go_wp2_with fail
      go_ret2
      exact ⟨rfl, hb3⟩

end Go.Proofs.YtjgfgbiohbgcaaaGreat
