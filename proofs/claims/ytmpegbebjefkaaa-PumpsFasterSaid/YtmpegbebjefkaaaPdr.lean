/- pumps.Drain and Enough. Conditions: the node and the link read as data. -/
import Derived.Test.YtmpegbebjefkaaaPft
namespace Go.Proofs.Ytmpegbebjefkaaa
open Go.RowKit
set_option linter.unusedVariables false
set_option linter.unusedSimpArgs false


set_option maxRecDepth 100000 in
set_option maxHeartbeats 4000000 in
theorem penough_any (x : Nd) (l : Lk) (q : Int) (w : World) (hn : gNd w x) (hg : gLk w l) :
    Calls Try.prog 27 #[vNd x, vLk l, .int .i64 q] w fun e w' => e = .returned (.tuple #[.bool (enoughM x l q).1, .int .i64 (enoughM x l q).2]) ∧ Below w.heap.size w w' := by
  have hb0 : Below w.heap.size w ((w.alloc (.cells (eNd x).toArray 56)).alloc (.cells (eLk l).toArray 25)) := by repeat' (first | exact Below.refl _ _ | assumption | refine Below.more ?_ ?_ _ | refine Below.alloc ?_ ?_ _ | refine Below.drew ?_ | refine below_drewN ?_ _ | refine Below.setCell ?_ ?_ _ | exact Below.size (by assumption) | (simp [go_sem, size_more]; done) | (simp [go_sem, size_more]; omega))
  have hgv := pgiven_any x l q _ (rdNd.mono hn hb0) (rdLk.mono hg hb0)
  clear hn hg
  unfold vGiv at hgv
  by_cases hE : (givM x l q).2 = 0
  · obtain ⟨e1, _⟩ := givM_ok hE
    have HF : Hid (enoughM x l q = (decide (q < (sumpV x l).2.1), 0)) := by show _ = _; unfold enoughM; rw [hE]; simp
    rw [HF.out]
    rw [hE, e1] at hgv
    generalize sumpV x l = sv at *
    obtain ⟨r1, r2, r3⟩ := sv
    simp only at hgv ⊢
    clear hE e1 HF
    cases u : decide (q < r2)
    all_goals
      obtain ⟨nm, fr, tt, kd, ln, up, dn, sc, wi, he, cu⟩ := l
      obtain ⟨m0, m1, m2, m3, m4, m5, m6, m7, m8⟩ := x
      go_enter Try.func27, Try.ntmps27
      go_wp2_with fail
      refine Calls.go hb0 hgv ?_
      rintro e w1 rfl _ hb1
      clear hb0 hgv
      go_wp2_with fail
      go_ret2
      exact ⟨rfl, by repeat' (first | exact Below.refl _ _ | assumption | refine Below.more ?_ ?_ _ | refine Below.alloc ?_ ?_ _ | refine Below.drew ?_ | refine below_drewN ?_ _ | refine Below.setCell ?_ ?_ _ | exact Below.size (by assumption) | (simp [go_sem, size_more]; done) | (simp [go_sem, size_more]; omega))⟩
  · have HF : Hid (enoughM x l q = (false, (givM x l q).2)) := by show _ = _; unfold enoughM; rw [decide_eq_false hE]; rfl
    rw [HF.out]
    rw [givM_err hE] at hgv
    generalize (givM x l q).2 = E at *
    have u : (E == 0) = false := beqF hE
    simp only at hgv
    clear hE HF
    obtain ⟨nm, fr, tt, kd, ln, up, dn, sc, wi, he, cu⟩ := l
    obtain ⟨m0, m1, m2, m3, m4, m5, m6, m7, m8⟩ := x
    go_enter Try.func27, Try.ntmps27
    go_wp2_with fail
    refine Calls.go hb0 hgv ?_
    rintro e w1 rfl _ hb1
    clear hb0 hgv
    go_wp2_with fail
    go_ret2
    exact ⟨rfl, by repeat' (first | exact Below.refl _ _ | assumption | refine Below.more ?_ ?_ _ | refine Below.alloc ?_ ?_ _ | refine Below.drew ?_ | refine below_drewN ?_ _ | refine Below.setCell ?_ ?_ _ | exact Below.size (by assumption) | (simp [go_sem, size_more]; done) | (simp [go_sem, size_more]; omega))⟩

set_option maxRecDepth 100000 in
set_option maxHeartbeats 4000000 in
theorem pdrain_any (x : Nd) (l : Lk) (q : Int) (w : World) (hn : gNd w x) (hg : gLk w l) :
    Calls Try.prog 28 #[vNd x, vLk l, .int .i64 q] w fun e w' => e = .returned (vEn (drainM x l q)) ∧ Below w.heap.size w w' := by
  have hb0 : Below w.heap.size w (((w.alloc (.cells (eNd x).toArray 56)).alloc (.cells (eLk l).toArray 25)).alloc (.cells #[.int .i64 0, .int .i64 0] 38)) := by repeat' (first | exact Below.refl _ _ | assumption | refine Below.more ?_ ?_ _ | refine Below.alloc ?_ ?_ _ | refine Below.drew ?_ | refine below_drewN ?_ _ | refine Below.setCell ?_ ?_ _ | exact Below.size (by assumption) | (simp [go_sem, size_more]; done) | (simp [go_sem, size_more]; omega))
  have hgv := pgiven_any x l q _ (rdNd.mono hn hb0) (rdLk.mono hg hb0)
  have hSU : Sq2 (((w.alloc (.cells (eNd x).toArray 56)).alloc (.cells (eLk l).toArray 25)).alloc (.cells #[.int .i64 0, .int .i64 0] 38)) (w.heap.size + 1 + 1) 0 0 := by
    have h := Sq2.new ((w.alloc (.cells (eNd x).toArray 56)).alloc (.cells (eLk l).toArray 25)) 0 0 38
    rw [show ((w.alloc (.cells (eNd x).toArray 56)).alloc (.cells (eLk l).toArray 25)).heap.size = w.heap.size + 1 + 1 from by simp] at h
    exact h
  clear hn hg
  by_cases hE : (givM x l q).2 = 0
  · obtain ⟨e1, b1, b2, b3, b4, b5, b6, b7⟩ := givM_ok hE
    by_cases hq : (sumpV x l).2.1 ≤ q
    · have HF : Hid (drainM x l q = (0, 0, 28)) := by show _ = _; unfold drainM; rw [if_neg (by omega), if_pos hq]
      rw [HF.out]
      simp only [vEn]
      unfold vGiv at hgv
      rw [hE, e1] at hgv
      generalize sumpV x l = sv at *
      obtain ⟨r1, r2, r3⟩ := sv
      simp only at hgv hq
      have u := decide_eq_true hq
      clear hE e1 b1 b2 b3 b4 b5 b6 b7 HF hq
      obtain ⟨nm, fr, tt, kd, ln, up, dn, sc, wi, he, cu⟩ := l
      obtain ⟨m0, m1, m2, m3, m4, m5, m6, m7, m8⟩ := x
      go_enter Try.func28, Try.ntmps28
      go_wp2_with fail
      refine Calls.go hb0 hgv ?_
      rintro e w1 rfl hb1' hb1
      have hSU := hSU.mono hb1'
      have hlt := hSU.lt
      obtain ⟨s0, s1, fs0, fs1⟩ := hSU
      clear hb1' hb0 hgv
      go_wp2_with fail
      exact bodyPost_ret (v := .tuple #[.agg #[.int .i64 0, .int .i64 0], .int .i64 28]) (by simp (maxDischargeDepth := 9) [results, Try.results28, go_sem, s0, s1]) rfl ⟨rfl, by repeat' (first | exact Below.refl _ _ | assumption | refine Below.more ?_ ?_ _ | refine Below.alloc ?_ ?_ _ | refine Below.drew ?_ | refine below_drewN ?_ _ | refine Below.setCell ?_ ?_ _ | exact Below.size (by assumption) | (simp [go_sem, size_more]; done) | (simp [go_sem, size_more]; omega))⟩
    · have HF : Hid (drainM x l q = (((quoN (sumpV x l).1.toNat ((sumpV x l).2.2 - q).toNat false : Nat) : Int), ((quoN (sumpV x l).1.toNat ((sumpV x l).2.1 - q).toNat true : Nat) : Int), 0)) := by show _ = _; unfold drainM; rw [if_neg (by omega), if_neg hq]
      rw [HF.out]
      simp only [vEn]
      unfold vGiv at hgv
      rw [hE, e1] at hgv
      generalize sumpV x l = sv at *
      obtain ⟨r1, r2, r3⟩ := sv
      simp only at hgv b1 b2 b3 b4 b5 hq ⊢
      obtain ⟨V, rfl⟩ : ∃ V : Nat, r1 = (V : Int) := ⟨r1.toNat, by omega⟩
      obtain ⟨A, hA⟩ : ∃ A : Nat, (r3 - q).toNat = A := ⟨_, rfl⟩
      obtain ⟨B, hB⟩ : ∃ B : Nat, (r2 - q).toNat = B := ⟨_, rfl⟩
      have hA2 : r3 - q = (A : Int) := by omega
      have hB2 : r2 - q = (B : Int) := by omega
      rw [hA, hB]
      simp only [Int.toNat_natCast]
      have hA0 : 0 < A := by omega
      have hB0 : 0 < B := by omega
      have hB3 : B ≤ 1099511627776 := by omega
      have hs0 := quoN_sm (V := V) hA0 (by omega) false
      have hs1 := quoN_sm (V := V) hB0 (by omega) true
      have x1 : IntKind.i64.wrap (r3 - q) = (A : Int) := by rw [hA2]; exact IntWalk.i64_in _ (by omega)
      have x2 : IntKind.i64.wrap (r2 - q) = (B : Int) := by rw [hB2]; exact IntWalk.i64_in _ (by omega)
      have x3 : IntKind.i64.wrap ((V : Int).tdiv (A : Int)) = ((quoN V A false : Nat) : Int) := by
        rw [Int.tdiv_eq_ediv_of_nonneg (by omega), ← Int.natCast_ediv]
        rw [show V / A = quoN V A false from by simp [quoN]]
        exact IntWalk.i64_in _ (by omega)
      have x4 : IntKind.i64.wrap ((V : Int) + (B : Int)) = (V : Int) + (B : Int) := IntWalk.i64_in _ (by omega)
      have x5 : IntKind.i64.wrap ((V : Int) + (B : Int) - 1) = (V : Int) + (B : Int) - 1 := IntWalk.i64_in _ (by omega)
      have x6 : IntKind.i64.wrap (((V : Int) + (B : Int) - 1).tdiv (B : Int)) = ((quoN V B true : Nat) : Int) := by
        rw [Int.tdiv_eq_ediv_of_nonneg (by omega), show (V : Int) + (B : Int) - 1 = ((V + B - 1 : Nat) : Int) from by omega, ← Int.natCast_ediv]
        rw [show (V + B - 1) / B = quoN V B true from by simp [quoN]]
        exact IntWalk.i64_in _ (by omega)
      have z1 : ((A : Int) == 0) = false := by rw [beq_eq_false_iff_ne]; omega
      have z2 : ((B : Int) == 0) = false := by rw [beq_eq_false_iff_ne]; omega
      have y1 : ¬ ((A : Int) = 0) := by omega
      have y2 : ¬ ((B : Int) = 0) := by omega
      have u : decide (r2 ≤ q) = false := decide_eq_false hq
      generalize quoN V A false = q0 at *
      generalize quoN V B true = q1 at *
      clear hE e1 b1 b2 b3 b4 b5 b6 b7 HF hA hB hA2 hB2 hA0 hB0 hs0 hs1 hq hB3
      generalize (V : Int) = VI at *
      generalize (A : Int) = AI at *
      generalize (B : Int) = BI at *
      obtain ⟨nm, fr, tt, kd, ln, up, dn, sc, wi, he, cu⟩ := l
      obtain ⟨m0, m1, m2, m3, m4, m5, m6, m7, m8⟩ := x
      go_enter Try.func28, Try.ntmps28
      go_wp2_with fail
      refine Calls.go hb0 hgv ?_
      rintro e w1 rfl hb1' hb1
      have hSU := hSU.mono hb1'
      have hlt := hSU.lt
      obtain ⟨s0, s1, fs0, fs1⟩ := hSU
      clear hb1' hb0 hgv
      have hS0 : Sq2 w1 (w.heap.size + 1 + 1) 0 0 := ⟨s0, s1, fs0, fs1⟩
      have hS1 := (hS0.mono (alloc_below w1 (.cells #[.int .i64 VI, .int .i64 r2, .int .i64 r3] 73)))
      have hbe := hb1.alloc hb1.size (.cells #[.int .i64 VI, .int .i64 r2, .int .i64 r3] 73)
      have hcv : (w1.alloc (.cells #[.int .i64 VI, .int .i64 r2, .int .i64 r3] 73)).cell? ⟨w1.heap.size, 0, none⟩ = some (.int .i64 VI) := by simp [go_sem]
      have hcw : w1.heap.size < (w1.alloc (.cells #[.int .i64 VI, .int .i64 r2, .int .i64 r3] 73)).heap.size := by simp
      go_wp2_with fail
      go_quiet (fail)
      have hS2 := hS1.mono (below_drewN (Below.refl _ _) nq)
      have hbe := below_drewN hbe nq
      have hcv := box_lt hcv (below_drewN (Below.refl _ _) nq)
      clear hS0 hS1 s0 s1 fs0 fs1 hlt x1 x2 hcw hb1
      generalize ((w1.alloc (.cells #[.int .i64 VI, .int .i64 r2, .int .i64 r3] 73)).drewN nq) = W at *
      generalize w1.heap.size = BS at *
      have HS2 := Lib.hid hS2
      obtain ⟨s0, s1, fs0, fs1⟩ := hS2
      go_wp2_with fail
      refine wp_region_more_tail 11 (by kernel_rfl) (by kernel_rfl) ?_
      simp only [List.take_succ_cons, List.take_zero]
      repeat (go_big_quiet_step (fail))
      refine wpQuiet_nil ?_
      intro _ hwq
      obtain ⟨xq, hwq⟩ := hwq
      subst hwq
      have hX := HS2.out.mono (below_more W xq)
      have hbX := hbe.trans ((below_more W xq).mono hbe.size)
      clear s0 s1 fs0 fs1 hbe hcv
      have hlt := hX.lt
      obtain ⟨s0, s1, fs0, fs1⟩ := hX
      refine wpAny_ready (rs := [11]) (by kernel_rfl) (by simp) ?_
      refine AllReady.cons rfl (fun K hK => ?_) AllReady.nil
      go_simp
      refine hK _ _ ?_
      clear hK K
      refine wpAny_ready (rs := [12]) (by kernel_rfl) (by simp) ?_
      refine AllReady.cons rfl (fun K hK => ?_) AllReady.nil
      go_simp
      refine hK _ _ ?_
      clear hK K
      refine wpAny_ready (rs := [13]) (by kernel_rfl) (by simp) ?_
      refine AllReady.cons rfl (fun K hK => ?_) AllReady.nil
      go_simp
      refine hK _ _ ?_
      clear hK K
      refine wpAny_done (by kernel_rfl) ?_ _
      go_wp2_with fail
      exact bodyPost_ret (v := .tuple #[.agg #[.int .i64 (q0 : Int), .int .i64 (q1 : Int)], .int .i64 0]) (by simp (maxDischargeDepth := 9) [results, Try.results28, go_sem, s0, s1]) rfl ⟨rfl, by repeat' (first | exact Below.refl _ _ | assumption | refine Below.more ?_ ?_ _ | refine Below.alloc ?_ ?_ _ | refine Below.drew ?_ | refine below_drewN ?_ _ | refine Below.setCell ?_ ?_ _ | exact Below.size (by assumption) | (simp [go_sem, size_more]; done) | (simp [go_sem, size_more]; omega))⟩
  · have HF : Hid (drainM x l q = (0, 0, (givM x l q).2)) := by show _ = _; unfold drainM; rw [if_pos hE]
    rw [HF.out]
    simp only [vEn]
    unfold vGiv at hgv
    rw [givM_err hE] at hgv
    generalize (givM x l q).2 = E at *
    have u : (E != 0) = true := by rw [bne_iff_ne]; exact hE
    simp only at hgv
    clear hE HF
    obtain ⟨nm, fr, tt, kd, ln, up, dn, sc, wi, he, cu⟩ := l
    obtain ⟨m0, m1, m2, m3, m4, m5, m6, m7, m8⟩ := x
    go_enter Try.func28, Try.ntmps28
    go_wp2_with fail
    refine Calls.go hb0 hgv ?_
    rintro e w1 rfl hb1' hb1
    have hSU := hSU.mono hb1'
    have hlt := hSU.lt
    obtain ⟨s0, s1, fs0, fs1⟩ := hSU
    clear hb1' hb0 hgv
    go_wp2_with fail
    exact bodyPost_ret (v := .tuple #[.agg #[.int .i64 0, .int .i64 0], .int .i64 E]) (by simp (maxDischargeDepth := 9) [results, Try.results28, go_sem, s0, s1]) rfl ⟨rfl, by repeat' (first | exact Below.refl _ _ | assumption | refine Below.more ?_ ?_ _ | refine Below.alloc ?_ ?_ _ | refine Below.drew ?_ | refine below_drewN ?_ _ | refine Below.setCell ?_ ?_ _ | exact Below.size (by assumption) | (simp [go_sem, size_more]; done) | (simp [go_sem, size_more]; omega))⟩

end Go.Proofs.Ytmpegbebjefkaaa
