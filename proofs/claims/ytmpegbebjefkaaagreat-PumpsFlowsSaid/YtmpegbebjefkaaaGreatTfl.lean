/- table.Floor; the flow of a pump: pumps.flow, Flow, and On. Conditions: the table or the link reads as data; the place lies between 0 and MaxLevel. -/
import Derived.Test.YtmpegbebjefkaaaGreatTpi
import Derived.Test.YtmpegbebjefkaaaGreatPst
namespace Go.Proofs.YtmpegbebjefkaaaGreat
open Go.RowKit
set_option linter.unusedVariables false
set_option linter.unusedSimpArgs false

set_option maxRecDepth 100000 in
set_option maxHeartbeats 1000000 in
theorem tfloor_any (xs : List Kn) (x : Int) (v : Value) (w : World) (hv : IsKns w v xs) (h : tabB xs = true) :
    Calls Tryz.prog 27 #[v, .int .i64 x] w fun e w' => e = .returned (.tuple #[.int .i64 (tabV xs x), .int .i64 0]) ∧ Below w.heap.size w w' := by
  have hp := fun W (hW : IsKns W v xs) => piece_any xs x v W hW h
  have hv0 := tvalid_any xs v w hv
  rw [h] at hv0
  have HV := Lib.hid hv
  obtain ⟨a, cap, rfl, _⟩ := hv
  clear h
  unfold tabV
  obtain ⟨⟨r1, r2, r3⟩, hr⟩ : ∃ r, tabP xs x = r := ⟨_, rfl⟩
  simp only [hr] at hp ⊢
  clear hr
  simp only [vP] at hp
  go_enter Tryz.func27, Tryz.ntmps27
  go_wp2_with fail
  refine Calls.to hv0 ?_
  rintro e w1 rfl hb1
  go_wp2_with fail
  refine Calls.go hb1 (hp _ (HV.out.mono hb1)) ?_
  rintro e w2 rfl _ hb2
  go_wp2_with fail
  go_ret2
  exact ⟨rfl, hb2⟩

set_option maxRecDepth 100000 in
set_option maxHeartbeats 1000000 in
theorem tfloor_bad (xs : List Kn) (x : Int) (v : Value) (w : World) (hv : IsKns w v xs) (h : tabB xs = false) :
    Calls Tryz.prog 27 #[v, .int .i64 x] w fun e w' => e = .returned (.tuple #[.int .i64 0, .int .i64 1]) ∧ Below w.heap.size w w' := by
  have hv0 := tvalid_any xs v w hv
  rw [h] at hv0
  obtain ⟨a, cap, rfl, _⟩ := hv
  clear h
  go_enter Tryz.func27, Tryz.ntmps27
  go_wp2_with fail
  refine Calls.to hv0 ?_
  rintro e w1 rfl hb1
  go_wp2_with fail
  go_ret2
  exact ⟨rfl, hb1⟩

theorem curveB_tab {xs : List Kn} (h : curveB xs = true) : tabB xs = true := by
  simp only [curveB, Bool.and_eq_true] at h; exact h.1
theorem curveB_bd {xs : List Kn} (h : curveB xs = true) (x : Int) : 0 ≤ tabV xs x ∧ tabV xs x ≤ 1099511627776 := by
  have ht := curveB_tab h
  have hl := tabB_len ht
  obtain ⟨b1, b2⟩ := tabV_bd ht x
  simp only [curveB, Bool.and_eq_true, List.all_eq_true, decide_eq_true_eq] at h
  have h0 := h.2 _ (List.getElem_mem (l := xs) (n := 0) (by omega))
  have h1 := h.2 _ (List.getElem_mem (l := xs) (n := xs.length - 1) (by omega))
  omega
theorem pumpB_kind {l : Lk} (h : pumpB l = true) : l.Kind = 4 := by
  simp only [pumpB, Bool.and_eq_true, decide_eq_true_eq] at h; exact h.1
theorem pumpB_curve {l : Lk} (h : pumpB l = true) : curveB l.Cu.xs = true := by
  have hk := pumpB_kind h
  simp only [pumpB, Bool.and_eq_true, lkB] at h
  have h2 := h.2.2
  rw [kindLkB, if_neg (by omega), if_neg (by omega), if_neg (by omega), if_pos hk] at h2
  simp only [Bool.and_eq_true] at h2
  exact h2.2

/-- The flow, as the program computes it. -/
def flV (xs : List Kn) (s d : Int) : Int := tabV xs d * s / 1000
theorem flV_bd {xs : List Kn} (h : curveB xs = true) {s d : Int} (hs : 0 ≤ s) (hs2 : s ≤ 1000) : 0 ≤ tabV xs d * s ∧ tabV xs d * s ≤ 1099511627776000 ∧ 0 ≤ flV xs s d ∧ flV xs s d ≤ 1099511627776 := by
  obtain ⟨b1, b2⟩ := curveB_bd h d
  have m1 : 0 ≤ tabV xs d * s := Int.mul_nonneg b1 hs
  have m2 : tabV xs d * s ≤ 1099511627776 * 1000 := Int.mul_le_mul b2 hs2 hs (by decide)
  unfold flV
  generalize tabV xs d * s = p at *
  omega

set_option maxRecDepth 100000 in
set_option maxHeartbeats 1000000 in
theorem pflow0_any (l : Lk) (s d : Int) (w : World) (hg : gLk w l) (hc : curveB l.Cu.xs = true) (hs : 0 ≤ s) (hs2 : s ≤ 1000) :
    Calls Tryz.prog 20 #[vLk l, .int .i64 s, .int .i64 d] w fun e w' => e = .returned (.tuple #[.int .i64 (flV l.Cu.xs s d), .int .i64 0]) ∧ Below w.heap.size w w' := by
  have hb0 : Below w.heap.size w (w.alloc (.cells (eLk l).toArray 25)) := (Below.refl _ _).alloc (Nat.le_refl _) _
  have hf := tfloor_any l.Cu.xs d (vSl l.Cu) _ ((rdLk.mono hg hb0).cu.isL) (curveB_tab hc)
  obtain ⟨m1, m2, m3, m4⟩ := flV_bd hc (d := d) hs hs2
  have x1 : IntKind.i64.wrap (tabV l.Cu.xs d * s) = tabV l.Cu.xs d * s := IntWalk.i64_in _ (by omega)
  have x2 : IntKind.i64.wrap ((tabV l.Cu.xs d * s).tdiv 1000) = flV l.Cu.xs s d := by
    rw [Int.tdiv_eq_ediv_of_nonneg m1]; exact IntWalk.i64_in _ (by unfold flV at m3 m4; omega)
  generalize flV l.Cu.xs s d = R at *
  obtain ⟨nm, fr, tt, kd, ln, up, dn, sc, wi, he, ⟨ca, cc, cxs⟩⟩ := l
  simp only at *
  generalize tabV cxs d = c at *
  clear m1 m2 m3 m4 hg hc hs hs2
  go_enter Tryz.func20, Tryz.ntmps20
  go_wp2_with fail
  refine Calls.go hb0 hf ?_
  rintro e w1 rfl _ hb1
  go_wp2_with fail
  go_ret2
  exact ⟨rfl, hb1⟩

/-- What Flow answers. -/
def flM (l : Lk) (s d : Int) : Int × Int := if pumpB l = false then (0, 1) else if (btwB s 0 1000 && btwB d 0 4194304) = false then (0, 2) else (flV l.Cu.xs s d, 0)

set_option maxRecDepth 100000 in
set_option maxHeartbeats 2000000 in
theorem pflow_any (l : Lk) (s d : Int) (w : World) (hg : gLk w l) :
    Calls Tryz.prog 6 #[vLk l, .int .i64 s, .int .i64 d] w fun e w' => e = .returned (.tuple #[.int .i64 (flM l s d).1, .int .i64 (flM l s d).2]) ∧ Below w.heap.size w w' := by
  have hb0 : Below w.heap.size w (w.alloc (.cells (eLk l).toArray 25)) := (Below.refl _ _).alloc (Nat.le_refl _) _
  have hg0 := rdLk.mono hg hb0
  have hpv := pvalid_any l _ hg0
  have hG := Lib.hid hg0
  have hbx := LkBx.new w l 25
  have hw1 := fun W => pwithin_any s 0 1000 W
  have hw2 := fun W => pwithin_any d 0 4194304 W
  cases hpb : pumpB l
  · have HR : Hid (flM l s d = (0, 1)) := by show _ = _; simp only [flM, hpb, if_true]
    rw [HR.out]
    rw [hpb] at hpv
    clear hpb hg hg0 hG hw1 hw2 hbx HR
    obtain ⟨nm, fr, tt, kd, ln, up, dn, sc, wi, he, cu⟩ := l
    go_enter Tryz.func6, Tryz.ntmps6
    go_wp2_with fail
    refine Calls.to hpv ?_
    rintro e w1 rfl hb1
    have hbb := hb0.trans (hb1.mono hb0.size)
    go_wp2_with fail
    go_ret2
    exact ⟨rfl, hbb⟩
  have hcv := pumpB_curve hpb
  rw [hpb] at hpv
  cases h1 : btwB s 0 1000
  · have HR : Hid (flM l s d = (0, 2)) := by show _ = _; simp [flM, hpb, h1]
    rw [HR.out]
    rw [h1] at hw1
    clear hpb hg hg0 hG hw2 hcv h1 hbx HR
    obtain ⟨nm, fr, tt, kd, ln, up, dn, sc, wi, he, cu⟩ := l
    go_enter Tryz.func6, Tryz.ntmps6
    go_wp2_with fail
    refine Calls.to hpv ?_
    rintro e w1 rfl hb1
    have hbb := hb0.trans (hb1.mono hb0.size)
    go_wp2_with fail
    refine (hw1 _).mono ?_
    rintro _ _ ⟨rfl, rfl⟩
    go_wp2_with fail
    go_ret2
    exact ⟨rfl, hbb⟩
  cases h2 : btwB d 0 4194304
  · have HR : Hid (flM l s d = (0, 2)) := by show _ = _; simp [flM, hpb, h1, h2]
    rw [HR.out]
    rw [h1] at hw1
    rw [h2] at hw2
    clear hpb hg hg0 hG hcv h1 h2 hbx HR
    obtain ⟨nm, fr, tt, kd, ln, up, dn, sc, wi, he, cu⟩ := l
    go_enter Tryz.func6, Tryz.ntmps6
    go_wp2_with fail
    refine Calls.to hpv ?_
    rintro e w1 rfl hb1
    have hbb := hb0.trans (hb1.mono hb0.size)
    go_wp2_with fail
    refine (hw1 _).mono ?_
    rintro _ _ ⟨rfl, rfl⟩
    go_wp2_with fail
    refine (hw2 _).mono ?_
    rintro _ _ ⟨rfl, rfl⟩
    go_wp2_with fail
    go_ret2
    exact ⟨rfl, hbb⟩
  have HR : Hid (flM l s d = (flV l.Cu.xs s d, 0)) := by show _ = _; simp [flM, hpb, h1, h2]
  rw [HR.out]
  rw [h1] at hw1
  rw [h2] at hw2
  simp only [btwB, Bool.and_eq_true, decide_eq_true_eq] at h1 h2
  have hfl := fun W hW => pflow0_any l s d W hW hcv h1.1 h1.2
  generalize flV l.Cu.xs s d = R at *
  clear hpb hg hg0 hcv h1 h2 HR
  obtain ⟨nm, fr, tt, kd, ln, up, dn, sc, wi, he, cu⟩ := l
  go_enter Tryz.func6, Tryz.ntmps6
  go_wp2_with fail
  refine Calls.to hpv ?_
  rintro e w1 rfl hb1
  have hbb := hb0.trans (hb1.mono hb0.size)
  have hgg := rdLk.mono hG.out hb1
  have hbx := hbx.mono hb1
  go_wp2_with fail
  refine (hw1 _).mono ?_
  rintro _ _ ⟨rfl, rfl⟩
  go_wp2_with fail
  refine (hw2 _).mono ?_
  rintro _ _ ⟨rfl, rfl⟩
  clear hw1 hw2 hpv
  obtain ⟨c0, c1, c2, c3, c4, c5, c6, c7, c8, c9, c10⟩ := hbx
  simp only at c0 c1 c2 c3 c4 c5 c6 c7 c8 c9 c10
  go_wp2_with fail
  refine Calls.go hbb (hfl _ hgg) ?_
  rintro e w2 rfl _ hb2
  go_wp2_with fail
  go_ret2
  exact ⟨rfl, hb2⟩

end Go.Proofs.YtmpegbebjefkaaaGreat
