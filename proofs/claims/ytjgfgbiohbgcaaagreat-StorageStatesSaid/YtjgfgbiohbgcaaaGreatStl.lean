/- table.Ceil; Level of a node, the program's side. Conditions: the table or the node reads as data. -/
import Derived.Test.YtjgfgbiohbgcaaaGreatTmo
import Derived.Test.YtjgfgbiohbgcaaaGreatMtm
import Derived.Test.YtjgfgbiohbgcaaaGreatSto
namespace Go.Proofs.YtjgfgbiohbgcaaaGreat
open Go.RowKit
set_option linter.unusedVariables false
set_option linter.unusedSimpArgs false

theorem tabV_range {xs : List Kn} (h : tabB xs = true) (x : Int) : -1125899906842624 ≤ tabV xs x ∧ tabV xs x ≤ 1125899906842624 := by
  have hl := tabB_len h
  obtain ⟨b1, b2⟩ := tabV_bd h x
  have t0 := tabB_at h 0 (by omega)
  have t1 := tabB_at h (xs.length - 1) (by omega)
  omega
/-- The level of a right node at a volume. -/
def levV (x : Nd) (v : Int) : Int := if x.Kind = 3 then x.Inv else x.Inv + mostV x.Sh.xs v
def levXM (x : Nd) (v : Int) : Int × Int := if ndB x = false then (0, 1) else if volB v = false then (0, 2) else (levV x v, 0)
/-- The knots at a shape's ends. -/
theorem shapeB_ends {xs : List Kn} {d : Int} (h : shapeB xs d = true) : ∃ hl : 0 < xs.length, (xs[0]'hl).X = 0 ∧ (xs[0]'hl).Y = 0 ∧ (xs[xs.length - 1]'(by omega)).X = d ∧ (xs[xs.length - 1]'(by omega)).Y = (lastK xs).Y := by
  simp only [shapeB, Bool.and_eq_true, decide_eq_true_eq] at h
  obtain ⟨⟨⟨ht, h0⟩, hd⟩, hl⟩ := h
  have hn := tabB_len ht
  have hh : 0 < xs.length := by omega
  rw [List.getD_eq_getElem?_getD, List.getElem?_eq_getElem hh] at h0
  rw [lastK_eq hn.1] at hd ⊢
  exact ⟨hh, h0.1, h0.2, hd, rfl⟩
theorem levV_bd {x : Nd} (h : ndB x = true) {v : Int} (hv : 0 ≤ v) : x.Inv ≤ levV x v ∧ levV x v ≤ x.Gr := by
  unfold levV
  by_cases hk : x.Kind = 3
  · rw [if_pos hk]
    refine ⟨Int.le_refl _, ?_⟩
    simp only [ndB, Bool.and_eq_true, kindNdB] at h
    have h2 := h.2
    rw [if_neg (by omega), if_pos hk] at h2
    simp only [Bool.and_eq_true, decide_eq_true_eq] at h2
    exact h2.1.1.1
  · rw [if_neg hk]
    obtain ⟨hlt, hs⟩ := ndB_shape h hk
    obtain ⟨hl, e1, e2, e3, e4⟩ := shapeB_ends hs
    have := mostV_bd (shapeB_bd hs 0).1 v (by omega)
    omega

set_option maxRecDepth 100000 in
set_option maxHeartbeats 1000000 in
theorem slev0_any (x : Nd) (n : Int) (w : World) (hg : gNd w x) (h : ndB x = true) (hn : volB n = true) : Calls Tryz.prog 41 #[vNd x, .int .i64 n] w fun e w' => e = .returned (.tuple #[.int .i64 (levV x n), .int .i64 0]) ∧ Below w.heap.size w w' := by
  have hb0 := alloc_below w (.cells (eNd x).toArray 27)
  by_cases hk : x.Kind = 3
  · have HV : Hid (levV x n = x.Inv) := by show _ = _; simp [levV, hk]
    rw [HV.out]
    have u : (x.Kind == 3) = true := beqT hk
    clear hg h hn
    obtain ⟨nm, kd, ax, ay, iv, gr, sh, pr, rs⟩ := x
    simp only at hk
    subst hk
    go_enter Tryz.func41, Tryz.ntmps41
    go_wp2_with fail
    go_ret2
    exact ⟨rfl, hb0⟩
  · have HV : Hid (levV x n = x.Inv + mostV x.Sh.xs n) := by show _ = _; simp [levV, hk]
    have u : (x.Kind == 3) = false := beqF hk
    obtain ⟨hlt, hs⟩ := ndB_shape h hk
    have hb := ndB_lv h
    simp only [volB, btwB, Bool.and_eq_true, decide_eq_true_eq] at hn
    have hlb := levV_bd h hn.1
    rw [HV.out] at hlb ⊢
    obtain ⟨hl, e1, e2, e3, e4⟩ := shapeB_ends hs
    have x1 : IntKind.i64.wrap (x.Inv + mostV x.Sh.xs n) = x.Inv + mostV x.Sh.xs n := IntWalk.i64_in _ (by omega)
    have hf := most_any x.Sh.xs n (vSl x.Sh) _ ((rdNd.mono hg hb0).sh.isL) (shapeB_bd hs 0).1 (by omega)
    have hbx := NdBx.new w x 27
    clear hg h hn hlt hs hb hk hlb e1 e2 e3 e4
    obtain ⟨nm, kd, ax, ay, iv, gr, ⟨ca, cc, cxs⟩, pr, rs⟩ := x
    simp only at hf x1 ⊢
    generalize mostV cxs n = R at *
    go_enter Tryz.func41, Tryz.ntmps41
    go_wp2_with fail
    refine Calls.go hb0 hf ?_
    rintro e w1 rfl hb1' hb1
    have c4 := (hbx.mono hb1').c4
    simp only at c4
    clear hb1' hbx
    go_wp2_with fail
    go_ret2
    exact ⟨rfl, hb1⟩

set_option maxRecDepth 100000 in
set_option maxHeartbeats 1000000 in
theorem slev_any (x : Nd) (n : Int) (w : World) (hg : gNd w x) : Calls Tryz.prog 8 #[vNd x, .int .i64 n] w fun e w' => e = .returned (.tuple #[.int .i64 (levXM x n).1, .int .i64 (levXM x n).2]) ∧ Below w.heap.size w w' := by
  have hb0 := alloc_below w (.cells (eNd x).toArray 27)
  have HG := Lib.hid (rdNd.mono hg hb0)
  have HBX := Lib.hid (NdBx.new w x 27)
  have hr := sright_any x _ (rdNd.mono hg hb0)
  have hre := fun W => sholds_any n W
  have hv := fun W (hW : gNd W x) h1 h2 => slev0_any x n W hW h1 h2
  obtain ⟨⟨R, E⟩, hres⟩ : ∃ r, levXM x n = r := ⟨_, rfl⟩
  have HRES := Lib.hid hres
  rw [hres]
  clear hg hres
  cases h1 : ndB x
  · have h2 := HRES.out.symm.trans (show levXM x n = (0, 1) from by simp only [levXM, h1, if_true])
    simp only [Prod.mk.injEq] at h2
    obtain ⟨rfl, rfl⟩ := h2
    rw [h1] at hr
    clear hv hre h1 HRES
    obtain ⟨nm, kd, ax, ay, iv, gr, sh, pr, rs⟩ := x
    obtain ⟨c0, c1, c2, c3, c4, c5, c6, c7, c8⟩ := HBX.out
    simp only at c0 c1 c2 c3 c4 c5 c6 c7 c8
    go_enter Tryz.func8, Tryz.ntmps8
    go_wp2_with fail
    refine Calls.go hb0 hr ?_
    rintro e w1 rfl _ hb1
    go_wp2_with fail
    go_ret2
    exact ⟨rfl, hb1⟩
  rw [h1] at hr
  cases h2 : volB n
  · have h3 := HRES.out.symm.trans (show levXM x n = (0, 2) from by simp only [levXM, h1, h2]; rfl)
    simp only [Prod.mk.injEq] at h3
    obtain ⟨rfl, rfl⟩ := h3
    rw [h2] at hre
    clear hv h1 h2 HRES
    obtain ⟨nm, kd, ax, ay, iv, gr, sh, pr, rs⟩ := x
    obtain ⟨c0, c1, c2, c3, c4, c5, c6, c7, c8⟩ := HBX.out
    simp only at c0 c1 c2 c3 c4 c5 c6 c7 c8
    go_enter Tryz.func8, Tryz.ntmps8
    go_wp2_with fail
    refine Calls.go hb0 hr ?_
    rintro e w1 rfl hb1' hb1
    have HBX := Lib.hid (HBX.out.mono hb1')
    clear hb1' c0 c1 c2 c3 c4 c5 c6 c7 c8
    obtain ⟨c0, c1, c2, c3, c4, c5, c6, c7, c8⟩ := HBX.out
    simp only at c0 c1 c2 c3 c4 c5 c6 c7 c8
    go_wp2_with fail
    refine (hre _).mono ?_
    rintro _ _ ⟨rfl, rfl⟩
    go_wp2_with fail
    go_ret2
    exact ⟨rfl, hb1⟩
  have h3 := HRES.out.symm.trans (show levXM x n = (levV x n, 0) from by simp only [levXM, h1, h2]; rfl)
  simp only [Prod.mk.injEq] at h3
  obtain ⟨rfl, rfl⟩ := h3
  rw [h2] at hre
  have hv := fun W hW => hv W hW h1 h2
  clear h1 h2 HRES
  generalize levV x n = R at *
  obtain ⟨nm, kd, ax, ay, iv, gr, sh, pr, rs⟩ := x
  obtain ⟨c0, c1, c2, c3, c4, c5, c6, c7, c8⟩ := HBX.out
  simp only at c0 c1 c2 c3 c4 c5 c6 c7 c8
  go_enter Tryz.func8, Tryz.ntmps8
  go_wp2_with fail
  refine Calls.go hb0 hr ?_
  rintro e w1 rfl hb1' hb1
  have HBX := Lib.hid (HBX.out.mono hb1')
  have HG := Lib.hid (rdNd.mono HG.out hb1')
  clear hb1' c0 c1 c2 c3 c4 c5 c6 c7 c8
  obtain ⟨c0, c1, c2, c3, c4, c5, c6, c7, c8⟩ := HBX.out
  simp only at c0 c1 c2 c3 c4 c5 c6 c7 c8
  go_wp2_with fail
  refine (hre _).mono ?_
  rintro _ _ ⟨rfl, rfl⟩
  go_wp2_with fail
  refine Calls.go hb1 (hv _ HG.out) ?_
  rintro e w3 rfl _ hb3
  go_wp2_with fail
  go_ret2
  exact ⟨rfl, hb3⟩

end Go.Proofs.YtjgfgbiohbgcaaaGreat
