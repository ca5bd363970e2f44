/- Filling a node: storage.Fill where it answers with an error for a right state. Conditions: the arguments read as data. -/
import Derived.Test.YtjgfgbiohbgcaaaGreatSfc
namespace Go.Proofs.YtjgfgbiohbgcaaaGreat
open Go.RowKit
set_option linter.unusedVariables false
set_option linter.unusedSimpArgs false

set_option maxRecDepth 100000 in
set_option maxHeartbeats 32000000 in
theorem fill_no (n : Net) (s : St) (k : Nat) (a : Int) (w : World) (hg : gNet w n) (hgs : gSt w s) (hnv : netB n = true) (hsv : stB n s = true) (hk : k < n.Ns.xs.length) (ha : volB a = true) (hne : (fillG n (stL s) k a).2 ≠ 0) : Calls Tryz.prog 28 #[vNet n, vSt s, .int .i64 (k : Int), .int .i64 a] w fun e w' =>
    (∃ s', e = .returned (.tuple #[vSt s', .int .i64 (fillG n (stL s) k a).2]) ∧ gSt w' s' ∧ stL s' = (fillG n (stL s) k a).1) ∧ Below w.heap.size w w' := by
  obtain ⟨⟨na, nc, nxs⟩, ⟨la, lc, lxs⟩⟩ := n
  obtain ⟨⟨va, vc, vs⟩, ⟨pa, pc, ps⟩, ⟨ea, ec, ss⟩, ⟨oa, oc, os⟩⟩ := s
  have hb0 : Below w.heap.size w ((w.alloc (.cells #[.slice na nxs.length nc, .slice la lxs.length lc] 42)).alloc (.cells #[.slice va vs.length vc, .slice pa ps.length pc, .slice ea ss.length ec, .slice oa os.length oc] 54)) := ((Below.refl _ _).alloc (Nat.le_refl _) _).alloc (by simp) _
  have hb0' := hb0.alloc (o := .cells #[.slice none 0 0, .slice none 0 0, .slice none 0 0, .slice none 0 0] 54) (by simp; omega)
  have HOX : Hid (OutBx (((w.alloc (.cells #[.slice na nxs.length nc, .slice la lxs.length lc] 42)).alloc (.cells #[.slice va vs.length vc, .slice pa ps.length pc, .slice ea ss.length ec, .slice oa os.length oc] 54)).alloc (.cells #[.slice none 0 0, .slice none 0 0, .slice none 0 0, .slice none 0 0] 54)) (w.heap.size + 1 + 1) nilSt) := by
    have h := OutBx.new ((w.alloc (.cells #[.slice na nxs.length nc, .slice la lxs.length lc] 42)).alloc (.cells #[.slice va vs.length vc, .slice pa ps.length pc, .slice ea ss.length ec, .slice oa os.length oc] 54)) nilSt 54
    rw [show ((w.alloc (.cells #[.slice na nxs.length nc, .slice la lxs.length lc] 42)).alloc (.cells #[.slice va vs.length vc, .slice pa ps.length pc, .slice ea ss.length ec, .slice oa os.length oc] 54)).heap.size = w.heap.size + 1 + 1 from by simp] at h
    exact Lib.hid h
  have HBX : Hid (StBx ((w.alloc (.cells #[.slice na nxs.length nc, .slice la lxs.length lc] 42)).alloc (.cells #[.slice va vs.length vc, .slice pa ps.length pc, .slice ea ss.length ec, .slice oa os.length oc] 54)) (w.heap.size + 1) ⟨⟨va, vc, vs⟩, ⟨pa, pc, ps⟩, ⟨ea, ec, ss⟩, ⟨oa, oc, os⟩⟩) := by
    have h := StBx.new (w.alloc (.cells #[.slice na nxs.length nc, .slice la lxs.length lc] 42)) ⟨⟨va, vc, vs⟩, ⟨pa, pc, ps⟩, ⟨ea, ec, ss⟩, ⟨oa, oc, os⟩⟩ 54
    rw [show (w.alloc (.cells #[.slice na nxs.length nc, .slice la lxs.length lc] 42)).heap.size = w.heap.size + 1 from by simp] at h
    exact Lib.hid h
  have HB0 := Lib.hid (HBX.out.mono (alloc_below _ (.cells #[.slice none 0 0, .slice none 0 0, .slice none 0 0, .slice none 0 0] 54)))
  have hva := svalid_any ⟨⟨na, nc, nxs⟩, ⟨la, lc, lxs⟩⟩ ⟨⟨va, vc, vs⟩, ⟨pa, pc, ps⟩, ⟨ea, ec, ss⟩, ⟨oa, oc, os⟩⟩ _ (rdNet.mono hg hb0') (rdSt.mono hgs hb0')
  rw [show (netB ⟨⟨na, nc, nxs⟩, ⟨la, lc, lxs⟩⟩ && stB ⟨⟨na, nc, nxs⟩, ⟨la, lc, lxs⟩⟩ ⟨⟨va, vc, vs⟩, ⟨pa, pc, ps⟩, ⟨ea, ec, ss⟩, ⟨oa, oc, os⟩⟩) = true from by rw [hnv, hsv]; rfl] at hva
  have HE := Lib.hid (boxNet w · 42 ⟨⟨na, nc, nxs⟩, ⟨la, lc, lxs⟩⟩ _ rfl _ rfl)
  have hls := stB_lens hsv
  simp only at hk hls
  have kv : k < vs.length := by omega
  have kp : k < ps.length := by omega
  have hat := st_at hnv hsv k hk kv kp
  simp only at hat
  have hok := ndB_knot (netB_nd hnv k hk).1
  simp only at hok
  have hln : nxs.length ≤ 300 ∧ lxs.length ≤ 400 := by simp [netB] at hnv; omega
  obtain ⟨⟨R, E⟩, hres⟩ : ∃ r, fillG ⟨⟨na, nc, nxs⟩, ⟨la, lc, lxs⟩⟩ (stL ⟨⟨va, vc, vs⟩, ⟨pa, pc, ps⟩, ⟨ea, ec, ss⟩, ⟨oa, oc, os⟩⟩) k a = r := ⟨_, rfl⟩
  rw [hres] at hne ⊢
  have HNE := Lib.hid hne
  clear hne
  have HR : Hid ((R, E) = if nxs[k].Kind = 3 then (noSt, 11) else if 1125899906842624 < ps[k] + (a - inV (capB nxs[k]) vs[k] a) then (noSt, 5)
      else ((vs.set k (vs[k] + inV (capB nxs[k]) vs[k] a), ps.set k (ps[k] + (a - inV (capB nxs[k]) vs[k] a)), ss, os), 0)) := by
    refine Lib.hid (hres.symm.trans ?_)
    simp only [fillG, ndAt, stL, List.getD, List.getElem?_eq_getElem hk, List.getElem?_eq_getElem kv, List.getElem?_eq_getElem kp, Option.getD_some]
  clear hres hnv hsv
  have ha' : 0 ≤ a ∧ a ≤ 1125899906842624 := by simpa [volB, btwB] using ha
  have hho := fun W => holds_lit ha W
  have HLN := Lib.hid hln
  have HLS := Lib.hid hls
  have hN := hg.1.2.2
  have hV := hgs.1
  have hP := hgs.2.1
  have hS := hgs.2.2.1
  have hO := hgs.2.2.2
  simp only at hN
  clear ha hls hln hg hgs
  simp only
  simp only [vNet, vSt, vSl] at hva ⊢
  have u1 : decide ((k : Int) < 0) = false := by simp
  have u2 : decide ((nxs.length : Int) ≤ (k : Int)) = false := by simp; omega
  have u2' : decide (nxs.length ≤ k) = false := by simp; omega
  go_enter Tryz.func28, Tryz.ntmps28
  go_wp2_with fail
  refine Calls.go hb0' hva ?_
  rintro e w1 rfl hb1' hb1
  have HO1 := Lib.hid (HOX.out.mono hb1')
  have HB1 := Lib.hid (HB0.out.mono hb1')
  clear HOX HB0 HBX
  obtain ⟨e0, e1⟩ := HE.out w1 (((Below.refl _ _).alloc (by simp) _ |>.alloc (by simp) _).trans (hb1'.mono (by simp)))
  obtain ⟨b, off, rfl, c0, c1, c2, c3, c4, c5, c6, c7, c8⟩ := (hN.1.mono hb1).nd k hk
  obtain ⟨vb, vo, rfl, cv⟩ := (hV.2.2.1.mono hb1).int k kv
  obtain ⟨pb, po, rfl, cp⟩ := (hP.2.2.1.mono hb1).int k kp
  have gx := rdNd.mono (hN.2 _ (List.getElem_mem hk)) hb1
  simp only [vSl] at e0 e1 cv cp
  clear hb1' hva hb0' hb0 HE
  generalize nxs[k] = x at *
  generalize hvk : vs[k] = v at *
  generalize hpk : ps[k] = p at *
  have HVK := Lib.hid hvk
  have HPK := Lib.hid hpk
  clear hvk hpk
  by_cases k3 : x.Kind = 3
  · have u3 := beqT k3
    have h2 := HR.out
    rw [if_pos k3] at h2
    simp only [noSt, Prod.mk.injEq] at h2
    obtain ⟨rfl, rfl⟩ := h2
    clear HR hok hat gx
    go_wp2_with fail
    refine (hho _).mono ?_
    rintro _ _ ⟨rfl, rfl⟩
    obtain ⟨⟨o0, o1, o2, o3⟩, of⟩ := HO1.out
    have of0 := of 0
    have of1 := of 1
    have of2 := of 2
    have of3 := of 3
    clear of
    simp only [vSl, nilSt] at o0 o1 o2 o3
    go_wp2_with fail
    refine bodyPost_ret (v := .tuple #[.agg #[.slice none 0 0, .slice none 0 0, .slice none 0 0, .slice none 0 0], .int .i64 11]) (by simp (maxDischargeDepth := 9) [results, Tryz.results28, go_sem, o0, o1, o2, o3]) rfl ⟨⟨nilSt, rfl, gSt_nil _, rfl⟩, by repeat' (first | exact Below.refl _ _ | assumption | refine Below.more ?_ ?_ _ | refine Below.alloc ?_ ?_ _ | refine Below.drew ?_ | refine below_drewN ?_ _ | refine Below.setCell ?_ ?_ _ | exact Below.size (by assumption) | (simp [go_sem, size_more]; done) | (simp [go_sem, size_more]; omega))⟩
  have u3 := beqF k3
  have h2 := HR.out
  rw [if_neg k3] at h2
  have HR := Lib.hid h2
  clear h2 k3
  obtain ⟨c, hc⟩ : ∃ c, capB x = c := ⟨_, rfl⟩
  rw [hc] at hat HR
  have HC := Lib.hid hc
  clear hc
  obtain ⟨f0, f1, f2, f3⟩ := HB1.out
  simp only [vSl] at f0 f1 f2 f3
  obtain ⟨IN, hIN⟩ : ∃ IN, inV c v a = IN := ⟨_, rfl⟩
  rw [hIN] at HR
  have hin := in_bd (c := c) (v := v) (a := a) (by omega) (by omega)
  rw [hIN] at hin
  have x0 : IntKind.i64.wrap (c - v) = c - v := IntWalk.i64_in _ (by omega)
  have x1 : IntKind.i64.wrap (p + a) = p + a := IntWalk.i64_in _ (by omega)
  have x2 : IntKind.i64.wrap (p + a - IN) = p + a - IN := IntWalk.i64_in _ (by omega)
  have hmn : min a (c - v) = IN := hIN
  clear hIN
  by_cases k5 : 1125899906842624 < p + (a - IN)
  · have u5 : decide (1125899906842624 < p + a - IN) = true := by rw [decide_eq_true_iff]; omega
    have h2 := HR.out
    rw [if_pos k5] at h2
    simp only [noSt, Prod.mk.injEq] at h2
    obtain ⟨rfl, rfl⟩ := h2
    clear HR k5 hat
    go_wp2_with fail
    refine (hho _).mono ?_
    rintro _ w2 ⟨rfl, hW⟩
    subst w2
    go_wp2_with fail
    refine wp_region_more_lit (by kernel_rfl) (by kernel_rfl) ?_
    repeat (go_big_quiet_step ((go_at_call 39; exact Calls.more_of (cap_lit HC.out _ (rdNd.mono gx (below_more _ _)) hok))))
    refine wpQuiet_nil ?_
    intro _ hwq
    obtain ⟨xq, hwq⟩ := hwq
    subst hwq
    have hbq := below_more w1 xq
    have HO2 := Lib.hid (HO1.out.mono hbq)
    have HB2 := Lib.hid (HB1.out.mono hbq)
    have hb2 := hb1.trans (hbq.mono hb1.size)
    have cv' := stbx_lt cv hbq
    have cp' := stbx_lt cp hbq
    clear HO1 HB1 hbq gx e0 e1
    obtain ⟨⟨o0, o1, o2, o3⟩, of⟩ := HO2.out
    have of0 := of 0
    have of1 := of 1
    have of2 := of 2
    have of3 := of 3
    clear of
    simp only [vSl, nilSt] at o0 o1 o2 o3
    go_wp2_with fail
    refine bodyPost_ret (v := .tuple #[.agg #[.slice none 0 0, .slice none 0 0, .slice none 0 0, .slice none 0 0], .int .i64 5]) (by simp (maxDischargeDepth := 9) [results, Tryz.results28, go_sem, o0, o1, o2, o3]) rfl ⟨⟨nilSt, rfl, gSt_nil _, rfl⟩, by repeat' (first | exact Below.refl _ _ | assumption | refine Below.more ?_ ?_ _ | refine Below.alloc ?_ ?_ _ | refine Below.drew ?_ | refine below_drewN ?_ _ | refine Below.setCell ?_ ?_ _ | exact Below.size (by assumption) | (simp [go_sem, size_more]; done) | (simp [go_sem, size_more]; omega))⟩
  exfalso
  have h2 := HR.out
  rw [if_neg k5] at h2
  simp only [Prod.mk.injEq] at h2
  exact HNE.out h2.2

end Go.Proofs.YtjgfgbiohbgcaaaGreat
