/- Filling a node: the reference's Fill, walked. Conditions: the arguments read as data, network and state are right. -/
import Derived.Test.YtjgfgbiohbgcaaaGreatRfi
namespace Go.Proofs.YtjgfgbiohbgcaaaGreat
open Go.RowKit
set_option linter.unusedVariables false
set_option linter.unusedSimpArgs false

theorem OutBx.far {w : World} {B : Nat} {s : St} (h : OutBx w B s) (a : Addr) (u : Value) (ha : B ≠ a.block) : OutBx (w.setCell a u) B s :=
  ⟨⟨cell_far h.cells.c0 a u ha, cell_far h.cells.c1 a u ha, cell_far h.cells.c2 a u ha, cell_far h.cells.c3 a u ha⟩, fun j => (World.frozen?_of_block (w := w) (Below.heap_setCell _ _ _ _ ha)).trans (h.free j)⟩

set_option maxRecDepth 100000 in
set_option maxHeartbeats 16000000 in
theorem r29fill_any (n : Net) (s : St) (i a : Int) (w : World) (hg : gNet w n) (hgs : gSt w s) (hnv : netB n = true) (hsv : stB n s = true) : Calls Tryz.prog 33 #[vNet n, vSt s, .int .i64 i, .int .i64 a] w fun e w' =>
    (∃ s', e = .returned (.tuple #[vSt s', .int .i64 (fillM n s i a).2]) ∧ gSt w' s' ∧ stL s' = (fillM n s i a).1) ∧ Below w.heap.size w w' := by
  have hls := stB_lens hsv
  have hln : n.Ns.xs.length ≤ 300 ∧ n.Ls.xs.length ≤ 400 := by simp [netB] at hnv; omega
  have hco := fun W (hW : gSt W s) => r29copy_any s W hW (by omega) (by omega) (by omega) (by omega)
  obtain ⟨⟨na, nc, nxs⟩, ⟨la, lc, lxs⟩⟩ := n
  obtain ⟨⟨va, vc, vs⟩, ⟨pa, pc, ps⟩, ⟨ea, ec, ss⟩, ⟨oa, oc, os⟩⟩ := s
  have hb0 : Below w.heap.size w (((w.alloc (.cells #[.slice na nxs.length nc, .slice la lxs.length lc] 42)).alloc (.cells #[.slice va vs.length vc, .slice pa ps.length pc, .slice ea ss.length ec, .slice oa os.length oc] 54)).alloc (.cells #[.slice none 0 0, .slice none 0 0, .slice none 0 0, .slice none 0 0] 54)) := (((Below.refl _ _).alloc (Nat.le_refl _) _).alloc (by simp) _).alloc (by simp; omega) _
  have HO : Hid (OutBx (((w.alloc (.cells #[.slice na nxs.length nc, .slice la lxs.length lc] 42)).alloc (.cells #[.slice va vs.length vc, .slice pa ps.length pc, .slice ea ss.length ec, .slice oa os.length oc] 54)).alloc (.cells #[.slice none 0 0, .slice none 0 0, .slice none 0 0, .slice none 0 0] 54)) (w.heap.size + 1 + 1) nilSt) := by
    have h := OutBx.new ((w.alloc (.cells #[.slice na nxs.length nc, .slice la lxs.length lc] 42)).alloc (.cells #[.slice va vs.length vc, .slice pa ps.length pc, .slice ea ss.length ec, .slice oa os.length oc] 54)) nilSt 54
    rw [show ((w.alloc (.cells #[.slice na nxs.length nc, .slice la lxs.length lc] 42)).alloc (.cells #[.slice va vs.length vc, .slice pa ps.length pc, .slice ea ss.length ec, .slice oa os.length oc] 54)).heap.size = w.heap.size + 1 + 1 from by simp] at h
    exact Lib.hid h
  have HS : Hid (StBx (((w.alloc (.cells #[.slice na nxs.length nc, .slice la lxs.length lc] 42)).alloc (.cells #[.slice va vs.length vc, .slice pa ps.length pc, .slice ea ss.length ec, .slice oa os.length oc] 54)).alloc (.cells #[.slice none 0 0, .slice none 0 0, .slice none 0 0, .slice none 0 0] 54)) (w.heap.size + 1) ⟨⟨va, vc, vs⟩, ⟨pa, pc, ps⟩, ⟨ea, ec, ss⟩, ⟨oa, oc, os⟩⟩) := by
    have h := StBx.new (w.alloc (.cells #[.slice na nxs.length nc, .slice la lxs.length lc] 42)) ⟨⟨va, vc, vs⟩, ⟨pa, pc, ps⟩, ⟨ea, ec, ss⟩, ⟨oa, oc, os⟩⟩ 54
    rw [show (w.alloc (.cells #[.slice na nxs.length nc, .slice la lxs.length lc] 42)).heap.size = w.heap.size + 1 from by simp] at h
    exact Lib.hid (h.mono (alloc_below _ _))
  have HE := Lib.hid (boxNet w · 42 ⟨⟨na, nc, nxs⟩, ⟨la, lc, lxs⟩⟩ _ rfl _ rfl)
  obtain ⟨⟨R, E⟩, hres⟩ : ∃ r, fillM ⟨⟨na, nc, nxs⟩, ⟨la, lc, lxs⟩⟩ ⟨⟨va, vc, vs⟩, ⟨pa, pc, ps⟩, ⟨ea, ec, ss⟩, ⟨oa, oc, os⟩⟩ i a = r := ⟨_, rfl⟩
  rw [hres]
  simp only
  simp only [vNet, vSt, vSl] at hco ⊢
  have hW3 : Below (w.heap.size + 1) (w.alloc (.cells #[.slice na nxs.length nc, .slice la lxs.length lc] 42)) (((w.alloc (.cells #[.slice na nxs.length nc, .slice la lxs.length lc] 42)).alloc (.cells #[.slice va vs.length vc, .slice pa ps.length pc, .slice ea ss.length ec, .slice oa os.length oc] 54)).alloc (.cells #[.slice none 0 0, .slice none 0 0, .slice none 0 0, .slice none 0 0] 54)) := ((Below.refl _ _).alloc (by simp) _).alloc (by simp) _
  obtain ⟨e0, e1⟩ := HE.out _ hW3
  clear hW3
  simp only [vSl] at e0 e1
  unfold fillM at hres
  rw [if_neg (by rw [hnv, hsv]; simp)] at hres
  by_cases ho : outB ⟨⟨na, nc, nxs⟩, ⟨la, lc, lxs⟩⟩ i a = true
  · rw [if_pos ho] at hres
    simp only [noSt, Prod.mk.injEq] at hres
    obtain ⟨rfl, rfl⟩ := hres
    simp only [outB, Bool.or_eq_true, Bool.not_eq_true'] at ho
    clear hg hgs hnv hsv hls hln hco HS
    obtain ⟨⟨o0, o1, o2, o3⟩, of⟩ := HO.out
    have of0 := of 0
    have of1 := of 1
    have of2 := of 2
    have of3 := of 3
    clear of
    simp only [vSl, nilSt] at o0 o1 o2 o3
    cases u1 : decide (i < 0)
    rotate_left
    · go_enter Tryz.func33, Tryz.ntmps33
      go_wp2_with fail
      refine bodyPost_ret (v := .tuple #[.agg #[.slice none 0 0, .slice none 0 0, .slice none 0 0, .slice none 0 0], .int .i64 2]) (by simp (maxDischargeDepth := 9) [results, Tryz.results33, go_sem, o0, o1, o2, o3]) rfl ⟨⟨nilSt, rfl, gSt_nil _, rfl⟩, by repeat' (first | exact Below.refl _ _ | assumption | refine Below.more ?_ ?_ _ | refine Below.alloc ?_ ?_ _ | refine Below.drew ?_ | refine below_drewN ?_ _ | refine Below.setCell ?_ ?_ _ | exact Below.size (by assumption) | (simp [go_sem, size_more]; done) | (simp [go_sem, size_more]; omega))⟩
    · obtain ⟨k, rfl⟩ : ∃ k : Nat, i = (k : Int) := ⟨i.toNat, by simp at u1; omega⟩
      cases u2 : decide ((nxs.length : Int) ≤ (k : Int))
      rotate_left
      · have u2' : decide (nxs.length ≤ k) = true := by simpa using u2
        go_enter Tryz.func33, Tryz.ntmps33
        go_wp2_with fail
        refine bodyPost_ret (v := .tuple #[.agg #[.slice none 0 0, .slice none 0 0, .slice none 0 0, .slice none 0 0], .int .i64 2]) (by simp (maxDischargeDepth := 9) [results, Tryz.results33, go_sem, o0, o1, o2, o3]) rfl ⟨⟨nilSt, rfl, gSt_nil _, rfl⟩, by repeat' (first | exact Below.refl _ _ | assumption | refine Below.more ?_ ?_ _ | refine Below.alloc ?_ ?_ _ | refine Below.drew ?_ | refine below_drewN ?_ _ | refine Below.setCell ?_ ?_ _ | exact Below.size (by assumption) | (simp [go_sem, size_more]; done) | (simp [go_sem, size_more]; omega))⟩
      · have u2' : decide (nxs.length ≤ k) = false := by simpa using u2
        have u3 : volB a = false := by
          rcases ho with h | h
          · rcases h with h | h
            · rw [u1] at h; cases h
            · rw [u2] at h; cases h
          · exact h
        have hho := fun W => rvol_lit u3 W
        clear ho u3
        go_enter Tryz.func33, Tryz.ntmps33
        go_wp2_with fail
        refine (hho _).mono ?_
        rintro _ w2 ⟨rfl, hW⟩
        subst w2
        go_wp2_with fail
        refine bodyPost_ret (v := .tuple #[.agg #[.slice none 0 0, .slice none 0 0, .slice none 0 0, .slice none 0 0], .int .i64 2]) (by simp (maxDischargeDepth := 9) [results, Tryz.results33, go_sem, o0, o1, o2, o3]) rfl ⟨⟨nilSt, rfl, gSt_nil _, rfl⟩, by repeat' (first | exact Below.refl _ _ | assumption | refine Below.more ?_ ?_ _ | refine Below.alloc ?_ ?_ _ | refine Below.drew ?_ | refine below_drewN ?_ _ | refine Below.setCell ?_ ?_ _ | exact Below.size (by assumption) | (simp [go_sem, size_more]; done) | (simp [go_sem, size_more]; omega))⟩
  rw [if_neg ho] at hres
  have ho' : outB ⟨⟨na, nc, nxs⟩, ⟨la, lc, lxs⟩⟩ i a = false := by simpa using ho
  simp [outB] at ho'
  obtain ⟨k, rfl⟩ : ∃ k : Nat, i = (k : Int) := ⟨i.toNat, by omega⟩
  rw [Int.toNat_natCast] at hres
  have hk : k < nxs.length := by omega
  have ha : volB a = true := ho'.2
  simp only at hls hln
  have kv : k < vs.length := by omega
  have kp : k < ps.length := by omega
  have hat := st_at hnv hsv k hk kv kp
  simp only at hat
  have hok := ndB_knot (netB_nd hnv k hk).1
  simp only at hok
  have HR : Hid ((R, E) = if nxs[k].Kind = 3 then (noSt, 11) else if 1125899906842624 < ps[k] + (a - inV (capB nxs[k]) vs[k] a) then (noSt, 5)
      else ((vs.set k (vs[k] + inV (capB nxs[k]) vs[k] a), ps.set k (ps[k] + (a - inV (capB nxs[k]) vs[k] a)), ss, os), 0)) := by
    refine Lib.hid (hres.symm.trans ?_)
    simp only [fillG, ndAt, stL, List.getD, List.getElem?_eq_getElem hk, List.getElem?_eq_getElem kv, List.getElem?_eq_getElem kp, Option.getD_some]
  have ha' : 0 ≤ a ∧ a ≤ 1125899906842624 := by simpa [volB, btwB] using ha
  have hho := fun W => rvol_lit ha W
  have u1 : decide ((k : Int) < 0) = false := by simp
  have u2 : decide ((nxs.length : Int) ≤ (k : Int)) = false := by simp; omega
  have u2' : decide (nxs.length ≤ k) = false := by simp; omega
  have hNI := hg.1.2.2.1
  have gx := rdNd.mono (hg.1.2.2.2 _ (List.getElem_mem hk)) hb0
  have gS0 := rdSt.mono hgs hb0
  have gV := hgs.1.2.2.2
  have gP := hgs.2.1.2.2.2
  have gSS := hgs.2.2.1.2.2.2
  have hVI := hgs.1.2.2.1
  simp only at gV gP gSS hNI
  obtain ⟨b, off, rfl, c0, c1, c2, c3, c4, c5, c6, c7, c8⟩ := (hNI.mono hb0).nd k hk
  obtain ⟨vb, vo, rfl, cv⟩ := (hVI.mono hb0).int k kv
  simp only at cv
  clear hg hgs hnv hsv hls hln hres ho ho' ha HE hNI hVI
  generalize hvk : vs[k] = v at *
  generalize hpk : ps[k] = p at *
  generalize nxs[k] = x at *
  have HVK := Lib.hid hvk
  have HPK := Lib.hid hpk
  clear hvk hpk
  by_cases k3 : x.Kind = 3
  · have u3 := beqT k3
    have h2 := HR.out
    rw [if_pos k3] at h2
    simp only [noSt, Prod.mk.injEq] at h2
    obtain ⟨rfl, rfl⟩ := h2
    clear HR hok hat gx hco gS0 HS
    obtain ⟨⟨o0, o1, o2, o3⟩, of⟩ := HO.out
    have of0 := of 0
    have of1 := of 1
    have of2 := of 2
    have of3 := of 3
    clear of
    simp only [vSl, nilSt] at o0 o1 o2 o3
    go_enter Tryz.func33, Tryz.ntmps33
    go_wp2_with fail
    refine (hho _).mono ?_
    rintro _ w2 ⟨rfl, hW⟩
    subst w2
    go_wp2_with fail
    refine bodyPost_ret (v := .tuple #[.agg #[.slice none 0 0, .slice none 0 0, .slice none 0 0, .slice none 0 0], .int .i64 11]) (by simp (maxDischargeDepth := 9) [results, Tryz.results33, go_sem, o0, o1, o2, o3]) rfl ⟨⟨nilSt, rfl, gSt_nil _, rfl⟩, by repeat' (first | exact Below.refl _ _ | assumption | refine Below.more ?_ ?_ _ | refine Below.alloc ?_ ?_ _ | refine Below.drew ?_ | refine below_drewN ?_ _ | refine Below.setCell ?_ ?_ _ | exact Below.size (by assumption) | (simp [go_sem, size_more]; done) | (simp [go_sem, size_more]; omega))⟩
  have u3 := beqF k3
  have h2 := HR.out
  rw [if_neg k3] at h2
  have HR := Lib.hid h2
  clear h2 k3
  obtain ⟨c, hc⟩ : ∃ c, capB x = c := ⟨_, rfl⟩
  rw [hc] at hat HR
  have HC := Lib.hid hc
  clear hc
  obtain ⟨f0, f1, f2, f3⟩ := HS.out
  simp only [vSl] at f0 f1 f2 f3
  obtain ⟨IN, hIN⟩ : ∃ IN, inV c v a = IN := ⟨_, rfl⟩
  rw [hIN] at HR
  have hin := in_bd (c := c) (v := v) (a := a) (by omega) (by omega)
  rw [hIN] at hin
  have x0 : IntKind.i64.wrap (c - v) = c - v := IntWalk.i64_in _ (by omega)
  have x1 : IntKind.i64.wrap (v + IN) = v + IN := IntWalk.i64_in _ (by omega)
  have x2 : IntKind.i64.wrap (p + a) = p + a := IntWalk.i64_in _ (by omega)
  have x3 : IntKind.i64.wrap (p + a - IN) = p + a - IN := IntWalk.i64_in _ (by omega)
  have hmn : min a (c - v) = IN := hIN
  clear hIN
  go_enter Tryz.func33, Tryz.ntmps33
  go_wp2_with fail
  refine (hho _).mono ?_
  rintro _ w2 ⟨rfl, hW⟩
  subst w2
  go_wp2_with fail
  refine Calls.go hb0 (hco _ gS0) ?_
  rintro e w1 ⟨uV, uP, uS, uO, lV, hV, lP, hP, lS, hS, lO, hO, rfl, hC⟩ hb1' hb1
  obtain ⟨gV', cV, rfl, hgV1, hgV2, _⟩ := hC.V.first k kv
  obtain ⟨gP', cP, rfl, hgP1, hgP2, _⟩ := hC.P.first k kp
  obtain ⟨aS, cS, rfl⟩ := hC.S.isSlice
  obtain ⟨aO, cO, rfl⟩ := hC.O.isSlice
  simp only at hC ⊢
  go_wp2_with fail
  have hal := alloc_below w1 (.cells #[.slice (some ⟨gV', 0, none⟩) vs.length cV, .slice (some ⟨gP', 0, none⟩) ps.length cP, .slice aS ss.length cS, .slice aO os.length cO] 54)
  have hbq := hb1'.trans (hal.mono hb1'.size)
  have hb2 := hb0.trans (hbq.mono hb0.size)
  have e0 := stbx_lt e0 hbq
  have f0 := stbx_lt f0 hbq
  have c0 := stbx_lt c0 hbq
  have c1 := stbx_lt c1 hbq
  have c2 := stbx_lt c2 hbq
  have c3 := stbx_lt c3 hbq
  have c4 := stbx_lt c4 hbq
  have c5 := stbx_lt c5 hbq
  have c6 := stbx_lt c6 hbq
  have c7 := stbx_lt c7 hbq
  have c8 := stbx_lt c8 hbq
  have cv := stbx_lt cv hbq
  have gx := rdNd.mono gx hbq
  have HO2 := Lib.hid (HO.out.mono hbq)
  have hC2 := hC.of.mono hal
  have hBO := hC.b8
  have hb00 := hC.b0
  have hp2 := hC.b2
  have d0 : (w1.alloc (.cells #[.slice (some ⟨gV', 0, none⟩) vs.length cV, .slice (some ⟨gP', 0, none⟩) ps.length cP, .slice aS ss.length cS, .slice aO os.length cO] 54)).cell? ⟨w1.heap.size, 0, none⟩ = some (.slice (some ⟨gV', 0, none⟩) vs.length cV) := by simp [go_sem]
  have d1 : (w1.alloc (.cells #[.slice (some ⟨gV', 0, none⟩) vs.length cV, .slice (some ⟨gP', 0, none⟩) ps.length cP, .slice aS ss.length cS, .slice aO os.length cO] 54)).cell? ⟨w1.heap.size, 1, none⟩ = some (.slice (some ⟨gP', 0, none⟩) ps.length cP) := by simp [go_sem]
  have d2 : (w1.alloc (.cells #[.slice (some ⟨gV', 0, none⟩) vs.length cV, .slice (some ⟨gP', 0, none⟩) ps.length cP, .slice aS ss.length cS, .slice aO os.length cO] 54)).cell? ⟨w1.heap.size, 2, none⟩ = some (.slice aS ss.length cS) := by simp [go_sem]
  have d3 : (w1.alloc (.cells #[.slice (some ⟨gV', 0, none⟩) vs.length cV, .slice (some ⟨gP', 0, none⟩) ps.length cP, .slice aS ss.length cS, .slice aO os.length cO] 54)).cell? ⟨w1.heap.size, 3, none⟩ = some (.slice aO os.length cO) := by simp [go_sem]
  have hb3 := hC.b3
  have hb4 := hC.b4
  have hb5 := hC.b5
  have hb6 := hC.b6
  have hb7 := hC.b7
  have nV : w1.heap.size ≠ gV' := by omega
  have nP : w1.heap.size ≠ gP' := by omega
  clear hal hb1' hb1 hC hco gS0 HS HO
  generalize hwA : (w1.alloc (.cells #[.slice (some ⟨gV', 0, none⟩) vs.length cV, .slice (some ⟨gP', 0, none⟩) ps.length cP, .slice aS ss.length cS, .slice aO os.length cO] 54)) = wA at *
  clear hwA
  generalize w1.heap.size = B at *
  have hol : w.heap.size + 1 + 1 < lV := by have h := hb00; simp at h; omega
  clear hb00 hb0
  refine wp_region_more_lit (by kernel_rfl) (by kernel_rfl) ?_
  repeat (go_big_quiet_step ((go_at_call 11; exact Calls.more_of (rcap_lit HC.out _ (rdNd.mono gx (below_more _ _)) hok))))
  refine wpQuiet_nil ?_
  intro _ hwq
  obtain ⟨xq, hwq⟩ := hwq
  subst hwq
  have hbm := below_more wA xq
  have d0 := stbx_lt d0 hbm
  have d1 := stbx_lt d1 hbm
  have d2 := stbx_lt d2 hbm
  have d3 := stbx_lt d3 hbm
  replace hC2 := hC2.mono hbm
  replace HO2 := Lib.hid (HO2.out.mono hbm)
  replace hb2 := hb2.trans (Below.mono hbm hb2.size)
  clear hbm e0 e1 f0 f1 f2 f3 c0 c1 c2 c3 c4 c5 c6 c7 c8 cv gx hok
  generalize more wA xq = wB at *
  have d4 := RowN.int1 (xs := vs) hC2.V kv HVK.out
  obtain ⟨g9, c9, e9, _, _, fr⟩ := RowN.first (xs := vs) hC2.V k kv
  cases e9
  have fr := fr k
  go_wp2_with fail
  refine wp_region_more_tail 11 (by kernel_rfl) (by kernel_rfl) ?_
  simp only [List.take_succ_cons, List.take_zero]
  repeat (go_big_quiet_step (fail))
  refine wpQuiet_nil ?_
  intro _ hwq
  obtain ⟨xq, hwq⟩ := hwq
  subst hwq
  have hbm := below_more wB xq
  have d0 := stbx_lt d0 hbm
  have d1 := stbx_lt d1 hbm
  have d2 := stbx_lt d2 hbm
  have d3 := stbx_lt d3 hbm
  replace hC2 := hC2.mono hbm
  replace HO2 := Lib.hid (HO2.out.mono hbm)
  replace hb2 := hb2.trans (Below.mono hbm hb2.size)
  clear hbm d4 fr
  generalize more wB xq = wC at *
  have d4 := RowN.int1 (xs := vs) hC2.V kv HVK.out
  obtain ⟨g9, c9, e9, _, _, fr⟩ := RowN.first (xs := vs) hC2.V k kv
  cases e9
  have fr := fr k
  refine wpAny_ready (rs := [11]) (by kernel_rfl) (by simp) ?_
  refine AllReady.cons rfl (fun K hK => ?_) AllReady.nil
  go_simp
  refine hK _ _ ?_
  clear hK K
  refine wpAny_done (by kernel_rfl) ?_ _
  clear d4 fr
  replace hC2 := hC2.storeV hgV2 kv (v + IN)
  have d0 := cell_far d0 ⟨gV', k, none⟩ (.int .i64 (v + IN)) nV
  have d1 := cell_far d1 ⟨gV', k, none⟩ (.int .i64 (v + IN)) nV
  have d2 := cell_far d2 ⟨gV', k, none⟩ (.int .i64 (v + IN)) nV
  have d3 := cell_far d3 ⟨gV', k, none⟩ (.int .i64 (v + IN)) nV
  replace HO2 := Lib.hid (HO2.out.far ⟨gV', k, none⟩ (.int .i64 (v + IN)) (by show _ ≠ gV'; omega))
  replace hb2 := hb2.setCell (p := ⟨gV', k, none⟩) (by show _ ≤ gV'; omega) (.int .i64 (v + IN))
  generalize wC.setCell ⟨gV', k, none⟩ (.int .i64 (v + IN)) = wD at *
  have d4 := RowN.int1 (xs := ps) hC2.P kp HPK.out
  obtain ⟨g9, c9, e9, _, _, fr⟩ := RowN.first (xs := ps) hC2.P k kp
  cases e9
  have fr := fr k
  go_wp2_with fail
  refine wp_region_more_tail 13 (by kernel_rfl) (by kernel_rfl) ?_
  simp only [List.take_succ_cons, List.take_zero]
  repeat (go_big_quiet_step (fail))
  refine wpQuiet_nil ?_
  intro _ hwq
  obtain ⟨xq, hwq⟩ := hwq
  subst hwq
  have hbm := below_more wD xq
  have d0 := stbx_lt d0 hbm
  have d1 := stbx_lt d1 hbm
  have d2 := stbx_lt d2 hbm
  have d3 := stbx_lt d3 hbm
  replace hC2 := hC2.mono hbm
  replace HO2 := Lib.hid (HO2.out.mono hbm)
  replace hb2 := hb2.trans (Below.mono hbm hb2.size)
  clear hbm d4 fr
  generalize more wD xq = wE at *
  have d4 := RowN.int1 (xs := ps) hC2.P kp HPK.out
  obtain ⟨g9, c9, e9, _, _, fr⟩ := RowN.first (xs := ps) hC2.P k kp
  cases e9
  have fr := fr k
  refine wpAny_ready (rs := [13]) (by kernel_rfl) (by simp) ?_
  refine AllReady.cons rfl (fun K hK => ?_) AllReady.nil
  go_simp
  refine hK _ _ ?_
  clear hK K
  refine wpAny_done (by kernel_rfl) ?_ _
  clear d4 fr
  replace hC2 := hC2.storeP hgP1 hgP2 kp (p + a - IN)
  have d0 := cell_far d0 ⟨gP', k, none⟩ (.int .i64 (p + a - IN)) nP
  have d1 := cell_far d1 ⟨gP', k, none⟩ (.int .i64 (p + a - IN)) nP
  have d2 := cell_far d2 ⟨gP', k, none⟩ (.int .i64 (p + a - IN)) nP
  have d3 := cell_far d3 ⟨gP', k, none⟩ (.int .i64 (p + a - IN)) nP
  replace HO2 := Lib.hid (HO2.out.far ⟨gP', k, none⟩ (.int .i64 (p + a - IN)) (by show _ ≠ gP'; omega))
  replace hb2 := hb2.setCell (p := ⟨gP', k, none⟩) (by show _ ≤ gP'; omega) (.int .i64 (p + a - IN))
  generalize wE.setCell ⟨gP', k, none⟩ (.int .i64 (p + a - IN)) = wF at *
  have d4 := RowN.int1 (k := k) (xs := ps.set k (p + a - IN)) hC2.P (by simpa using kp) (x := p + a - IN) (by simp)
  clear nV nP
  by_cases k5 : 1125899906842624 < p + (a - IN)
  · have u5 : decide (1125899906842624 < p + a - IN) = true := by rw [decide_eq_true_iff]; omega
    have h2 := HR.out
    rw [if_pos k5] at h2
    simp only [noSt, Prod.mk.injEq] at h2
    obtain ⟨rfl, rfl⟩ := h2
    clear HR k5 hat
    obtain ⟨⟨o0, o1, o2, o3⟩, of⟩ := HO2.out
    have of0 := of 0
    have of1 := of 1
    have of2 := of 2
    have of3 := of 3
    clear of
    simp only [vSl, nilSt] at o0 o1 o2 o3
    go_wp2_with fail
    refine bodyPost_ret (v := .tuple #[.agg #[.slice none 0 0, .slice none 0 0, .slice none 0 0, .slice none 0 0], .int .i64 5]) (by simp (maxDischargeDepth := 9) [results, Tryz.results33, go_sem, o0, o1, o2, o3]) rfl ⟨⟨nilSt, rfl, gSt_nil _, rfl⟩, by repeat' (first | exact Below.refl _ _ | assumption | refine Below.more ?_ ?_ _ | refine Below.alloc ?_ ?_ _ | refine Below.drew ?_ | refine below_drewN ?_ _ | refine Below.setCell ?_ ?_ _ | exact Below.size (by assumption) | (simp [go_sem, size_more]; done) | (simp [go_sem, size_more]; omega))⟩
  have u5 : decide (1125899906842624 < p + a - IN) = false := by rw [decide_eq_false_iff_not]; omega
  have h2 := HR.out
  rw [if_neg k5] at h2
  simp only [Prod.mk.injEq] at h2
  obtain ⟨rfl, rfl⟩ := h2
  clear HR
  have hlo := HO2.out.lt
  obtain ⟨⟨o0, o1, o2, o3⟩, of⟩ := HO2.out
  have of0 := of 0
  have of1 := of 1
  have of2 := of 2
  have of3 := of 3
  clear of
  simp only [vSl, nilSt] at o0 o1 o2 o3
  go_wp2_with fail
  refine bodyPost_ret (v := .tuple #[.agg #[.slice (some ⟨gV', 0, none⟩) vs.length cV, .slice (some ⟨gP', 0, none⟩) ps.length cP, .slice aS ss.length cS, .slice aO os.length cO], .int .i64 0]) (by simp (maxDischargeDepth := 9) [results, Tryz.results33, go_sem, o0, o1, o2, o3]) rfl ⟨?_, by repeat' (first | exact Below.refl _ _ | assumption | refine Below.more ?_ ?_ _ | refine Below.alloc ?_ ?_ _ | refine Below.drew ?_ | refine below_drewN ?_ _ | refine Below.setCell ?_ ?_ _ | exact Below.size (by assumption) | (simp [go_sem, size_more]; done) | (simp [go_sem, size_more]; omega))⟩
  have hC3 : Copied _ (((((wF.setCell ⟨w.heap.size + 1 + 1, 0, none⟩ (.slice (some ⟨gV', 0, none⟩) vs.length cV)).setCell ⟨w.heap.size + 1 + 1, 1, none⟩ (.slice (some ⟨gP', 0, none⟩) ps.length cP)).setCell ⟨w.heap.size + 1 + 1, 2, none⟩ (.slice aS ss.length cS)).setCell ⟨w.heap.size + 1 + 1, 3, none⟩ (.slice aO os.length cO))) _ _ _ _ _ _ _ _ _ _ _ _ _ :=
    ⟨hC2.V.set4 (B := w.heap.size + 1 + 1) (by omega) _ _ _ _, hC2.P.set4 (B := w.heap.size + 1 + 1) (by omega) _ _ _ _, hC2.S.set4 (B := w.heap.size + 1 + 1) (by omega) _ _ _ _, hC2.O.set4 (B := w.heap.size + 1 + 1) (by omega) _ _ _ _, hC2.b0, hC2.b1, hC2.b2, hC2.b3, hC2.b4, hC2.b5, hC2.b6, hC2.b7, by simpa [World.setCell] using hC2.b8⟩
  refine copied_ret hC3 (fun y hy => mem_set_int (p := gI64 wF) gV (gI64_of (by omega) (by omega)) hy) (fun y hy => mem_set_int (p := gI64 wF) gP (gI64_of (by omega) (by omega)) hy) gSS ?_
  rw [show p + (a - IN) = p + a - IN from by omega]

end Go.Proofs.YtjgfgbiohbgcaaaGreat
