/- Filling a node: storage.Fill where it fills. Conditions: the arguments read as data. -/
import Derived.Test.YtjgfgbiohbgcaaaSfc
import Derived.Deep.CutRange
import Derived.Deep.DeepMust
namespace Go.Proofs.Ytjgfgbiohbgcaaa
open Go.RowKit
set_option linter.unusedVariables false
set_option linter.unusedSimpArgs false

set_option maxRecDepth 100000 in
set_option maxHeartbeats 32000000 in
theorem fill_yes (n : Net) (s : St) (k : Nat) (a : Int) (w : World) (hg : gNet w n) (hgs : gSt w s) (hnv : netB n = true) (hsv : stB n s = true) (hk : k < n.Ns.xs.length) (ha : volB a = true) (hne : (fillG n (stL s) k a).2 = 0) : Calls Try.prog 25 #[vNet n, vSt s, .int .i64 (k : Int), .int .i64 a] w fun e w' =>
    (∃ s', e = .returned (.tuple #[vSt s', .int .i64 (fillG n (stL s) k a).2]) ∧ gSt w' s' ∧ stL s' = (fillG n (stL s) k a).1) ∧ Below w.heap.size w w' := by
  obtain ⟨⟨na, nc, nxs⟩, ⟨la, lc, lxs⟩⟩ := n
  obtain ⟨⟨va, vc, vs⟩, ⟨pa, pc, ps⟩, ⟨ea, ec, ss⟩, ⟨oa, oc, os⟩⟩ := s
  have hb0 : Below w.heap.size w ((w.alloc (.cells #[.slice na nxs.length nc, .slice la lxs.length lc] 50)).alloc (.cells #[.slice va vs.length vc, .slice pa ps.length pc, .slice ea ss.length ec, .slice oa os.length oc] 54)) := ((Below.refl _ _).alloc (Nat.le_refl _) _).alloc (by simp) _
  have hb0' := hb0.alloc (o := .cells #[.slice none 0 0, .slice none 0 0, .slice none 0 0, .slice none 0 0] 54) (by simp; omega)
  have HOX : Hid (OutBx (((w.alloc (.cells #[.slice na nxs.length nc, .slice la lxs.length lc] 50)).alloc (.cells #[.slice va vs.length vc, .slice pa ps.length pc, .slice ea ss.length ec, .slice oa os.length oc] 54)).alloc (.cells #[.slice none 0 0, .slice none 0 0, .slice none 0 0, .slice none 0 0] 54)) (w.heap.size + 1 + 1) nilSt) := by
    have h := OutBx.new ((w.alloc (.cells #[.slice na nxs.length nc, .slice la lxs.length lc] 50)).alloc (.cells #[.slice va vs.length vc, .slice pa ps.length pc, .slice ea ss.length ec, .slice oa os.length oc] 54)) nilSt 54
    rw [show ((w.alloc (.cells #[.slice na nxs.length nc, .slice la lxs.length lc] 50)).alloc (.cells #[.slice va vs.length vc, .slice pa ps.length pc, .slice ea ss.length ec, .slice oa os.length oc] 54)).heap.size = w.heap.size + 1 + 1 from by simp] at h
    exact Lib.hid h
  have HBX : Hid (StBx ((w.alloc (.cells #[.slice na nxs.length nc, .slice la lxs.length lc] 50)).alloc (.cells #[.slice va vs.length vc, .slice pa ps.length pc, .slice ea ss.length ec, .slice oa os.length oc] 54)) (w.heap.size + 1) ⟨⟨va, vc, vs⟩, ⟨pa, pc, ps⟩, ⟨ea, ec, ss⟩, ⟨oa, oc, os⟩⟩) := by
    have h := StBx.new (w.alloc (.cells #[.slice na nxs.length nc, .slice la lxs.length lc] 50)) ⟨⟨va, vc, vs⟩, ⟨pa, pc, ps⟩, ⟨ea, ec, ss⟩, ⟨oa, oc, os⟩⟩ 54
    rw [show (w.alloc (.cells #[.slice na nxs.length nc, .slice la lxs.length lc] 50)).heap.size = w.heap.size + 1 from by simp] at h
    exact Lib.hid h
  have HB0 := Lib.hid (HBX.out.mono (alloc_below _ (.cells #[.slice none 0 0, .slice none 0 0, .slice none 0 0, .slice none 0 0] 54)))
  have hva := svalid_any ⟨⟨na, nc, nxs⟩, ⟨la, lc, lxs⟩⟩ ⟨⟨va, vc, vs⟩, ⟨pa, pc, ps⟩, ⟨ea, ec, ss⟩, ⟨oa, oc, os⟩⟩ _ (rdNet.mono hg hb0') (rdSt.mono hgs hb0')
  rw [show (netB ⟨⟨na, nc, nxs⟩, ⟨la, lc, lxs⟩⟩ && stB ⟨⟨na, nc, nxs⟩, ⟨la, lc, lxs⟩⟩ ⟨⟨va, vc, vs⟩, ⟨pa, pc, ps⟩, ⟨ea, ec, ss⟩, ⟨oa, oc, os⟩⟩) = true from by rw [hnv, hsv]; rfl] at hva
  have HE := Lib.hid (boxNet w · 50 ⟨⟨na, nc, nxs⟩, ⟨la, lc, lxs⟩⟩ _ rfl _ rfl)
  have hls := stB_lens hsv
  simp only at hk hls
  have kv : k < vs.length := by omega
  have kp : k < ps.length := by omega
  have hat := st_at hnv hsv k hk kv kp
  simp only at hat
  have hok := ndB_knot (netB_nd hnv k hk).1
  simp only at hok
  have hln : nxs.length ≤ 300 ∧ lxs.length ≤ 400 := by simp [netB] at hnv; omega
  obtain ⟨⟨R, E⟩, hres⟩ : ∃ r, fillG ⟨⟨na, nc, nxs⟩, ⟨la, lc, lxs⟩⟩ (stL ⟨⟨va, vc, vs⟩, ⟨pa, pc, ps⟩, ⟨ea, ec, ss⟩, ⟨oa, oc, os⟩⟩) k a = r := ⟨_, rfl⟩
  rw [hres] at hne ⊢
  have HNE := Lib.hid hne
  clear hne
  have HR : Hid ((R, E) = if nxs[k].Kind = 3 then (noSt, 11) else if 1125899906842624 < ps[k] + (a - inV (capB nxs[k]) vs[k] a) then (noSt, 5)
      else ((vs.set k (vs[k] + inV (capB nxs[k]) vs[k] a), ps.set k (ps[k] + (a - inV (capB nxs[k]) vs[k] a)), ss, os), 0)) := by
    refine Lib.hid (hres.symm.trans ?_)
    simp only [fillG, ndAt, stL, List.getD, List.getElem?_eq_getElem hk, List.getElem?_eq_getElem kv, List.getElem?_eq_getElem kp, Option.getD_some]
  clear hres hnv hsv
  have ha' : 0 ≤ a ∧ a ≤ 1125899906842624 := by simpa [volB, btwB] using ha
  have hho := fun W => holds_lit ha W
  have HLN := Lib.hid hln
  have HLS := Lib.hid hls
  have hN := hg.1.2.2
  have hV := hgs.1
  have hP := hgs.2.1
  have hS := hgs.2.2.1
  have hO := hgs.2.2.2
  simp only at hN
  clear ha hls hln hg hgs
  simp only
  simp only [vNet, vSt, vSl] at hva ⊢
  have u1 : decide ((k : Int) < 0) = false := by simp
  have u2 : decide ((nxs.length : Int) ≤ (k : Int)) = false := by simp; omega
  have u2' : decide (nxs.length ≤ k) = false := by simp; omega
  go_enter Try.func25, Try.ntmps25
  go_wp2_with fail
  refine Calls.go hb0' hva ?_
  rintro e w1 rfl hb1' hb1
  have HO1 := Lib.hid (HOX.out.mono hb1')
  have HB1 := Lib.hid (HB0.out.mono hb1')
  clear HOX HB0 HBX
  obtain ⟨e0, e1⟩ := HE.out w1 (((Below.refl _ _).alloc (by simp) _ |>.alloc (by simp) _).trans (hb1'.mono (by simp)))
  obtain ⟨b, off, rfl, c0, c1, c2, c3, c4, c5, c6, c7, c8⟩ := (hN.1.mono hb1).nd k hk
  obtain ⟨vb, vo, rfl, cv⟩ := (hV.2.2.1.mono hb1).int k kv
  obtain ⟨pb, po, rfl, cp⟩ := (hP.2.2.1.mono hb1).int k kp
  have gx := rdNd.mono (hN.2 _ (List.getElem_mem hk)) hb1
  simp only [vSl] at e0 e1 cv cp
  clear hb1' hva hb0' hb0 HE
  generalize nxs[k] = x at *
  generalize hvk : vs[k] = v at *
  generalize hpk : ps[k] = p at *
  have HVK := Lib.hid hvk
  have HPK := Lib.hid hpk
  clear hvk hpk
  have k3 : ¬ x.Kind = 3 := fun k3 => by
    have h2 := HR.out
    rw [if_pos k3] at h2
    simp only [Prod.mk.injEq] at h2
    have := HNE.out
    rw [h2.2] at this; cases this
  have u3 := beqF k3
  have h2 := HR.out
  rw [if_neg k3] at h2
  have HR := Lib.hid h2
  clear h2 k3
  obtain ⟨c, hc⟩ : ∃ c, capB x = c := ⟨_, rfl⟩
  rw [hc] at hat HR
  have HC := Lib.hid hc
  clear hc
  obtain ⟨f0, f1, f2, f3⟩ := HB1.out
  simp only [vSl] at f0 f1 f2 f3
  obtain ⟨IN, hIN⟩ : ∃ IN, inV c v a = IN := ⟨_, rfl⟩
  rw [hIN] at HR
  have hin := in_bd (c := c) (v := v) (a := a) (by omega) (by omega)
  rw [hIN] at hin
  have x0 : IntKind.i64.wrap (c - v) = c - v := IntWalk.i64_in _ (by omega)
  have x1 : IntKind.i64.wrap (p + a) = p + a := IntWalk.i64_in _ (by omega)
  have x2 : IntKind.i64.wrap (p + a - IN) = p + a - IN := IntWalk.i64_in _ (by omega)
  have hmn : min a (c - v) = IN := hIN
  clear hIN
  have k5 : ¬ 1125899906842624 < p + (a - IN) := fun k5 => by
    have h2 := HR.out
    rw [if_pos k5] at h2
    simp only [Prod.mk.injEq] at h2
    have := HNE.out
    rw [h2.2] at this; cases this
  clear HNE
  have u5 : decide (1125899906842624 < p + a - IN) = false := by rw [decide_eq_false_iff_not]; omega
  have h2 := HR.out
  rw [if_neg k5] at h2
  simp only [Prod.mk.injEq] at h2
  obtain ⟨rfl, rfl⟩ := h2
  clear HR k5
  go_wp2_with fail
  refine (hho _).mono ?_
  rintro _ w2 ⟨rfl, hW⟩
  subst w2
  go_wp2_with fail
  refine wp_region_more_lit (by kernel_rfl) (by kernel_rfl) ?_
  repeat (go_big_quiet_step ((go_at_call 43; exact Calls.more_of (cap_lit HC.out _ (rdNd.mono gx (below_more _ _)) hok))))
  refine wpQuiet_nil ?_
  intro _ hwq
  obtain ⟨xq, hwq⟩ := hwq
  subst hwq
  have hbq := below_more w1 xq
  have HO2 := Lib.hid (HO1.out.mono hbq)
  have HB2 := Lib.hid (HB1.out.mono hbq)
  have hb2 := hb1.trans (hbq.mono hb1.size)
  have cv' := stbx_lt cv hbq
  have cp' := stbx_lt cp hbq
  clear HO1 HB1 hbq gx e0 e1
  generalize hwm : more w1 xq = wm at *
  clear hwm hb1 c0 c1 c2 c3 c4 c5 c6 c7 c8 hN cv cp f0 f1 f2 f3
  have hLN := HLN.out
  have hLS := HLS.out
  have hcV := fun W (hW : Below wm.heap.size wm W) => cloneInt_any vs _ W (hV.isL.mono (hb2.trans (hW.mono hb2.size))) (by omega)
  have hcP := fun W (hW : Below wm.heap.size wm W) => cloneInt_any ps _ W (hP.isL.mono (hb2.trans (hW.mono hb2.size))) (by omega)
  have hcS := fun W (hW : Below wm.heap.size wm W) => cloneInt_any ss _ W (hS.isL.mono (hb2.trans (hW.mono hb2.size))) (by omega)
  have hcO := fun W (hW : Below wm.heap.size wm W) => cloneBool_any os _ W (hO.isL.mono (hb2.trans (hW.mono hb2.size))) (by omega)
  clear hLN hLS
  obtain ⟨f0, f1, f2, f3⟩ := HB2.out
  simp only [vSl] at f0 f1 f2 f3
  go_upto_region 10 with fail
  go_cut [11] from 43 (fun s11 wx => ∃ (B : Nat) (aV aP aS aO : Option Addr) (cV cP cS cO : Nat), s11 = .pointer (some ⟨B, 0, none⟩) ∧ Cloned wm wx B (.slice aV vs.length cV) (.slice aP ps.length cP) (.slice aS ss.length cS) (.slice aO os.length cO) vs ps ss os)
  case first =>
    clear ha' u1 u2 u2' u3 u5 hho hok hat hin x0 x1 x2 hmn cv' cp' HO2 HB2 HC hV hP hS hO HVK HPK HLN HLS hb2 hk kv kp
    rename_i J K2 hJ hK2
    have hacc := Fut.start wm
    have hkeep : ∀ W, Below wm.heap.size wm W → (Below wm.heap.size wm W ∧ W.cell? ⟨w.heap.size + 1, 0, none⟩ = some (.slice (some ⟨vb, vo, none⟩) vs.length vc) ∧ W.cell? ⟨w.heap.size + 1, 1, none⟩ = some (.slice (some ⟨pb, po, none⟩) ps.length pc) ∧ W.cell? ⟨w.heap.size + 1, 2, none⟩ = some (.slice ea ss.length ec) ∧ W.cell? ⟨w.heap.size + 1, 3, none⟩ = some (.slice oa os.length oc)) :=
      fun W hW => ⟨hW, stbx_lt f0 hW, stbx_lt f1 hW, stbx_lt f2 hW, stbx_lt f3 hW⟩
    (go_region_held3 (fun w' => Below wm.heap.size wm w' ∧ w'.cell? ⟨w.heap.size + 1, 0, none⟩ = some (.slice (some ⟨vb, vo, none⟩) vs.length vc) ∧ w'.cell? ⟨w.heap.size + 1, 1, none⟩ = some (.slice (some ⟨pb, po, none⟩) ps.length pc) ∧ w'.cell? ⟨w.heap.size + 1, 2, none⟩ = some (.slice ea ss.length ec) ∧ w'.cell? ⟨w.heap.size + 1, 3, none⟩ = some (.slice oa os.length oc))
      (first | ((try dsimp only at *); (try go_split_ands); refine hkeep _ ?_; repeat' (first | assumption | (exact Below.trans (by assumption) (Below.mono hb' (Below.size (by assumption)))) | (refine Below.drew ?_) | (refine Below.alloc ?_ ?_ _) | (refine Below.setCell ?_ ?_ _) | exact Below.refl _ _ | (exact Below.size (by assumption)) | exact Nat.le_refl _)) | fail "keep")
      ((first
        | (go_at_call 50; (try dsimp only at *); (try go_split_ands); refine (hcV _ (by assumption)).mono ?_; rintro e w2 ⟨⟨v', rfl, hown⟩, hb'⟩; have hwB : Below wm.heap.size wm w2 := (by first | exact Below.trans (by assumption) (Below.mono hb' (Below.size (by assumption))) | fail "x"); obtain ⟨lV, hV, elV, ehV, lhV, rV⟩ := RowAt.of hown hb'; (try simp at elV); have hacc := Fut.more hacc (Below.trans (by first | exact Below.refl _ _ | exact Below.drew (Below.refl _ _) | exact Below.alloc (Below.refl _ _) (Nat.le_refl _) _ | exact Below.drew (Below.alloc (Below.refl _ _) (Nat.le_refl _) _)) (Below.mono hb' (by first | exact Nat.le_refl _ | (simp; done)))) rV; obtain ⟨aV, cV, rfl⟩ := hown.isSlice; (first | (have hob := OutBx.mono hob hb') | (have hob := OutBx.mono (OutBx.new _ nilSt _) hb') | (have hob := OutBx.mono (OutBx.drew (OutBx.new _ nilSt _)) hb') | skip); (try (obtain ⟨⟨o0, o1, o2, o3⟩, of⟩ := id hob; have of0 := of 0; have of1 := of 1; have of2 := of 2; have of3 := of 3; clear of; simp only [vSl, nilSt, List.length_nil] at o0 o1 o2 o3)))
        | (go_at_call 50; (try dsimp only at *); (try go_split_ands); refine (hcP _ (by assumption)).mono ?_; rintro e w2 ⟨⟨v', rfl, hown⟩, hb'⟩; have hwB : Below wm.heap.size wm w2 := (by first | exact Below.trans (by assumption) (Below.mono hb' (Below.size (by assumption))) | fail "x"); obtain ⟨lP, hP, elP, ehP, lhP, rP⟩ := RowAt.of hown hb'; (try simp at elP); have hacc := Fut.more hacc (Below.trans (by first | exact Below.refl _ _ | exact Below.drew (Below.refl _ _) | exact Below.alloc (Below.refl _ _) (Nat.le_refl _) _ | exact Below.drew (Below.alloc (Below.refl _ _) (Nat.le_refl _) _)) (Below.mono hb' (by first | exact Nat.le_refl _ | (simp; done)))) rP; obtain ⟨aP, cP, rfl⟩ := hown.isSlice; (first | (have hob := OutBx.mono hob hb') | (have hob := OutBx.mono (OutBx.new _ nilSt _) hb') | (have hob := OutBx.mono (OutBx.drew (OutBx.new _ nilSt _)) hb') | skip); (try (obtain ⟨⟨o0, o1, o2, o3⟩, of⟩ := id hob; have of0 := of 0; have of1 := of 1; have of2 := of 2; have of3 := of 3; clear of; simp only [vSl, nilSt, List.length_nil] at o0 o1 o2 o3)))
        | (go_at_call 50; (try dsimp only at *); (try go_split_ands); refine (hcS _ (by assumption)).mono ?_; rintro e w2 ⟨⟨v', rfl, hown⟩, hb'⟩; have hwB : Below wm.heap.size wm w2 := (by first | exact Below.trans (by assumption) (Below.mono hb' (Below.size (by assumption))) | fail "x"); obtain ⟨lS, hS, elS, ehS, lhS, rS⟩ := RowAt.of hown hb'; (try simp at elS); have hacc := Fut.more hacc (Below.trans (by first | exact Below.refl _ _ | exact Below.drew (Below.refl _ _) | exact Below.alloc (Below.refl _ _) (Nat.le_refl _) _ | exact Below.drew (Below.alloc (Below.refl _ _) (Nat.le_refl _) _)) (Below.mono hb' (by first | exact Nat.le_refl _ | (simp; done)))) rS; obtain ⟨aS, cS, rfl⟩ := hown.isSlice; (first | (have hob := OutBx.mono hob hb') | (have hob := OutBx.mono (OutBx.new _ nilSt _) hb') | (have hob := OutBx.mono (OutBx.drew (OutBx.new _ nilSt _)) hb') | skip); (try (obtain ⟨⟨o0, o1, o2, o3⟩, of⟩ := id hob; have of0 := of 0; have of1 := of 1; have of2 := of 2; have of3 := of 3; clear of; simp only [vSl, nilSt, List.length_nil] at o0 o1 o2 o3)))
        | (go_at_call 51; (try dsimp only at *); (try go_split_ands); refine (hcO _ (by assumption)).mono ?_; rintro e w2 ⟨⟨v', rfl, hown⟩, hb'⟩; have hwB : Below wm.heap.size wm w2 := (by first | exact Below.trans (by assumption) (Below.mono hb' (Below.size (by assumption))) | fail "x"); obtain ⟨lO, hO, elO, ehO, lhO, rO⟩ := RowAt.of hown hb'; (try simp at elO); have hacc := Fut.more hacc (Below.trans (by first | exact Below.refl _ _ | exact Below.drew (Below.refl _ _) | exact Below.alloc (Below.refl _ _) (Nat.le_refl _) _ | exact Below.drew (Below.alloc (Below.refl _ _) (Nat.le_refl _) _)) (Below.mono hb' (by first | exact Nat.le_refl _ | (simp; done)))) rO; obtain ⟨aO, cO, rfl⟩ := hown.isSlice; (first | (have hob := OutBx.mono hob hb') | (have hob := OutBx.mono (OutBx.new _ nilSt _) hb') | (have hob := OutBx.mono (OutBx.drew (OutBx.new _ nilSt _)) hb') | skip); (try (obtain ⟨⟨o0, o1, o2, o3⟩, of⟩ := id hob; have of0 := of 0; have of1 := of 1; have of2 := of 2; have of3 := of 3; clear of; simp only [vSl, nilSt, List.length_nil] at o0 o1 o2 o3))))))
    all_goals clear hkeep hcV hcP hcS hcO f0 f1 f2 f3
    all_goals (try clear hob)
    all_goals
      refine hK2 _ _ ?_
      go_meet
      case rel =>
        obtain ⟨⟨⟨⟨_, qV⟩, qP⟩, qS⟩, qO⟩ := hacc _ (Below.refl _ _)
        refine ⟨_, aV, aP, aS, aO, cV, cP, cS, cO, rfl, Cloned.of (lV := lV) (hV := hV) (lP := lP) (hP := hP) (lS := lS) (hS := hS) (lO := lO) (hO := hO) ?_ ?_ ?_ ?_ ?_ ?_ ?_ ?_ ?_ ?_ ?_ ?_ ?_ ?_ ?_ ?_ ?_ ?_ ?_⟩
        · exact And.left (by assumption)
        · first | exact Nat.le_refl _ | exact Below.size (by assumption)
        · first | (simp [go_sem, o0, o1, o2, o3]; done) | (simp [go_sem]; done)
        · first | (simp [go_sem, o0, o1, o2, o3]; done) | (simp [go_sem]; done)
        · first | (simp [go_sem, o0, o1, o2, o3]; done) | (simp [go_sem]; done)
        · first | (simp [go_sem, o0, o1, o2, o3]; done) | (simp [go_sem]; done)
        · first | (with_reducible exact RowAt.alloc qV _) | (with_reducible refine RowAt.set4 qV ?_ _ _ _ _; omega)
        · first | (with_reducible exact RowAt.alloc qP _) | (with_reducible refine RowAt.set4 qP ?_ _ _ _ _; omega)
        · first | (with_reducible exact RowAt.alloc qS _) | (with_reducible refine RowAt.set4 qS ?_ _ _ _ _; omega)
        · first | (with_reducible exact RowAt.alloc qO _) | (with_reducible refine RowAt.set4 qO ?_ _ _ _ _; omega)
        all_goals omega
  case rest =>
    obtain ⟨B, aV, aP, aS, aO, cV, cP, cS, cO, rfl, hC⟩ := hcut
    clear f0 f1 f2 f3 hcV hcP hcS hcO
    obtain ⟨gV, cV', e1, hgV, frV⟩ := hC.V.first k kv
    cases e1
    obtain ⟨gP, cP', e2, hgP, frP⟩ := hC.P.first k kp
    cases e2
    have c0 := hC.c0
    have c1 := hC.c1
    have d0 := hC.V.int1 kv HVK.out
    have fr := frV k
    have x3 : IntKind.i64.wrap (v + IN) = v + IN := IntWalk.i64_in _ (by omega)
    go_upto_region 12 with fail
    have hC1 := hC.storeV kv (v + IN)
    clear hC c0 c1 d0 fr frV frP x3
    generalize wc.setCell ⟨gV, k, none⟩ (.int .i64 (v + IN)) = wd at *
    have c1 := hC1.c1
    have d1 := hC1.P.int1 kp HPK.out
    have fr := hC1.P.free k
    have x4 : IntKind.i64.wrap (a - IN) = a - IN := IntWalk.i64_in _ (by omega)
    have x5 : IntKind.i64.wrap (p + (a - IN)) = p + (a - IN) := IntWalk.i64_in _ (by omega)
    go_upto_region 13 with fail
    have hC2 := hC1.storeP kp (p + (a - IN))
    clear hC1 c1 d1 fr x4 x5
    generalize wd.setCell ⟨gP, k, none⟩ (.int .i64 (p + (a - IN))) = we at *
    have c0 := hC2.c0
    have c1 := hC2.c1
    have c2 := hC2.c2
    have c3 := hC2.c3
    have hlo := HO2.out.lt
    have hbe := hb2.trans (hC2.bel.mono hb2.size)
    obtain ⟨⟨o0, o1, o2, o3⟩, of⟩ := HO2.out.mono hC2.bel
    have of0 := of 0
    have of1 := of 1
    have of2 := of 2
    have of3 := of 3
    clear of
    simp only [vSl, nilSt] at o0 o1 o2 o3
    go_wp2_with fail
    refine bodyPost_ret (v := .tuple #[.agg #[.slice (some ⟨gV, 0, none⟩) vs.length cV, .slice (some ⟨gP, 0, none⟩) ps.length cP, .slice aS ss.length cS, .slice aO os.length cO], .int .i64 0]) (by simp (maxDischargeDepth := 9) [results, Try.results25, go_sem, o0, o1, o2, o3]) rfl ⟨?_, by repeat' (first | exact Below.refl _ _ | assumption | refine Below.more ?_ ?_ _ | refine Below.alloc ?_ ?_ _ | refine Below.drew ?_ | refine below_drewN ?_ _ | refine Below.setCell ?_ ?_ _ | exact Below.size (by assumption) | (simp [go_sem, size_more]; done) | (simp [go_sem, size_more]; omega))⟩
    exact gSt_ret (hC2.V.under4 hlo _ _ _ _) (hC2.P.under4 hlo _ _ _ _) (hC2.S.under4 hlo _ _ _ _) (hC2.O.under4 hlo _ _ _ _) (fun x hx => mem_set_int (p := gI64 we) hV.2.2.2 (gI64_of (by omega) (by omega)) hx) (fun x hx => mem_set_int (p := gI64 we) hP.2.2.2 (gI64_of (by omega) (by omega)) hx) hS.2.2.2 rfl

end Go.Proofs.Ytjgfgbiohbgcaaa
