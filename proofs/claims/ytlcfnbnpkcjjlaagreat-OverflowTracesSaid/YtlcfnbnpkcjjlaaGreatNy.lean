/- ValidState, the reference's side. Conditions: network and state read as data, the network is right. -/
import Derived.Test.YtlcfnbnpkcjjlaaGreatNw
namespace Go.Proofs.YtlcfnbnpkcjjlaaGreat
open Go.RowKit
set_option linter.unusedVariables false
set_option linter.unusedSimpArgs false

theorem rcap_lit {x : Nd} {c : Int} (h : capB x = c) (w : World) (hg : gNd w x) (hok : x.Kind = 3 ∨ 1 ≤ x.Sh.xs.length) : Calls Tryz.prog 37 #[vNd x] w fun e w' => e = .returned (.int .i64 c) ∧ Below w.heap.size w w' := by
  rw [← h]; exact r29cap_any x w hg hok
theorem rvol_lit {n : Int} {b : Bool} (h : volB n = b) (w : World) : Calls Tryz.prog 52 #[.int .i64 n] w fun e w' => e = .returned (.bool b) ∧ w' = w := by
  rw [← h]; exact r29isv_any n w

set_option maxRecDepth 100000 in
set_option maxHeartbeats 16000000 in
theorem r29valid_any (n : Net) (s : St) (w : World) (hg : gNet w n) (hgs : gSt w s) (hnet : netB n = true) : Calls Tryz.prog 23 #[vNet n, vSt s] w fun e w' => e = .returned (.bool (stB n s)) ∧ Below w.heap.size w w' := by
  obtain ⟨⟨na, nc, nxs⟩, ⟨la, lc, lxs⟩⟩ := n
  obtain ⟨⟨va, vc, vs⟩, ⟨pa, pc, ps⟩, ⟨ea, ec, ss⟩, ⟨oa, oc, os⟩⟩ := s
  obtain ⟨hV, hP, hE, hO⟩ := hgs
  simp only at hV hP hE hO
  have hgn := hg
  obtain ⟨hN, hL⟩ := hg
  simp only at hN hL
  have hb0 : Below w.heap.size w ((w.alloc (.cells #[.slice na nxs.length nc, .slice la lxs.length lc] 25)).alloc (.cells #[.slice va vs.length vc, .slice pa ps.length pc, .slice ea ss.length ec, .slice oa os.length oc] 29)) := ((Below.refl _ _).alloc (Nat.le_refl _) _).alloc (by simp) _
  obtain ⟨res, hres⟩ : ∃ res, stB ⟨⟨na, nc, nxs⟩, ⟨la, lc, lxs⟩⟩ ⟨⟨va, vc, vs⟩, ⟨pa, pc, ps⟩, ⟨ea, ec, ss⟩, ⟨oa, oc, os⟩⟩ = res := ⟨_, rfl⟩
  rw [hres]
  have HR := Lib.hid hres
  clear hres
  simp only [vNet, vSt, vSl]
  
  have HS0 := Lib.hid HR.out.symm
  have hb : Below (w.heap.size + 2) ((w.alloc (.cells #[.slice na nxs.length nc, .slice la lxs.length lc] 25)).alloc (.cells #[.slice va vs.length vc, .slice pa ps.length pc, .slice ea ss.length ec, .slice oa os.length oc] 29)) ((w.alloc (.cells #[.slice na nxs.length nc, .slice la lxs.length lc] 25)).alloc (.cells #[.slice va vs.length vc, .slice pa ps.length pc, .slice ea ss.length ec, .slice oa os.length oc] 29)) := Below.refl _ _
  have hbw := hb0
  by_cases l1 : vs.length = nxs.length
  rotate_left
  · have q := bneT (a := (vs.length : Int)) (b := (nxs.length : Int)) (by omega)
    have q' : (vs.length != nxs.length) = true := by simpa using l1
    have HS : Hid (res = false) := Lib.hid (HS0.out.trans (stB_len (by simp [stLen, l1])))
    go_enter Tryz.func23, Tryz.ntmps23
    go_wp2_with fail
    go_ret
    exact ⟨ret_bool HS.out.symm, hbw⟩
  have q1 := bneF (a := (vs.length : Int)) (b := (nxs.length : Int)) (by omega)
  have q1' : (vs.length != nxs.length) = false := by simpa using l1
  have L1 := Lib.hid l1
  clear l1
  by_cases l2 : ps.length = nxs.length
  rotate_left
  · have q := bneT (a := (ps.length : Int)) (b := (nxs.length : Int)) (by omega)
    have q' : (ps.length != nxs.length) = true := by simpa using l2
    have HS : Hid (res = false) := Lib.hid (HS0.out.trans (stB_len (by simp [stLen, l2])))
    go_enter Tryz.func23, Tryz.ntmps23
    go_wp2_with fail
    go_ret
    exact ⟨ret_bool HS.out.symm, hbw⟩
  have q2 := bneF (a := (ps.length : Int)) (b := (nxs.length : Int)) (by omega)
  have q2' : (ps.length != nxs.length) = false := by simpa using l2
  have L2 := Lib.hid l2
  clear l2
  by_cases l3 : ss.length = lxs.length
  rotate_left
  · have q := bneT (a := (ss.length : Int)) (b := (lxs.length : Int)) (by omega)
    have q' : (ss.length != lxs.length) = true := by simpa using l3
    have HS : Hid (res = false) := Lib.hid (HS0.out.trans (stB_len (by simp [stLen, l3])))
    go_enter Tryz.func23, Tryz.ntmps23
    go_wp2_with fail
    go_ret
    exact ⟨ret_bool HS.out.symm, hbw⟩
  have q3 := bneF (a := (ss.length : Int)) (b := (lxs.length : Int)) (by omega)
  have q3' : (ss.length != lxs.length) = false := by simpa using l3
  have L3 := Lib.hid l3
  clear l3
  by_cases l4 : os.length = lxs.length
  rotate_left
  · have q := bneT (a := (os.length : Int)) (b := (lxs.length : Int)) (by omega)
    have q' : (os.length != lxs.length) = true := by simpa using l4
    have HS : Hid (res = false) := Lib.hid (HS0.out.trans (stB_len (by simp [stLen, l4])))
    go_enter Tryz.func23, Tryz.ntmps23
    go_wp2_with fail
    go_ret
    exact ⟨ret_bool HS.out.symm, hbw⟩
  have q4 := bneF (a := (os.length : Int)) (b := (lxs.length : Int)) (by omega)
  have q4' : (os.length != lxs.length) = false := by simpa using l4
  have L4 := Lib.hid l4
  clear l4
  have HS := Lib.hid (HS0.out.trans (stB_is (n := ⟨⟨na, nc, nxs⟩, ⟨la, lc, lxs⟩⟩) (s := ⟨⟨va, vc, vs⟩, ⟨pa, pc, ps⟩, ⟨ea, ec, ss⟩, ⟨oa, oc, os⟩⟩) (by simp [stLen, L1.out, L2.out, L3.out, L4.out])))
  clear HS0
  simp only at HS
  have hnd := netB_nd hnet
  simp only at hnd
  clear hnet
  have hlx : lxs.length ≤ 9223372036854775807 := by
    have h1 : lxs.length ≤ lc := hL.1
    have h2 : lc ≤ 9223372036854775807 := hL.2.1
    omega
  have hnx : nxs.length ≤ 9223372036854775807 := by
    have h1 : nxs.length ≤ nc := hN.1
    have h2 : nc ≤ 9223372036854775807 := hN.2.1
    omega
  go_enter Tryz.func23, Tryz.ntmps23
  go_wp2_with fail
  go_loopw [5] (fun s51 wr => ∃ k : Nat, k ≤ nxs.length ∧ s51 = .int .i64 k ∧ Below (w.heap.size + 2) ((w.alloc (.cells #[.slice na nxs.length nc, .slice la lxs.length lc] 25)).alloc (.cells #[.slice va vs.length vc, .slice pa ps.length pc, .slice ea ss.length ec, .slice oa os.length oc] 29)) wr ∧ Hid (allFrom (okV nxs vs ps) 0 nxs.length = allFrom (okV nxs vs ps) k nxs.length)) (fun i _ => nxs.length - (intOf i).toNat)
  case atStart => exact ⟨0, Nat.zero_le _, rfl, hb, rfl⟩
  clear hb hbw
  case round =>
    as_aux_lemma =>
    obtain ⟨k, hk, rfl, hb, hm⟩ := hrel
    have hbw : Below w.heap.size w wr := hb0.trans (hb.mono (by omega))
    obtain ⟨f0, f1, f2, f3⟩ := boxSt (w.alloc (.cells #[.slice na nxs.length nc, .slice la lxs.length lc] 25)) wr 29 ⟨⟨va, vc, vs⟩, ⟨pa, pc, ps⟩, ⟨ea, ec, ss⟩, ⟨oa, oc, os⟩⟩ _ rfl (w.heap.size + 2) (by simp) hb
    obtain ⟨e0, e1⟩ := boxNet w wr 25 ⟨⟨na, nc, nxs⟩, ⟨la, lc, lxs⟩⟩ _ rfl _ rfl (((Below.refl _ _).alloc (by simp) _).trans (hb.mono (by omega)))
    rw [show (w.alloc (.cells #[.slice na nxs.length nc, .slice la lxs.length lc] 25)).heap.size = w.heap.size + 1 from by simp] at f0 f1 f2 f3
    simp only [vSl] at e0 e1 f0 f1 f2 f3
    by_cases hlt : k < nxs.length
    · have kv : k < vs.length := by have := L1.out; omega
      have kp : k < ps.length := by have := L2.out; omega
      obtain ⟨b, off, rfl, c0, c1, c2, c3, c4, c5, c6, c7, c8⟩ := (hN.2.2.1.mono hbw).nd k hlt
      obtain ⟨vb, vo, rfl, cv⟩ := (hV.2.2.1.mono hbw).int k kv
      obtain ⟨pb, po, rfl, cp⟩ := (hP.2.2.1.mono hbw).int k kp
      have gx := rdNd.mono (hN.2.2.2 _ (List.getElem_mem hlt)) hbw
      have hok := ndB_knot (hnd k hlt).1
      have HO := Lib.hid (okV_at hlt kv kp)
      have HA := Lib.hid (allFrom_step (okV nxs vs ps) hlt)
      have i1 : (0 : Int) ≤ k := by omega
      have i2 : (k : Int) < vs.length := by omega
      have i3 : (k : Int) < ps.length := by omega
      clear hN hL hV hP hE hO hnd
      simp only at cv cp
      generalize nxs[k] = x at *
      generalize vs[k] = v at *
      generalize ps[k] = p at *
      obtain ⟨c, hc⟩ : ∃ c, capB x = c := ⟨_, rfl⟩
      rw [hc] at HO
      have HC := Lib.hid hc
      clear hc
      obtain ⟨vp, hvp⟩ : ∃ b, volB p = b := ⟨_, rfl⟩
      have HH := Lib.hid hvp
      clear hvp
      by_cases t1 : v < 0
      · have g1 : decide (v < 0) = true := decide_eq_true t1
        have HW : Hid (btwB v 0 c = false) := by show _ = _; simp [btwB]; omega
        go_wp2_with fail
        refine wp_region_more_lit (by kernel_rfl) (by kernel_rfl) ?_
        repeat (go_big_quiet_step (((first | (go_at_call 37; exact Calls.more_of (rcap_lit HC.out _ (rdNd.mono gx (below_more _ _)) hok)) | (go_at_call 52; exact Calls.more_same (rvol_lit HH.out _))))))
        refine wpQuiet_nil ?_
        intro _ hwq
        obtain ⟨xq, hwq⟩ := hwq
        subst hwq
        have hbW1 := Below.more hb (by simpa using hb.size) xq
        have hbb1 : Below w.heap.size w (more wr xq) := hbw.trans ((below_more wr xq).mono hbw.size)
        go_wp2_with fail
        go_ret
        exact ⟨ret_bool (HS.out.trans (by rw [hm.out, HA.out, HO.out, HW.out]; simp)).symm, hbb1⟩
      have g1 : decide (v < 0) = false := decide_eq_false t1
      by_cases t3 : c < v
      · have g3 : decide (c < v) = true := decide_eq_true t3
        have HW : Hid (btwB v 0 c = false) := by show _ = _; simp [btwB]; omega
        go_wp2_with fail
        refine wp_region_more_lit (by kernel_rfl) (by kernel_rfl) ?_
        repeat (go_big_quiet_step (((first | (go_at_call 37; exact Calls.more_of (rcap_lit HC.out _ (rdNd.mono gx (below_more _ _)) hok)) | (go_at_call 52; exact Calls.more_same (rvol_lit HH.out _))))))
        refine wpQuiet_nil ?_
        intro _ hwq
        obtain ⟨xq, hwq⟩ := hwq
        subst hwq
        have hbW1 := Below.more hb (by simpa using hb.size) xq
        have hbb1 : Below w.heap.size w (more wr xq) := hbw.trans ((below_more wr xq).mono hbw.size)
        go_wp2_with fail
        go_ret
        exact ⟨ret_bool (HS.out.trans (by rw [hm.out, HA.out, HO.out, HW.out]; simp)).symm, hbb1⟩
      have g3 : decide (c < v) = false := decide_eq_false t3
      have HW : Hid (btwB v 0 c = true) := by show _ = _; simp [btwB]; omega
      clear HH t1 t3
      cases t2 : volB p
      · have HH := Lib.hid t2
        clear t2
        go_wp2_with fail
        refine wp_region_more_lit (by kernel_rfl) (by kernel_rfl) ?_
        repeat (go_big_quiet_step (((first | (go_at_call 37; exact Calls.more_of (rcap_lit HC.out _ (rdNd.mono gx (below_more _ _)) hok)) | (go_at_call 52; exact Calls.more_same (rvol_lit HH.out _))))))
        refine wpQuiet_nil ?_
        intro _ hwq
        obtain ⟨xq, hwq⟩ := hwq
        subst hwq
        have hbW1 := Below.more hb (by simpa using hb.size) xq
        have hbb1 : Below w.heap.size w (more wr xq) := hbw.trans ((below_more wr xq).mono hbw.size)
        go_wp2_with fail
        go_ret
        exact ⟨ret_bool (HS.out.trans (by rw [hm.out, HA.out, HO.out, HW.out, HH.out]; simp [Bool.false_and])).symm, hbb1⟩
      have HH := Lib.hid t2
      clear t2
      by_cases k3 : x.Kind = 3
      · have u3 := beqT k3
        have K3 := Lib.hid k3
        clear k3
        by_cases p0 : p = 0
        · have v0 := bneF p0
          have P0 := Lib.hid p0
          clear p0
          go_wp2_with fail
          refine wp_region_more_lit (by kernel_rfl) (by kernel_rfl) ?_
          repeat (go_big_quiet_step (((first | (go_at_call 37; exact Calls.more_of (rcap_lit HC.out _ (rdNd.mono gx (below_more _ _)) hok)) | (go_at_call 52; exact Calls.more_same (rvol_lit HH.out _))))))
          refine wpQuiet_nil ?_
          intro _ hwq
          obtain ⟨xq, hwq⟩ := hwq
          subst hwq
          have hbW1 := Below.more hb (by simpa using hb.size) xq
          have hbb1 : Below w.heap.size w (more wr xq) := hbw.trans ((below_more wr xq).mono hbw.size)
          go_wp2_with fail
          go_roundw
          case rel => exact ⟨k + 1, by omega, by go_num, hbW1, hm.out.trans (by rw [HA.out, HO.out, HW.out, HH.out]; simp [K3.out, P0.out])⟩
          case measure => simp [intOf]; omega
        · have v0 := bneT p0
          have P0 := Lib.hid p0
          clear p0
          go_wp2_with fail
          refine wp_region_more_lit (by kernel_rfl) (by kernel_rfl) ?_
          repeat (go_big_quiet_step (((first | (go_at_call 37; exact Calls.more_of (rcap_lit HC.out _ (rdNd.mono gx (below_more _ _)) hok)) | (go_at_call 52; exact Calls.more_same (rvol_lit HH.out _))))))
          refine wpQuiet_nil ?_
          intro _ hwq
          obtain ⟨xq, hwq⟩ := hwq
          subst hwq
          have hbW1 := Below.more hb (by simpa using hb.size) xq
          have hbb1 : Below w.heap.size w (more wr xq) := hbw.trans ((below_more wr xq).mono hbw.size)
          go_wp2_with fail
          go_ret
          exact ⟨ret_bool (HS.out.trans (by rw [hm.out, HA.out, HO.out, HW.out, HH.out]; simp [K3.out, P0.out])).symm, hbb1⟩
      · have u3 := beqF k3
        have K3 := Lib.hid k3
        clear k3
        go_wp2_with fail
        refine wp_region_more_lit (by kernel_rfl) (by kernel_rfl) ?_
        repeat (go_big_quiet_step (((first | (go_at_call 37; exact Calls.more_of (rcap_lit HC.out _ (rdNd.mono gx (below_more _ _)) hok)) | (go_at_call 52; exact Calls.more_same (rvol_lit HH.out _))))))
        refine wpQuiet_nil ?_
        intro _ hwq
        obtain ⟨xq, hwq⟩ := hwq
        subst hwq
        have hbW1 := Below.more hb (by simpa using hb.size) xq
        have hbb1 : Below w.heap.size w (more wr xq) := hbw.trans ((below_more wr xq).mono hbw.size)
        go_wp2_with fail
        go_roundw
        case rel => exact ⟨k + 1, by omega, by go_num, hbW1, hm.out.trans (by rw [HA.out, HO.out, HW.out, HH.out]; simp [K3.out])⟩
        case measure => simp [intOf]; omega
    · have HN : Hid (res = allFrom (okS lxs ss os) 0 lxs.length) := by
        show _ = _
        rw [HS.out, hm.out, allFrom_end _ (by omega)]; rfl
      clear hm HS
      go_wp2_with fail
      go_loopw [6] (fun s91 wr2 => ∃ k : Nat, k ≤ lxs.length ∧ s91 = .int .i64 k ∧ Below (w.heap.size + 2) ((w.alloc (.cells #[.slice na nxs.length nc, .slice la lxs.length lc] 25)).alloc (.cells #[.slice va vs.length vc, .slice pa ps.length pc, .slice ea ss.length ec, .slice oa os.length oc] 29)) wr2 ∧ Hid (allFrom (okS lxs ss os) 0 lxs.length = allFrom (okS lxs ss os) k lxs.length)) (fun i _ => lxs.length - (intOf i).toNat)
      case atStart => exact ⟨0, Nat.zero_le _, rfl, hb, rfl⟩
      clear hb hbw e0 e1 f0 f1 f2 f3
      case round =>
        as_aux_lemma =>
        obtain ⟨k, hk, rfl, hb, hm⟩ := hrel
        have hbw : Below w.heap.size w wr := hb0.trans (hb.mono (by omega))
        obtain ⟨f0, f1, f2, f3⟩ := boxSt (w.alloc (.cells #[.slice na nxs.length nc, .slice la lxs.length lc] 25)) wr 29 ⟨⟨va, vc, vs⟩, ⟨pa, pc, ps⟩, ⟨ea, ec, ss⟩, ⟨oa, oc, os⟩⟩ _ rfl (w.heap.size + 2) (by simp) hb
        rw [show (w.alloc (.cells #[.slice na nxs.length nc, .slice la lxs.length lc] 25)).heap.size = w.heap.size + 1 from by simp] at f0 f1 f2 f3
        obtain ⟨e0, e1⟩ := boxNet w wr 25 ⟨⟨na, nc, nxs⟩, ⟨la, lc, lxs⟩⟩ _ rfl _ rfl (((Below.refl _ _).alloc (by simp) _).trans (hb.mono (by omega)))
        simp only [vSl] at e0 e1 f0 f1 f2 f3
        by_cases hlt : k < lxs.length
        · have ks : k < ss.length := by have := L3.out; omega
          have ko : k < os.length := by have := L4.out; omega
          obtain ⟨b, off, rfl, c0, c1, c2, c3, c4, c5, c6, c7, c8, c9, c10⟩ := (hL.2.2.1.mono hbw).lk k hlt
          obtain ⟨eb, eo, rfl, ce⟩ := (hE.2.2.1.mono hbw).int k ks
          obtain ⟨ob, oo, rfl, co⟩ := (hO.2.2.1.mono hbw).boolAt k ko
          have HO := Lib.hid (okS_at hlt ks ko)
          have HA := Lib.hid (allFrom_step (okS lxs ss os) hlt)
          have i1 : (0 : Int) ≤ k := by omega
          have i2 : (k : Int) < ss.length := by omega
          have i3 : (k : Int) < os.length := by omega
          clear hN hL hV hP hE hO hnd
          simp only at ce co
          generalize lxs[k] = x at *
          generalize ss[k] = v at *
          generalize os[k] = o at *
          by_cases t1 : v < 0
          · have g1 : decide (v < 0) = true := decide_eq_true t1
            have HW : Hid (btwB v 0 1000 = false) := by show _ = _; simp [btwB]; omega
            go_wp2_with fail
            go_ret
            exact ⟨ret_bool (HN.out.trans (by rw [hm.out, HA.out, HO.out]; simp [HW.out])).symm, hbw⟩
          have g1 : decide (v < 0) = false := decide_eq_false t1
          by_cases t3 : (1000 : Int) < v
          · have g3 : decide ((1000 : Int) < v) = true := decide_eq_true t3
            have HW : Hid (btwB v 0 1000 = false) := by show _ = _; simp [btwB]; omega
            go_wp2_with fail
            go_ret
            exact ⟨ret_bool (HN.out.trans (by rw [hm.out, HA.out, HO.out]; simp [HW.out])).symm, hbw⟩
          have g3 : decide ((1000 : Int) < v) = false := decide_eq_false t3
          have HW : Hid (btwB v 0 1000 = true) := by show _ = _; simp [btwB]; omega
          cases o
          · go_wp2_with fail
            go_roundw
            case rel => exact ⟨k + 1, by omega, by go_num, hb, hm.out.trans (by rw [HA.out, HO.out]; simp [HW.out])⟩
            case measure => simp [intOf]; omega
          by_cases k4 : x.Kind = 4
          · have u4 := bneF k4
            have K4 := Lib.hid k4
            clear k4
            go_wp2_with fail
            go_roundw
            case rel => exact ⟨k + 1, by omega, by go_num, hb, hm.out.trans (by rw [HA.out, HO.out]; simp [HW.out, K4.out])⟩
            case measure => simp [intOf]; omega
          · have u4 := bneT k4
            have K4 := Lib.hid k4
            clear k4
            go_wp2_with fail
            go_ret
            exact ⟨ret_bool (HN.out.trans (by rw [hm.out, HA.out, HO.out]; simp [HW.out, K4.out])).symm, hbw⟩
        · go_wp2_with fail
          go_ret
          refine ⟨ret_bool ?_, hbw⟩
          rw [HN.out, hm.out, allFrom_end _ (by omega)]

end Go.Proofs.YtlcfnbnpkcjjlaaGreat
