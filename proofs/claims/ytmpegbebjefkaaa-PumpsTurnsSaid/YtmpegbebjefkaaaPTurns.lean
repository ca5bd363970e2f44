/- The law PumpsTurns returns true for every link, all levels and every cut, and leaves its arguments as they were. Conditions: none beyond the row's own. -/
import Derived.Test.YtmpegbebjefkaaaRows
import Derived.WalkKit
import Derived.ProofKit
import Derived.OpenShut
import Derived.ShutString
import Derived.ChangeOld
import Derived.Below
import Derived.Test.YtmpegbebjefkaaaPtw
import Derived.Test.YtmpegbebjefkaaaMtl
import Derived.Test.YtmpegbebjefkaaaRowk
namespace Go.Proofs.Ytmpegbebjefkaaa.pumpsTurns
open Go.ChangeShapes Go.WideShapes Go.ChangeAt Go.RowKit
set_option linter.unusedVariables false
set_option linter.unusedSimpArgs false
open Go.ChangeMaps (open_string shut_string)
set_option linter.unusedVariables false

theorem own : ownKnob Try.prog.godebug = none := by kernel_rfl
theorem laidOut : laidOutB Try.prog = true := by kernel_rfl

set_option maxRecDepth 100000 in
set_option maxHeartbeats 8000000 in
theorem walk (v0 : Value) (x0 : Lk) (v1 : Value) (x1 : Sl Int) (cut : Int) (w : World) (w0 : v0 = vLk x0 ∧ gLk w x0) (w1 : v1 = vSl x1 ∧ gSl eInt 1 gI64 w x1) (w2 : (Lit.int .u8 cut).wf = true) :
    Calls Try.prog 7 #[v0, v1, .int .u8 cut] w fun e w' => e = .returned (.bool true) ∧ Below w.heap.size w w' := by
  obtain ⟨rfl, hg⟩ := w0
  obtain ⟨rfl, hgs⟩ := w1
  have bc := fits_u8 w2
  obtain ⟨ct, rfl⟩ : ∃ ct : Nat, cut = (ct : Int) := ⟨cut.toNat, by omega⟩
  have HBC : Hid (ct ≤ 255) := by show _ ≤ _; omega
  clear bc w2
  have hb0 : Below w.heap.size w (w.alloc (.cells (eLk x0).toArray 25)) := (Below.refl _ _).alloc (Nat.le_refl _) _
  have HG := Lib.hid (rdLk.mono hg hb0)
  have HBX := Lib.hid (LkBx.new w x0 25)
  have HLS : Hid (IsInts (w.alloc (.cells (eLk x0).toArray 25)) (vSl x1) x1.xs) := hgs.isL.mono hb0
  clear hgs hg
  obtain ⟨la, lc, ls⟩ := x1
  simp only [vSl] at HLS ⊢
  obtain ⟨⟨R, E⟩, hres⟩ : ∃ r, stM x0 ls = r := ⟨_, rfl⟩
  have hst := fun W (hW : gLk W x0) (hL : IsInts W (.slice la ls.length lc) ls) => pstarts_any x0 ls _ W hW hL
  rw [hres] at hst
  simp only at hst
  have HRES := Lib.hid hres
  have hst2 := fun (k : Nat) (v : Value) W (hW : gLk W x0) (hL : IsInts W v (ls.take k)) => pstarts_any x0 (ls.take k) v W hW hL
  have honx := fun (was : Bool) (n : Int) W (hW : gLk W x0) => ponx_any x0 was n W hW
  clear hres
  obtain ⟨nm, fr, tt, kd, ln, up, dn, sc, wi, he, cu⟩ := x0
  go_enter Try.func7, Try.ntmps7
  go_wp2_with fail
  refine Calls.go hb0 (pawake_any _) ?_
  rintro e w1 rfl hb1' hb1
  have HBX := Lib.hid (HBX.out.mono hb1')
  have HG := Lib.hid (rdLk.mono HG.out hb1')
  have HLS := Lib.hid (HLS.out.mono hb1')
  obtain ⟨c0, c1, c2, c3, c4, c5, c6, c7, c8, c9, c10⟩ := HBX.out
  simp only at c0 c1 c2 c3 c4 c5 c6 c7 c8 c9 c10
  clear hb1' hb0
  go_wp2_with fail
  refine Calls.go hb1 (psmall_any ⟨nm, fr, tt, kd, ln, up, dn, sc, wi, he, cu⟩ _) ?_
  rintro e w2 ⟨sm, rfl⟩ hb2' hb2
  clear c0 c1 c2 c3 c4 c5 c6 c7 c8 c9 c10
  have HBX := Lib.hid (HBX.out.mono hb2')
  have HG := Lib.hid (rdLk.mono HG.out hb2')
  have HLS := Lib.hid (HLS.out.mono hb2')
  obtain ⟨c0, c1, c2, c3, c4, c5, c6, c7, c8, c9, c10⟩ := HBX.out
  simp only at c0 c1 c2 c3 c4 c5 c6 c7 c8 c9 c10
  clear hb2' hb1
  cases sm
  · go_wp2_with fail
    go_ret
    exact ⟨rfl, hb2⟩
  cases t1 : decide ((200 : Int) < (ls.length : Int))
  rotate_left
  · go_wp2_with fail
    go_ret
    exact ⟨rfl, hb2⟩
  have HLL : Hid (ls.length ≤ 200) := by show _ ≤ _; simp only [decide_eq_false_iff_not] at t1; omega
  go_wp2_with fail
  refine Calls.go hb2 (hst _ HG.out HLS.out) ?_
  rintro e w3 ⟨v3, rfl, hown⟩ hb3' hb3
  clear c0 c1 c2 c3 c4 c5 c6 c7 c8 c9 c10
  have HBX := Lib.hid (HBX.out.mono hb3')
  have HG := Lib.hid (rdLk.mono HG.out hb3')
  have HLS := Lib.hid (HLS.out.mono hb3')
  obtain ⟨c0, c1, c2, c3, c4, c5, c6, c7, c8, c9, c10⟩ := HBX.out
  simp only at c0 c1 c2 c3 c4 c5 c6 c7 c8 c9 c10
  obtain ⟨a3, cp3, rfl⟩ := hown.isSlice
  clear hb3' hb2 hst t1
  cases hE : (E == 0)
  · have hR0 : R = [] ∧ (E != 0) = true := by
      refine ⟨?_, by rw [bne, hE]; rfl⟩
      have h2 := HRES.out
      unfold stM stR at h2
      split at h2
      · exact (Prod.mk.inj h2).1.symm
      · split at h2
        · exact (Prod.mk.inj h2).1.symm
        · split at h2
          · exact (Prod.mk.inj h2).1.symm
          · have := (Prod.mk.inj h2).2
            subst this
            cases hE
    obtain ⟨rfl, hne⟩ := hR0
    go_wp2_with fail
    go_ret
    exact ⟨rfl, hb3⟩
  obtain rfl : E = 0 := beq_iff_eq.1 hE
  have hok : pumpB ⟨nm, fr, tt, kd, ln, up, dn, sc, wi, he, cu⟩ = true ∧ ls.any (fun n => !levB n) = false ∧ R = stGo up dn ls 0 false [] := by
    have h2 := HRES.out
    unfold stM stR at h2
    split at h2
    · cases (Prod.mk.inj h2).2
    · rename_i q1
      split at h2
      · cases (Prod.mk.inj h2).2
      · split at h2
        · cases (Prod.mk.inj h2).2
        · rename_i q3
          exact ⟨by simpa using q1, by simpa using q3, (Prod.mk.inj h2).1.symm⟩
  obtain ⟨hpb, hlv, hR⟩ := hok
  have hdu : dn < up := pumpB_down hpb
  have HDU := Lib.hid hdu
  obtain ⟨wasE, hT⟩ := stGo_turns up dn ls hdu
  rw [← hR] at hT
  have HT := Lib.hid hT
  have HR := Lib.hid hR
  have HPB := Lib.hid hpb
  have HLV : Hid (∀ i (h : i < ls.length), levB ls[i] = true) := fun i h => by
    have := hlv
    rw [List.any_eq_false] at this
    simpa using this _ (List.getElem_mem h)
  have hRl : R.length ≤ 200 := by
    rw [hR]
    refine Nat.le_trans (stGo_len up dn ls 0 false []) ?_
    have := HLL.out; simp; omega
  have HRL := Lib.hid hRl
  clear hT hR hpb hlv hdu hRl hE HRES
  have hRI : IsInts w3 (.slice a3 R.length cp3) R := hown.isL (fun _ => rfl)
  have HRI := Lib.hid hRI
  obtain ⟨_, _, hv1, hr1, hr2, qR⟩ := hRI
  simp only [Value.slice.injEq] at hv1
  obtain ⟨rfl, _, rfl⟩ := hv1
  have hLI := HLS.out
  obtain ⟨_, _, hv1, hl1, hl2, qL⟩ := hLI
  simp only [Value.slice.injEq] at hv1
  obtain ⟨rfl, _, rfl⟩ := hv1
  have hself : Below w3.heap.size w3 w3 := Below.refl _ _
  go_wp2_with fail
  go_loopw [42] (fun s42 wr => ∃ i : Nat, i ≤ R.length ∧ s42 = .int .i64 i ∧ Below w3.heap.size w3 wr) (fun i _ => R.length - (intOf i).toNat)
  case atStart => exact ⟨0, Nat.zero_le _, rfl, hself⟩
  case round =>
    as_aux_lemma =>
    obtain ⟨i, hi, rfl, hb⟩ := hrel
    by_cases hlt : i < R.length
    · obtain ⟨n, hn1, hn2, hn3⟩ := HT.out.rng _ (List.getElem_mem hlt)
      obtain ⟨b, off, rfl, d0⟩ := (qR.mono hb).int i hlt
      obtain ⟨b', off', rfl, d1⟩ := (qL.mono hb).int n hn2
      rw [hn1] at d0
      have hy : ls.getD n 0 = ls[n] := by rw [List.getD_eq_getElem?_getD, List.getElem?_eq_getElem hn2]; rfl
      rw [hy] at hn3
      clear c0 c1 c2 c3 c4 c5 c6 c7 c8 c9 c10
      obtain ⟨c0, c1, c2, c3, c4, c5, c6, c7, c8, c9, c10⟩ := HBX.out.mono hb
      simp only at c0 c1 c2 c3 c4 c5 c6 c7 c8 c9 c10
      have u1 : decide ((n : Int) < 0) = false := decide_eq_false (by omega)
      have u2 : decide (ls.length ≤ n) = false := decide_eq_false (by omega)
      have u3 : decide (ls[n] < up) = false := decide_eq_false (by omega)
      have x1 : IntKind.i64.wrap ((i : Int) + 1) = i + 1 := IntWalk.i64_in _ (by have := HRL.out; omega)
      generalize ls[n] = y at *
      clear hy hn3
      by_cases hi0 : i = 0
      · have u4 : decide ((0 : Int) < (i : Int)) = false := decide_eq_false (by omega)
        have u4' : decide (0 < i) = false := decide_eq_false (by omega)
        clear hn1
        have hi1 : i + 1 ≤ R.length := hlt
        clear hi0
        go_wp2_with fail
        go_quiet (fail)
        go_wp2_with fail
        go_roundw
        case measure => simp [intOf]; omega
        case rel => exact ⟨i + 1, by omega, by go_num, by repeat' (first | exact Below.refl _ _ | assumption | refine Below.more ?_ ?_ _ | refine Below.alloc ?_ ?_ _ | refine Below.drew ?_ | refine below_drewN ?_ _ | refine Below.setCell ?_ ?_ _ | exact Below.size (by assumption) | (simp [go_sem, size_more]; done) | (simp [go_sem, size_more]; omega))⟩
      · obtain ⟨j, hj⟩ : ∃ j, j + 1 = i := ⟨i - 1, by omega⟩
        have hcon := HT.out.con j (by omega)
        have hjl : j < R.length := by omega
        obtain ⟨p, hp1, hp2, hp3⟩ := HT.out.rng _ (List.getElem_mem hjl)
        have gj : R.getD j 0 = (p : Int) := by rw [List.getD_eq_getElem?_getD, List.getElem?_eq_getElem hjl]; exact hp1
        have gi : R.getD (j + 1) 0 = (n : Int) := by subst hj; rw [List.getD_eq_getElem?_getD, List.getElem?_eq_getElem hlt]; exact hn1
        rw [gj, gi] at hcon
        obtain ⟨hpn, m, hm1, hm2, hm3⟩ := hcon
        have hany := any_seg (a := p) (b := n) (m := m) (by omega) (by omega) (by omega) hm3
        have d2 := (qR.mono hb).intAt j hjl
        rw [hp1] at d2
        have hvL := HLS.out.mono hb
        obtain ⟨aS, cS, qS, qS1, qS2, hrun⟩ := sub_lh undInts' szInt hvL p n p n rfl rfl (by omega) (by omega)
        clear hvL
        generalize (ls.drop p).take (n - p) = seg at *
        have u4 : decide ((0 : Int) < (i : Int)) = true := decide_eq_true (by omega)
        have u4' : decide (0 < i) = true := decide_eq_true (by omega)
        have u5 : decide (n ≤ p) = false := decide_eq_false (by omega)
        have x2 : IntKind.i64.wrap ((i : Int) - 1) = j := by rw [IntKind.wrap_i64]; have := HRL.out; omega
        clear gj gi hp1 hp2 hp3 hpn hm1 hm2 hm3 hj hn1 hi0
        go_wp2_with fail
        go_quiet (fail)
        have hbq : Below w3.heap.size w3 (wr.drewN nq) := below_drewN hb nq
        go_wp2_with fail
        refine Calls.go hbq (containsInts 22 #[.pointer (some ⟨w.heap.size, 0, none⟩)] ent22 (fun x => decide (x < dn)) seg _ _ ⟨aS, cS, rfl, qS1, qS2, qS.mono (below_drewN (Below.refl _ _) nq)⟩ (fun W' hW' x _ => lturns1_any x dn w.heap.size W' (HBX.out.mono (hbq.trans (hW'.mono hbq.size))).c6)) ?_
        rintro e wS rfl hbS' hbS
        rw [hany]
        clear d0 d1 d2 hrun qS hbS' hbq
        clear c0 c1 c2 c3 c4 c5 c6 c7 c8 c9 c10
        go_wp2_with fail
        go_roundw
        case measure => simp [intOf]; omega
        case rel => exact ⟨i + 1, by omega, by go_num, hbS⟩
    · obtain rfl : i = R.length := by omega
      clear c0 c1 c2 c3 c4 c5 c6 c7 c8 c9 c10
      go_wp2_with fail
      go_loopw [11, 91] (fun s11 s91 wr => ∃ (i : Nat) (was : Bool), i ≤ ls.length ∧ s91 = .int .i64 i ∧ s11 = .bool was ∧ Hid (was = onAt up dn ls i) ∧ Below w3.heap.size w3 wr) (fun _ i _ => ls.length - (intOf i).toNat)
      case atStart => exact ⟨0, false, Nat.zero_le _, rfl, rfl, rfl, hb⟩
      case round =>
        as_aux_lemma =>
        obtain ⟨i, was, hi, rfl, rfl, hwas, hb⟩ := hrel
        by_cases hlt : i < ls.length
        · obtain ⟨b, off, rfl, d0⟩ := (qL.mono hb).int i hlt
          have hRr := HRI.out.mono hb
          have hhas := HT.out.has i hlt
          have hnx : onAt up dn ls (i + 1) = onB up dn was ls[i] := by
            rw [onAt, ← hwas.out, List.getD_eq_getElem?_getD, List.getElem?_eq_getElem hlt]; rfl
          have hlvi := HLV.out i hlt
          have hc := honx was ls[i] wr (rdLk.mono HG.out hb)
          have hom : onM ⟨nm, fr, tt, kd, ln, up, dn, sc, wi, he, cu⟩ was ls[i] = (onB up dn was ls[i], 0) := by simp [onM, HPB.out, hlvi]
          rw [hom] at hc
          simp only at hc
          rw [hnx, ← hwas.out] at hhas
          obtain ⟨c0, c1, c2, c3, c4, c5, c6, c7, c8, c9, c10⟩ := HBX.out.mono hb
          simp only at c0 c1 c2 c3 c4 c5 c6 c7 c8 c9 c10
          have x1 : IntKind.i64.wrap ((i : Int) + 1) = i + 1 := IntWalk.i64_in _ (by have := HLL.out; omega)
          have hdu := HDU.out
          generalize ls[i] = y at *
          have hui : onB up dn was y = (decide (up ≤ y) || (was && !decide (y < dn))) := by
            unfold onB
            congr 2
            by_cases q : dn ≤ y
            · rw [decide_eq_true q, decide_eq_false (by omega)]; rfl
            · rw [decide_eq_false q, decide_eq_true (by omega)]; rfl
          have hex : ¬ (decide (up ≤ y) = true ∧ decide (y < dn) = true) := by simp only [decide_eq_true_eq]; omega
          rw [hui] at hnx hhas hc
          clear hom hlvi hdu hui hwas
          cases u1 : decide (up ≤ y) <;> cases u2 : decide (y < dn) <;> cases was
          all_goals
            rw [u1, u2] at hnx hhas hc hex
            simp only [Bool.or_false, Bool.or_true, Bool.false_or, Bool.true_or, Bool.and_false, Bool.and_true, Bool.false_and, Bool.true_and, Bool.not_false, Bool.not_true] at hnx hhas hc
            have HNX := Lib.hid hnx.symm
            clear hnx
            first
            | (exfalso; exact hex ⟨rfl, rfl⟩)
            | (clear hex
               go_wp2_with fail
               refine Calls.go hb hc ?_
               rintro e w5 rfl hb5' hb5
               have c5 := box_lt c5 hb5'
               have c6 := box_lt c6 hb5'
               have hRr := hRr.mono hb5'
               first
               | (go_wp2_with fail
                  go_roundw
                  case measure => simp [intOf]; omega
                  case rel => exact ⟨i + 1, _, by omega, by go_num, rfl, HNX.out, hb5⟩)
               | (go_wp2_with fail
                  refine Calls.go hb5 (containsI_any R i _ _ hRr) ?_
                  rintro e w6 rfl hb6' hb6
                  rw [List.contains_iff_mem.2 (hhas (by simp) (by simp))]
                  have c5 := box_lt c5 hb6'
                  have c6 := box_lt c6 hb6'
                  go_wp2_with fail
                  go_roundw
                  case measure => simp [intOf]; omega
                  case rel => exact ⟨i + 1, _, by omega, by go_num, rfl, HNX.out, hb6⟩))
        · obtain rfl : i = ls.length := by omega
          as_aux_lemma =>
          obtain ⟨k, hk⟩ : ∃ k, ct % (ls.length + 1) = k := ⟨_, rfl⟩
          have hkl : k ≤ ls.length := by rw [← hk]; have := Nat.mod_lt ct (show 0 < ls.length + 1 by omega); omega
          have x1 : IntKind.i64.wrap ((ls.length : Int) + 1) = (ls.length : Int) + 1 := IntWalk.i64_in _ (by have := HLL.out; omega)
          have x2 : IntKind.i64.wrap (ct : Int) = ct := IntWalk.i64_in _ (by have := HBC.out; omega)
          have x3 : (ct : Int).tmod ((ls.length : Int) + 1) = (k : Int) := by
            rw [Int.tmod_eq_emod_of_nonneg (by omega), ← hk]; rfl
          have x4 : IntKind.i64.wrap (k : Int) = k := IntWalk.i64_in _ (by have := HLL.out; omega)
          have x5 : (((ls.length : Int) + 1) == 0) = false := by rw [beq_eq_false_iff_ne]; omega
          have hIT := HLS.out.mono hb
          obtain ⟨aT, cT, qT, qT1, qT2, hrunT⟩ := sub_h undInts' szInt hIT k k rfl hkl
          have hIT : IsInts wr (.slice aT (ls.take k).length cT) (ls.take k) := ⟨aT, cT, rfl, qT1, qT2, qT⟩
          have hRr := HRI.out.mono hb
          have hGr := rdLk.mono HG.out hb
          have hs2 := fun W hW hL => hst2 k (.slice aT (ls.take k).length cT) W hW hL
          have hstk : stM ⟨nm, fr, tt, kd, ln, up, dn, sc, wi, he, cu⟩ (ls.take k) = (stGo up dn (ls.take k) 0 false [], 0) := by
            have hl1 : (ls.take k).length ≤ 200 := by simp; have := HLL.out; omega
            have hl2 : (ls.take k).any (fun n => !levB n) = false := by
              rw [List.any_eq_false]
              intro n hn
              obtain ⟨i, hi, rfl⟩ := List.getElem_of_mem (List.mem_of_mem_take hn)
              simpa using HLV.out i hi
            unfold stM stR
            rw [if_neg (by rw [HPB.out]; simp), if_neg (by omega), if_neg (by rw [hl2]; simp)]
          rw [hstk] at hs2
          simp only at hs2
          obtain ⟨t, ht⟩ := stGo_prefix up dn ls k
          rw [← HR.out] at ht
          generalize stGo up dn (ls.take k) 0 false [] = G at *
          have hGl : G.length ≤ R.length := by rw [ht]; simp
          have hGt : R.take G.length = G := by rw [ht]; simp
          obtain ⟨aE, cE, qE, qE1, qE2, hrunE⟩ := sub_h undInts' szInt hRr G.length G.length rfl hGl
          rw [hGt] at qE qE1 hrunE
          have hIE : IsInts wr (.slice aE G.length cE) G := ⟨aE, cE, rfl, qE1, qE2, qE⟩
          have u1 : decide (G.length ≤ R.length) = true := decide_eq_true hGl
          clear ht hGt hGl hstk hk hkl qT qE hst2 honx
          generalize ls.take k = lk at *
          obtain ⟨c0, c1, c2, c3, c4, c5, c6, c7, c8, c9, c10⟩ := HBX.out.mono hb
          simp only at c0 c1 c2 c3 c4 c5 c6 c7 c8 c9 c10
          go_wp2_with fail
          refine wp_region_more_tail 4 (by kernel_rfl) (by kernel_rfl) ?_
          simp only [List.take_succ_cons, List.take_zero]
          repeat (go_big_quiet_step (fail))
          refine wpQuiet_nil ?_
          intro _ hwq
          obtain ⟨xq, hwq⟩ := hwq
          subst hwq
          refine wpAny_ready (rs := [4]) (by kernel_rfl) (by simp) ?_
          refine AllReady.cons rfl (fun K hK => ?_) AllReady.nil
          go_simp
          go_at_call 11
          refine (hs2 _ (rdLk.mono hGr (below_more _ _)) (hIT.mono (below_more _ _))).mono ?_
          rintro e w6 ⟨⟨v6, rfl, hown6⟩, hb6⟩
          have hb6w : Below wr.heap.size wr w6 := (below_more wr xq).trans (hb6.mono (by rw [size_more]; omega))
          obtain ⟨a6, c6', rfl⟩ := hown6.isSlice
          refine hK _ _ ?_
          clear hK K
          refine wpAny_take (i := 5) (v := ?_) rfl (by kernel_rfl) (by kernel_rfl) (by kernel_rfl) (fun _ _ _ h => h) (Or.inl ⟨by rfl, ?_⟩) ?_
          case refine_2 => (intro w; go_simp; try (with_reducible rfl))
          refine wpAny_take (i := 6) (v := ?_) rfl (by kernel_rfl) (by kernel_rfl) (by kernel_rfl) (fun _ _ _ h => h) (Or.inl ⟨by rfl, ?_⟩) ?_
          case refine_2 => (intro w; go_simp; try (with_reducible rfl))
          refine wpAny_take (i := 7) (v := ?_) rfl (by kernel_rfl) (by kernel_rfl) (by kernel_rfl) (fun _ _ _ h => h) (Or.inl ⟨by rfl, ?_⟩) ?_
          case refine_2 => (intro w; go_simp; try (with_reducible rfl))
          refine wpAny_ready (rs := [8]) (by kernel_rfl) (by simp) ?_
          refine AllReady.cons rfl (fun K hK => ?_) AllReady.nil
          go_simp
          refine hK _ _ ?_
          clear hK K
          refine wpAny_ready (rs := [9]) (by kernel_rfl) (by simp) ?_
          refine AllReady.cons rfl (fun K hK => ?_) AllReady.nil
          go_simp
          refine hK _ _ ?_
          clear hK K
          refine wpAny_done (by kernel_rfl) ?_ _
          have hq := eqInts G G _ _ _ (hown6.isL (fun _ => rfl)) (hIE.mono hb6w)
          rw [decide_eq_true (rfl : G = G)] at hq
          have hbe := hb3.trans ((hb.trans (hb6w.mono hb.size)).mono hb3.size)
          clear c0 c1 c2 c3 c4 c5 c6 c7 c8 c9 c10
          clear hrunT x1 x2 x3 x4 x5 hs2 hown6 hb6 hb6w
          go_wp2_with fail
          refine Calls.go hbe hq ?_
          rintro e w7 rfl _ hb7
          go_wp2_with fail
          go_ret
          exact ⟨rfl, hb7⟩

/-! ### The row -/
set_option maxRecDepth 100000 in
theorem lifted (os : Os) (started : os.Started) (H : Type) (enc : TypeId × Value → H) :
    ReturnsInHanded {} Try.checked os 7 .any (Rows.pumpsTurnsSpec.pre6 enc Try.prog Try.f7 Rows.pumpsTurnsRow.domain false) (Rows.pumpsTurnsSpec.post enc Try.prog Try.f7 false true false false) := by
  refine returnsInHanded_of_change (C := Try.checked) own started (by kernel_rfl) Try.func7
    (ChangeSpec.witness6 (enc := enc) (C := Try.checked) false ⟨#[], #[.agg #[.string ⟨#[]⟩, .string ⟨#[]⟩, .string ⟨#[]⟩, .int .i64 0, .int .i64 0, .int .i64 0, .int .i64 0, .string ⟨#[]⟩, .int .i64 0, .int .i64 0, .slice none 0 0], .slice none 0 0, .int .u8 0], []⟩ 8 (by kernel_rfl) (by kernel_rfl) (by kernel_rfl) (by kernel_rfl)) ?_
  intro W base args ds gs before hval0 hW hcnd _
  have hval : ∀ (j : Nat) t v, Try.f7.params[j]? = some t → args[j]? = some v → Value.okWide Try.prog W .any base t v := hval0
  have hW' := hW
  obtain ⟨p, q, hA0, hV, rfl, hfz, hnd⟩ := hW
  have hA : DataW.TrodAll enc Try.prog W 0 (fun _ => true) true Try.f7.params.toList args.toList ds p := hA0
  rw [Try.params7] at hA hval
  obtain ⟨v0, vs0, d0, ds0, p0, q0, hargs, rfl, rfl, h0, r0⟩ := trodAll_cons hA
  obtain ⟨v1, vs1, d1, ds1, p1, q1, rfl, rfl, rfl, h1, r1⟩ := trodAll_cons r0
  obtain ⟨v2, vs2, d2, ds2, p2, q2, rfl, rfl, rfl, h2, r2⟩ := trodAll_cons r1
  obtain ⟨rfl, rfl, rfl⟩ := trodAll_nil r2
  obtain rfl : args = #[v0, v1, v2] := by cases args; simp_all
  obtain ⟨rfl, rfl⟩ := trodVars_none hV
  have k0 := h0
  have lt0 : ∀ x ∈ p0, x.block < W.heap.size := by obtain ⟨m, hm⟩ := k0; exact DataW.trod_lt m _ _ _ hm
  obtain ⟨x0, w0⟩ := openLk (hval 0 25 v0 rfl rfl) h0
  have k1 := h1
  have lt1 : ∀ x ∈ p1, x.block < W.heap.size := by obtain ⟨m, hm⟩ := k1; exact DataW.trod_lt m _ _ _ hm
  obtain ⟨x1, w1⟩ := openInts (hval 1 26 v1 rfl rfl) h1
  obtain ⟨a2, rfl, rfl, rfl, w2⟩ := open_int Try.underlying5 (hval 2 5 v2 rfl rfl) h2
  clear hA0 hval0
  refine (walk v0 x0 v1 x1 a2 W w0 w1 w2).mono fun e W' ⟨he, bel⟩ => ?_
  subst he
  exact ⟨_, rfl, _, _, _, [], _, [], hW', trodAll_mk1 (shut_bool Try.underlying4 _), (trodAll_cons_mk (Below.trod laidOut (by kernel_rfl) (of_decide_eq_true (by kernel_rfl)) k0 bel lt0) (trodAll_cons_mk (Below.trod laidOut (by kernel_rfl) (of_decide_eq_true (by kernel_rfl)) k1 bel lt1) (trodAll_cons_mk (shut_int Try.underlying5 w2) trodAll_mk0))), rfl, bel.frame _, fun h => by cases h⟩

theorem over : Rows.pumpsTurnsRow.holds Try.pinned (OpenSpec.ofChange Rows.pumpsTurnsSpec) :=
  OpenClaim.holds_of_wide 7 Try.f7 rfl rfl rfl rfl rfl rfl rfl ⟨rfl, rfl, rfl, rfl, rfl⟩ rfl rfl rfl rfl rfl (by kernel_rfl) Try.func7 (by kernel_rfl)
    (of_decide_eq_true (by kernel_rfl)) (by unfold Func.isWrapper; first | (rw [if_pos (by decide +kernel)]; kernel_rfl) | (rw [if_neg (by decide +kernel)]; exact ⟨rfl, rfl⟩))
    (fun os started H enc _ => lifted os started H enc)

end Go.Proofs.Ytmpegbebjefkaaa.pumpsTurns
namespace Go.Proofs.Ytmpegbebjefkaaa
/-- The statement. -/
theorem pumpsTurns_holds : Rows.PumpsTurnsSaid := pumpsTurns.over
#print axioms pumpsTurns_holds
end Go.Proofs.Ytmpegbebjefkaaa
