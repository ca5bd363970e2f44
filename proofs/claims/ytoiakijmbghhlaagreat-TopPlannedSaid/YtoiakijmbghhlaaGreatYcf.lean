/- certificate.holds. Conditions: shaped rows, a right plan. -/
import Derived.Test.YtoiakijmbghhlaaGreatYce
namespace Go.Proofs.YtoiakijmbghhlaaGreat
open Go.RowKit
set_option linter.unusedVariables false
set_option linter.unusedSimpArgs false

def pairB (p : PlD) (row nxt : List Int) (i m k : Nat) : Bool :=
  if i + 1 = m then row.getD (2 * k + 1) 0 == 0
  else allFrom (stepQ p (fun w c => findB nxt w c (row.getD (2 * k + 1) 0)) (row.getD (2 * k) 0) (p.I.xs.getD i 0)) 0 p.L.xs.length
def holdB (p : PlD) (rows : List (List Int)) (i : Nat) : Bool :=
  !(i == 0 && (Pn.fnd (prs (rows.getD i [])) p.St).isNone) && allFrom (pairB p (rows.getD i []) (rows.getD (i + 1) []) i rows.length) 0 ((rows.getD i []).length / 2)

set_option maxRecDepth 100000 in
set_option maxHeartbeats 16000000 in
theorem chold_any (p : PlD) (rs : List (Sl Int)) (v : Value) (i : Nat) (w : World) (hg : gPl w p) (hp : PlOk p) (hr : IsRws w v rs) (hgood : ∀ s ∈ rs, RowGood p s.xs) (h8 : ∀ s ∈ rs, s.xs.length ≤ 8000) (hrl : rs.length = p.I.xs.length + 1) (hi : i < rs.length) :
    Calls Tryz.prog 76 #[vPl p, v, .int .i64 i] w fun e w' => e = .returned (.bool (holdB p (rs.map (·.xs)) i)) ∧ Below w.heap.size w w' := by
  obtain ⟨va, vc, rfl, -, -, hC⟩ := hr.1
  have hb0 : Below w.heap.size w (w.alloc (.cells (ePl p).toArray 68)) := (Below.refl _ _).alloc (Nat.le_refl _) _
  have hb1 := hb0.alloc (by simp) (.cells #[.slice va rs.length vc] 70)
  have hb2 := hb1.alloc (by simp <;> omega) (.cells #[.int .i64 i] 3)
  obtain ⟨W, hW⟩ : ∃ W, W = (((w.alloc (.cells (ePl p).toArray 68)).alloc (.cells #[.slice va rs.length vc] 70)).alloc (.cells #[.int .i64 i] 3)) := ⟨_, rfl⟩
  obtain ⟨c0, c1, c2, c3, c4, c5, c6⟩ := boxPl w (((w.alloc (.cells (ePl p).toArray 68)).alloc (.cells #[.slice va rs.length vc] 70)).alloc (.cells #[.int .i64 i] 3)) 68 p _ rfl _ rfl (((Below.refl _ _).alloc (by simp) _).alloc (by simp) _)
  have e1 : W.cell? ⟨w.heap.size + 1, 0, none⟩ = some (.slice va rs.length vc) := by rw [hW]; simp [go_sem]
  have e2 : W.cell? ⟨w.heap.size + 1 + 1, 0, none⟩ = some (.int .i64 i) := by rw [hW]; simp [go_sem]
  have HW := Lib.hid hW
  rw [← hW] at hb2 c0 c1 c2 c3 c4 c5 c6
  obtain ⟨b, off, rfl, d0⟩ := (hC.mono hb2).slAt i hi
  have hsx := ((hr.mono hb2).2 _ (List.getElem_mem hi))
  have hgr := hgood _ (List.getElem_mem hi)
  have h8r := h8 _ (List.getElem_mem hi)
  have hff := cfind_any rs[i].xs (vSl rs[i]) p.St W hsx hgr.ev hgr.asc h8r
  obtain ⟨res, hres⟩ : ∃ res, res = holdB p (rs.map (·.xs)) i := ⟨_, rfl⟩
  rw [← hres]
  have hgd : ∀ j (h : j < rs.length), (rs.map (·.xs)).getD j [] = rs[j].xs := fun j h => by simp [List.getD, List.getElem?_eq_getElem h]
  unfold holdB at hres
  rw [hgd i hi, List.length_map] at hres
  obtain ⟨nxt, hnxt⟩ : ∃ nxt, nxt = (rs.map (·.xs)).getD (i + 1) [] := ⟨_, rfl⟩
  rw [← hnxt] at hres
  have HNX := Lib.hid (And.intro hnxt hgd)
  obtain ⟨s, hs⟩ : ∃ s, s = rs[i] := ⟨_, rfl⟩
  rw [← hs] at d0 hsx hgr h8r hff hres
  obtain ⟨⟨ra, rc, row⟩, hse⟩ : ∃ s', s = s' := ⟨_, rfl⟩
  subst hse
  simp only at d0 hsx hgr h8r hff hres
  obtain ⟨m, hm⟩ : ∃ m, m = rs.length := ⟨_, rfl⟩
  have HM := Lib.hid hm
  have hm201 : m ≤ 201 := by have := hp.il; omega
  have him : i < m := by rw [hm]; exact hi
  have hmL : m = p.I.xs.length + 1 := by rw [hm]; exact hrl
  have HML := Lib.hid hmL
  rw [← hm] at hres e1 HW hb1
  have i2 : (0 : Int) ≤ i := by omega
  have i3 : (i : Int) < m := by omega
  have x1 : IntKind.i64.wrap ((m : Int) - 1) = ((m - 1 : Nat) : Int) := by rw [IntWalk.i64_in _ (by omega)]; omega
  obtain ⟨m1, hm1⟩ : ∃ m1, m1 = m - 1 := ⟨_, rfl⟩
  rw [← hm1] at x1
  have HM1 := Lib.hid hm1
  have HG := Lib.hid (rdPl.mono hg hb2)
  have HRW := Lib.hid (hr.mono hb2)
  have HGD := Lib.hid (And.intro hgood h8)
  have HGR := Lib.hid hgr
  have hrc : IsC eInt 1 W ra row := by
    obtain ⟨a', c', he, _, _, h⟩ := hsx
    simp only [vSl, Value.slice.injEq] at he
    rw [he.1]; exact h
  have HRC := Lib.hid hrc
  obtain ⟨rl, hrle⟩ : ∃ rl, rl = row.length := ⟨_, rfl⟩
  have HRL := Lib.hid hrle
  have HRES := Lib.hid hres
  obtain ⟨fd, hfd⟩ : ∃ fd, fd = Pn.fnd (prs row) p.St := ⟨_, rfl⟩
  rw [← hfd] at hff
  have HFD := Lib.hid hfd
  simp only [vSl] at hff
  rw [← hrle] at d0 hff h8r
  clear hgd hnxt hs hres hgr hrle hg hr hgood h8 hsx hfd hm1 hC hmL hrl hrc hW
  rw [← hm]
  clear hm
  go_enter Tryz.func76, Tryz.ntmps76
  go_upto_region 1 with (fail)
  rw [← HW.out]
  clear HW
  go_wp2_with fail
  refine Calls.to hff ?_
  rintro e w1 rfl hb3
  have hbw := hb2.trans (hb3.mono hb2.size)
  replace c0 := cel_lt c0 hb3
  replace c1 := cel_lt c1 hb3
  replace c2 := cel_lt c2 hb3
  replace c3 := cel_lt c3 hb3
  replace c4 := cel_lt c4 hb3
  replace c5 := cel_lt c5 hb3
  replace c6 := cel_lt c6 hb3
  replace e1 := cel_lt e1 hb3
  replace e2 := cel_lt e2 hb3
  have HG := Lib.hid (rdPl.mono HG.out hb3)
  have HRW := Lib.hid (HRW.out.mono hb3)
  have HRC := Lib.hid (HRC.out.mono hb3)
  have hrw := HRES.out
  rw [← HFD.out] at hrw
  clear HRES
  have HRES := Lib.hid hrw
  clear hrw d0 hb3 hb2 hff hb0 hb1 HFD
  obtain ⟨n2, hn2⟩ : ∃ n2, n2 = row.length / 2 := ⟨_, rfl⟩
  have hrln : rl = 2 * n2 := by have := HRL.out; have := HGR.out.ev; have := prs_len row; omega
  have HN2 := Lib.hid hrln
  have hrw := HRES.out
  rw [← hn2] at hrw
  have HRA := Lib.hid hrw
  clear hrw hn2 hrln HRES
  obtain ⟨b0, hb0⟩ : ∃ b, (i == 0) = b := ⟨_, rfl⟩
  have k1 : ((i : Int) == 0) = b0 := by rw [← hb0, Bool.eq_iff_iff]; simp
  have k2 : decide ((i : Int) = 0) = b0 := by rw [← hb0, Bool.eq_iff_iff]; simp
  have k3 : decide (i = 0) = b0 := by rw [← hb0, Bool.eq_iff_iff]; simp
  obtain ⟨bl, hbl⟩ : ∃ b, (i == m1) = b := ⟨_, rfl⟩
  have l1 : ((i : Int) == m1) = bl := by rw [← hbl, Bool.eq_iff_iff, beq_iff_eq, beq_iff_eq]; omega
  have l2 : decide ((i : Int) = m1) = bl := by rw [← hbl, Bool.eq_iff_iff, decide_eq_true_iff, beq_iff_eq]; omega
  have l3 : decide (i = m1) = bl := by rw [← hbl, Bool.eq_iff_iff]; simp
  have HBL : Hid (bl = decide (i + 1 = m)) := Lib.hid (by have := HM1.out; rw [← l3]; congr 1; apply propext; omega)
  have hrw := HRA.out
  rw [hb0] at hrw
  have HRB := Lib.hid hrw
  clear hrw HRA hb0
  cases b0
  · cases fd with
    | none =>
      simp only [fndV]
      have HR3 : Hid (res = allFrom (pairB p row nxt i m) 0 n2) := Lib.hid (by rw [HRB.out]; rfl)
      clear HRB
      go_wp2_with fail
      clear k1 k2 k3
      go_loopw [11] (fun s11 wx => ∃ k j : Nat, j = 2 * k ∧ k ≤ n2 ∧ s11 = .int .i64 j ∧ Below w1.heap.size w1 wx ∧ Hid (res = allFrom (pairB p row nxt i m) k n2)) (fun s11 _ => rl - (RowKit.intOf s11).toNat)
      case atStart => exact ⟨0, 0, rfl, Nat.zero_le _, rfl, Below.refl _ _, HR3⟩
      case round =>
        obtain ⟨k, j, hj, hk, rfl, hbx, hr⟩ := hrel
        obtain ⟨wx, hwx⟩ : ∃ wx, wx = wr := ⟨_, rfl⟩
        subst hwx
        have HJ := Lib.hid hj
        have hbrx := hbw.trans (hbx.mono hbw.size)
        by_cases hkn : k < n2
        · have hjl : j < rl := by have := HN2.out; omega
          have hjr : j < row.length := by rw [← HRL.out]; exact hjl
          have hjr1 : j + 1 < row.length := by have := HN2.out; rw [← HRL.out]; omega
          have hrx := HRC.out.mono hbx
          obtain ⟨b2, o2, rfl, d1⟩ := hrx.int j hjr
          obtain ⟨_, _, he, d2⟩ := hrx.int (j + 1) hjr1
          simp only [Option.some.injEq, Addr.mk.injEq] at he
          obtain ⟨rfl, rfl, -⟩ := he
          have g1 : row.getD (2 * k) 0 = row[j] := by rw [← HJ.out]; simp [List.getD, List.getElem?_eq_getElem hjr]
          have g2 : row.getD (2 * k + 1) 0 = row[j + 1] := by rw [← HJ.out]; simp [List.getD, List.getElem?_eq_getElem hjr1]
          obtain ⟨y0, hy0⟩ : ∃ y, y = row[j] := ⟨_, rfl⟩
          obtain ⟨y1, hy1⟩ : ∃ y, y = row[j + 1] := ⟨_, rfl⟩
          obtain ⟨j1, hj1⟩ : ∃ j1, j1 = j + 1 := ⟨_, rfl⟩
          have hkp : k < (prs row).length := by rw [prs_len]; have := HN2.out; have := HRL.out; omega
          have hvb := (HGR.out.bd k hkp).1
          simp only [(prs_at row k hkp).1] at hvb
          rw [← hy0] at d1 g1
          rw [← hy1] at d2 g2
          rw [g1] at hvb
          rw [show o2 + (j + 1) = o2 + j1 from by rw [hj1]] at d2
          have i4 : (j : Int) < rl := by omega
          have i5 : (0 : Int) ≤ j := by omega
          have i6 : (j1 : Int) < rl := by have := HN2.out; omega
          have i7 : (0 : Int) ≤ j1 := by omega
          have i8 : decide (j < rl) = true := decide_eq_true hjl
          have x1 : IntKind.i64.wrap ((j : Int) + 1) = j1 := by rw [IntWalk.i64_in _ (by omega)]; omega
          have x2 : IntKind.i64.wrap ((j : Int) + 2) = ((j + 2 : Nat) : Int) := by rw [IntWalk.i64_in _ (by omega)]; omega
          obtain ⟨j3, hj3⟩ : ∃ j3, j3 = j + 2 := ⟨_, rfl⟩
          rw [← hj3] at x2
          have HJ3 := Lib.hid hj3
          have hstep := allFrom_step (pairB p row nxt i m) hkn
          have hpe : pairB p row nxt i m k = if i + 1 = m then y1 == 0 else allFrom (stepQ p (fun w c => findB nxt w c y1) y0 (p.I.xs.getD i 0)) 0 p.L.xs.length := by
            unfold pairB; rw [g1, g2]
          rw [hstep, hpe] at hr
          have HRR2 := Lib.hid hr
          have HKN := Lib.hid hkn
          have HVB := Lib.hid hvb
          clear hstep hpe hr hj hy0 hy1 hj1 hj3 g1 g2 hkn hjl hjr hjr1 hkp hvb hrx
          go_upto_region 10 with (fail)
          have hb3 : Below w1.heap.size w1 (wx.alloc (.cells #[.int .i64 y1] 3)) := hbx.alloc hbx.size _
          obtain ⟨W3, hW3⟩ : ∃ W3, W3 = wx.alloc (.cells #[.int .i64 y1] 3) := ⟨_, rfl⟩
          have f1 : W3.cell? ⟨wx.heap.size, 0, none⟩ = some (.int .i64 y1) := by rw [hW3]; simp [go_sem]
          have d1 : W3.cell? ⟨b2, o2 + j, none⟩ = some (.int .i64 y0) := by rw [hW3]; exact cel_lt d1 ((Below.refl _ _).alloc (Nat.le_refl _) _)
          rw [← hW3] at hb3 ⊢
          have c0 := cel_lt c0 hb3
          have c1 := cel_lt c1 hb3
          have c2 := cel_lt c2 hb3
          have c3 := cel_lt c3 hb3
          have c4 := cel_lt c4 hb3
          have c5 := cel_lt c5 hb3
          have c6 := cel_lt c6 hb3
          have e1 := cel_lt e1 hb3
          have e2 := cel_lt e2 hb3
          have hbr3 := hbw.trans (hb3.mono hbw.size)
          clear hW3 d2
          cases bl
          rotate_left
          · have hlm : i + 1 = m := by simpa using HBL.out
            obtain ⟨z, hz⟩ : ∃ z, (y1 == 0) = z := ⟨_, rfl⟩
            have z1 : (y1 != 0) = !z := by rw [← hz]; rfl
            have z2 : decide (y1 = 0) = z := by rw [← hz, Bool.eq_iff_iff]; simp
            have hres := HRR2.out
            rw [if_pos hlm, hz] at hres
            have HRR3 := Lib.hid hres
            clear hres hlm
            cases z
            · have HF : Hid (res = false) := Lib.hid (by rw [HRR3.out]; rfl)
              simp only [Bool.not_false] at z1
              go_wp2_with fail
              go_ret
              exact ⟨ret_bool HF.out.symm, hbr3⟩
            · have HT : Hid (res = allFrom (pairB p row nxt i m) (k + 1) n2) := Lib.hid (by rw [HRR3.out]; rfl)
              simp only [Bool.not_true] at z1
              go_wp2_with fail
              go_roundw
              case measure => have := HJ3.out; simp [RowKit.intOf, this]; omega
              case rel => exact ⟨k + 1, j3, by have := HJ3.out; have := HJ.out; omega, HKN.out, rfl, hb3, HT⟩
          · have hlm : i + 1 < m := by have h := HBL.out; have : i + 1 ≠ m := by simpa using h.symm
                                       omega
            have hil : i < p.I.xs.length := by have := HML.out; omega
            have hi1 : i + 1 < rs.length := by rw [← HM.out]; exact hlm
            have hnx : nxt = rs[i + 1].xs := by rw [HNX.out.1]; exact HNX.out.2 (i + 1) hi1
            have hres := HRR2.out
            rw [if_neg (by omega), show p.I.xs.getD i 0 = p.I.xs[i] from by simp [List.getD, List.getElem?_eq_getElem hil]] at hres
            obtain ⟨z, hz⟩ : ∃ z, allFrom (stepQ p (fun w c => findB nxt w c y1) y0 p.I.xs[i]) 0 p.L.xs.length = z := ⟨_, rfl⟩
            have hst : ∀ x, Calls Tryz.prog 142 #[vPl p, .int .i64 i, .int .i64 y0, .func (.func 143) #[] #[.pointer (some ⟨w.heap.size + 1, 0, none⟩), .pointer (some ⟨w.heap.size + 1 + 1, 0, none⟩), .pointer (some ⟨wx.heap.size, 0, none⟩)]] (more W3 x) fun e w' => e = .returned (.bool z) ∧ Below (more W3 x).heap.size (more W3 x) w' := fun x => by
              have hbm := below_more W3 x
              have hb4 := hb3.trans (hbm.mono hb3.size)
              rw [← hz, hnx]
              refine csteps_any p i y0 _ (fun w c => findB rs[i + 1].xs w c y1) (more W3 x) (rdPl.mono HG.out hb4) hp hil HVB.out ?_
              intro W' hW' k' hk' t ht
              have hb5 := hb4.trans (hW'.mono hb4.size)
              have hm := HM.out
              have hc := Pn.step_cost hp.pn HVB.out.2 (hp.inf _ (List.getElem_mem hil)) hk' ht
              have hch := choldst_any p rs (some ⟨b, off, none⟩) vc (w.heap.size + 1) (w.heap.size + 1 + 1) wx.heap.size i y1 t.1 t.2 W' (HRW.out.mono hb5) hi1 (by omega) (HGD.out.1 _ (List.getElem_mem hi1)) (HGD.out.2 _ (List.getElem_mem hi1)) hc
                (by rw [← hm]; exact cel_lt (cel_lt e1 hbm) hW') (cel_lt (cel_lt e2 hbm) hW') (cel_lt (cel_lt f1 hbm) hW')
              simpa using hch
            rw [hz] at hres
            have HRR3 := Lib.hid hres
            have HST := Lib.hid hst
            clear hz hres hlm hnx hst
            go_upto_region 13 with (fail)
            refine wp_region_more_lit (by kernel_rfl) (by kernel_rfl) ?_
            repeat (go_big_quiet_step ((go_at_call 142; exact Calls.more_of (HST.out _))))
            refine wpQuiet_nil ?_
            intro _ hwq
            obtain ⟨xq, hwq⟩ := hwq
            subst hwq
            have hbE := Below.more hbr3 hbr3.size xq
            have hb3E := Below.more hb3 hb3.size xq
            clear c0 c1 c2 c3 c4 c5 c6 e1 e2 f1
            cases z
            · have HF : Hid (res = false) := Lib.hid (by rw [HRR3.out]; rfl)
              go_wp2_with fail
              go_ret
              exact ⟨ret_bool HF.out.symm, hbE⟩
            · have HT : Hid (res = allFrom (pairB p row nxt i m) (k + 1) n2) := Lib.hid (by rw [HRR3.out]; rfl)
              go_wp2_with fail
              go_roundw
              case measure => have := HJ3.out; simp [RowKit.intOf, this]; omega
              case rel => exact ⟨k + 1, j3, by have := HJ3.out; have := HJ.out; omega, HKN.out, rfl, hb3E, HT⟩
        · have i8 : decide (j < rl) = false := decide_eq_false (by have := HN2.out; have := HJ.out; omega)
          have HT : Hid (res = true) := Lib.hid (by rw [hr, allFrom_end _ (by omega)])
          clear hkn hj hr
          go_wp2_with fail
          go_ret
          exact ⟨ret_bool HT.out.symm, hbrx⟩
    | some y =>
      simp only [fndV]
      have HR3 : Hid (res = allFrom (pairB p row nxt i m) 0 n2) := Lib.hid (by rw [HRB.out]; rfl)
      clear HRB
      go_wp2_with fail
      clear k1 k2 k3
      go_loopw [11] (fun s11 wx => ∃ k j : Nat, j = 2 * k ∧ k ≤ n2 ∧ s11 = .int .i64 j ∧ Below w1.heap.size w1 wx ∧ Hid (res = allFrom (pairB p row nxt i m) k n2)) (fun s11 _ => rl - (RowKit.intOf s11).toNat)
      case atStart => exact ⟨0, 0, rfl, Nat.zero_le _, rfl, Below.refl _ _, HR3⟩
      case round =>
        obtain ⟨k, j, hj, hk, rfl, hbx, hr⟩ := hrel
        obtain ⟨wx, hwx⟩ : ∃ wx, wx = wr := ⟨_, rfl⟩
        subst hwx
        have HJ := Lib.hid hj
        have hbrx := hbw.trans (hbx.mono hbw.size)
        by_cases hkn : k < n2
        · have hjl : j < rl := by have := HN2.out; omega
          have hjr : j < row.length := by rw [← HRL.out]; exact hjl
          have hjr1 : j + 1 < row.length := by have := HN2.out; rw [← HRL.out]; omega
          have hrx := HRC.out.mono hbx
          obtain ⟨b2, o2, rfl, d1⟩ := hrx.int j hjr
          obtain ⟨_, _, he, d2⟩ := hrx.int (j + 1) hjr1
          simp only [Option.some.injEq, Addr.mk.injEq] at he
          obtain ⟨rfl, rfl, -⟩ := he
          have g1 : row.getD (2 * k) 0 = row[j] := by rw [← HJ.out]; simp [List.getD, List.getElem?_eq_getElem hjr]
          have g2 : row.getD (2 * k + 1) 0 = row[j + 1] := by rw [← HJ.out]; simp [List.getD, List.getElem?_eq_getElem hjr1]
          obtain ⟨y0, hy0⟩ : ∃ y, y = row[j] := ⟨_, rfl⟩
          obtain ⟨y1, hy1⟩ : ∃ y, y = row[j + 1] := ⟨_, rfl⟩
          obtain ⟨j1, hj1⟩ : ∃ j1, j1 = j + 1 := ⟨_, rfl⟩
          have hkp : k < (prs row).length := by rw [prs_len]; have := HN2.out; have := HRL.out; omega
          have hvb := (HGR.out.bd k hkp).1
          simp only [(prs_at row k hkp).1] at hvb
          rw [← hy0] at d1 g1
          rw [← hy1] at d2 g2
          rw [g1] at hvb
          rw [show o2 + (j + 1) = o2 + j1 from by rw [hj1]] at d2
          have i4 : (j : Int) < rl := by omega
          have i5 : (0 : Int) ≤ j := by omega
          have i6 : (j1 : Int) < rl := by have := HN2.out; omega
          have i7 : (0 : Int) ≤ j1 := by omega
          have i8 : decide (j < rl) = true := decide_eq_true hjl
          have x1 : IntKind.i64.wrap ((j : Int) + 1) = j1 := by rw [IntWalk.i64_in _ (by omega)]; omega
          have x2 : IntKind.i64.wrap ((j : Int) + 2) = ((j + 2 : Nat) : Int) := by rw [IntWalk.i64_in _ (by omega)]; omega
          obtain ⟨j3, hj3⟩ : ∃ j3, j3 = j + 2 := ⟨_, rfl⟩
          rw [← hj3] at x2
          have HJ3 := Lib.hid hj3
          have hstep := allFrom_step (pairB p row nxt i m) hkn
          have hpe : pairB p row nxt i m k = if i + 1 = m then y1 == 0 else allFrom (stepQ p (fun w c => findB nxt w c y1) y0 (p.I.xs.getD i 0)) 0 p.L.xs.length := by
            unfold pairB; rw [g1, g2]
          rw [hstep, hpe] at hr
          have HRR2 := Lib.hid hr
          have HKN := Lib.hid hkn
          have HVB := Lib.hid hvb
          clear hstep hpe hr hj hy0 hy1 hj1 hj3 g1 g2 hkn hjl hjr hjr1 hkp hvb hrx
          go_upto_region 10 with (fail)
          have hb3 : Below w1.heap.size w1 (wx.alloc (.cells #[.int .i64 y1] 3)) := hbx.alloc hbx.size _
          obtain ⟨W3, hW3⟩ : ∃ W3, W3 = wx.alloc (.cells #[.int .i64 y1] 3) := ⟨_, rfl⟩
          have f1 : W3.cell? ⟨wx.heap.size, 0, none⟩ = some (.int .i64 y1) := by rw [hW3]; simp [go_sem]
          have d1 : W3.cell? ⟨b2, o2 + j, none⟩ = some (.int .i64 y0) := by rw [hW3]; exact cel_lt d1 ((Below.refl _ _).alloc (Nat.le_refl _) _)
          rw [← hW3] at hb3 ⊢
          have c0 := cel_lt c0 hb3
          have c1 := cel_lt c1 hb3
          have c2 := cel_lt c2 hb3
          have c3 := cel_lt c3 hb3
          have c4 := cel_lt c4 hb3
          have c5 := cel_lt c5 hb3
          have c6 := cel_lt c6 hb3
          have e1 := cel_lt e1 hb3
          have e2 := cel_lt e2 hb3
          have hbr3 := hbw.trans (hb3.mono hbw.size)
          clear hW3 d2
          cases bl
          rotate_left
          · have hlm : i + 1 = m := by simpa using HBL.out
            obtain ⟨z, hz⟩ : ∃ z, (y1 == 0) = z := ⟨_, rfl⟩
            have z1 : (y1 != 0) = !z := by rw [← hz]; rfl
            have z2 : decide (y1 = 0) = z := by rw [← hz, Bool.eq_iff_iff]; simp
            have hres := HRR2.out
            rw [if_pos hlm, hz] at hres
            have HRR3 := Lib.hid hres
            clear hres hlm
            cases z
            · have HF : Hid (res = false) := Lib.hid (by rw [HRR3.out]; rfl)
              simp only [Bool.not_false] at z1
              go_wp2_with fail
              go_ret
              exact ⟨ret_bool HF.out.symm, hbr3⟩
            · have HT : Hid (res = allFrom (pairB p row nxt i m) (k + 1) n2) := Lib.hid (by rw [HRR3.out]; rfl)
              simp only [Bool.not_true] at z1
              go_wp2_with fail
              go_roundw
              case measure => have := HJ3.out; simp [RowKit.intOf, this]; omega
              case rel => exact ⟨k + 1, j3, by have := HJ3.out; have := HJ.out; omega, HKN.out, rfl, hb3, HT⟩
          · have hlm : i + 1 < m := by have h := HBL.out; have : i + 1 ≠ m := by simpa using h.symm
                                       omega
            have hil : i < p.I.xs.length := by have := HML.out; omega
            have hi1 : i + 1 < rs.length := by rw [← HM.out]; exact hlm
            have hnx : nxt = rs[i + 1].xs := by rw [HNX.out.1]; exact HNX.out.2 (i + 1) hi1
            have hres := HRR2.out
            rw [if_neg (by omega), show p.I.xs.getD i 0 = p.I.xs[i] from by simp [List.getD, List.getElem?_eq_getElem hil]] at hres
            obtain ⟨z, hz⟩ : ∃ z, allFrom (stepQ p (fun w c => findB nxt w c y1) y0 p.I.xs[i]) 0 p.L.xs.length = z := ⟨_, rfl⟩
            have hst : ∀ x, Calls Tryz.prog 142 #[vPl p, .int .i64 i, .int .i64 y0, .func (.func 143) #[] #[.pointer (some ⟨w.heap.size + 1, 0, none⟩), .pointer (some ⟨w.heap.size + 1 + 1, 0, none⟩), .pointer (some ⟨wx.heap.size, 0, none⟩)]] (more W3 x) fun e w' => e = .returned (.bool z) ∧ Below (more W3 x).heap.size (more W3 x) w' := fun x => by
              have hbm := below_more W3 x
              have hb4 := hb3.trans (hbm.mono hb3.size)
              rw [← hz, hnx]
              refine csteps_any p i y0 _ (fun w c => findB rs[i + 1].xs w c y1) (more W3 x) (rdPl.mono HG.out hb4) hp hil HVB.out ?_
              intro W' hW' k' hk' t ht
              have hb5 := hb4.trans (hW'.mono hb4.size)
              have hm := HM.out
              have hc := Pn.step_cost hp.pn HVB.out.2 (hp.inf _ (List.getElem_mem hil)) hk' ht
              have hch := choldst_any p rs (some ⟨b, off, none⟩) vc (w.heap.size + 1) (w.heap.size + 1 + 1) wx.heap.size i y1 t.1 t.2 W' (HRW.out.mono hb5) hi1 (by omega) (HGD.out.1 _ (List.getElem_mem hi1)) (HGD.out.2 _ (List.getElem_mem hi1)) hc
                (by rw [← hm]; exact cel_lt (cel_lt e1 hbm) hW') (cel_lt (cel_lt e2 hbm) hW') (cel_lt (cel_lt f1 hbm) hW')
              simpa using hch
            rw [hz] at hres
            have HRR3 := Lib.hid hres
            have HST := Lib.hid hst
            clear hz hres hlm hnx hst
            go_upto_region 13 with (fail)
            refine wp_region_more_lit (by kernel_rfl) (by kernel_rfl) ?_
            repeat (go_big_quiet_step ((go_at_call 142; exact Calls.more_of (HST.out _))))
            refine wpQuiet_nil ?_
            intro _ hwq
            obtain ⟨xq, hwq⟩ := hwq
            subst hwq
            have hbE := Below.more hbr3 hbr3.size xq
            have hb3E := Below.more hb3 hb3.size xq
            clear c0 c1 c2 c3 c4 c5 c6 e1 e2 f1
            cases z
            · have HF : Hid (res = false) := Lib.hid (by rw [HRR3.out]; rfl)
              go_wp2_with fail
              go_ret
              exact ⟨ret_bool HF.out.symm, hbE⟩
            · have HT : Hid (res = allFrom (pairB p row nxt i m) (k + 1) n2) := Lib.hid (by rw [HRR3.out]; rfl)
              go_wp2_with fail
              go_roundw
              case measure => have := HJ3.out; simp [RowKit.intOf, this]; omega
              case rel => exact ⟨k + 1, j3, by have := HJ3.out; have := HJ.out; omega, HKN.out, rfl, hb3E, HT⟩
        · have i8 : decide (j < rl) = false := decide_eq_false (by have := HN2.out; have := HJ.out; omega)
          have HT : Hid (res = true) := Lib.hid (by rw [hr, allFrom_end _ (by omega)])
          clear hkn hj hr
          go_wp2_with fail
          go_ret
          exact ⟨ret_bool HT.out.symm, hbrx⟩
  · cases fd with
    | none =>
      simp only [fndV]
      have HF : Hid (res = false) := Lib.hid (by rw [HRB.out]; rfl)
      go_wp2_with fail
      go_ret
      exact ⟨ret_bool HF.out.symm, hbw⟩
    | some y =>
      simp only [fndV]
      have HR3 : Hid (res = allFrom (pairB p row nxt i m) 0 n2) := Lib.hid (by rw [HRB.out]; rfl)
      clear HRB
      go_wp2_with fail
      clear k1 k2 k3
      go_loopw [11] (fun s11 wx => ∃ k j : Nat, j = 2 * k ∧ k ≤ n2 ∧ s11 = .int .i64 j ∧ Below w1.heap.size w1 wx ∧ Hid (res = allFrom (pairB p row nxt i m) k n2)) (fun s11 _ => rl - (RowKit.intOf s11).toNat)
      case atStart => exact ⟨0, 0, rfl, Nat.zero_le _, rfl, Below.refl _ _, HR3⟩
      case round =>
        obtain ⟨k, j, hj, hk, rfl, hbx, hr⟩ := hrel
        obtain ⟨wx, hwx⟩ : ∃ wx, wx = wr := ⟨_, rfl⟩
        subst hwx
        have HJ := Lib.hid hj
        have hbrx := hbw.trans (hbx.mono hbw.size)
        by_cases hkn : k < n2
        · have hjl : j < rl := by have := HN2.out; omega
          have hjr : j < row.length := by rw [← HRL.out]; exact hjl
          have hjr1 : j + 1 < row.length := by have := HN2.out; rw [← HRL.out]; omega
          have hrx := HRC.out.mono hbx
          obtain ⟨b2, o2, rfl, d1⟩ := hrx.int j hjr
          obtain ⟨_, _, he, d2⟩ := hrx.int (j + 1) hjr1
          simp only [Option.some.injEq, Addr.mk.injEq] at he
          obtain ⟨rfl, rfl, -⟩ := he
          have g1 : row.getD (2 * k) 0 = row[j] := by rw [← HJ.out]; simp [List.getD, List.getElem?_eq_getElem hjr]
          have g2 : row.getD (2 * k + 1) 0 = row[j + 1] := by rw [← HJ.out]; simp [List.getD, List.getElem?_eq_getElem hjr1]
          obtain ⟨y0, hy0⟩ : ∃ y, y = row[j] := ⟨_, rfl⟩
          obtain ⟨y1, hy1⟩ : ∃ y, y = row[j + 1] := ⟨_, rfl⟩
          obtain ⟨j1, hj1⟩ : ∃ j1, j1 = j + 1 := ⟨_, rfl⟩
          have hkp : k < (prs row).length := by rw [prs_len]; have := HN2.out; have := HRL.out; omega
          have hvb := (HGR.out.bd k hkp).1
          simp only [(prs_at row k hkp).1] at hvb
          rw [← hy0] at d1 g1
          rw [← hy1] at d2 g2
          rw [g1] at hvb
          rw [show o2 + (j + 1) = o2 + j1 from by rw [hj1]] at d2
          have i4 : (j : Int) < rl := by omega
          have i5 : (0 : Int) ≤ j := by omega
          have i6 : (j1 : Int) < rl := by have := HN2.out; omega
          have i7 : (0 : Int) ≤ j1 := by omega
          have i8 : decide (j < rl) = true := decide_eq_true hjl
          have x1 : IntKind.i64.wrap ((j : Int) + 1) = j1 := by rw [IntWalk.i64_in _ (by omega)]; omega
          have x2 : IntKind.i64.wrap ((j : Int) + 2) = ((j + 2 : Nat) : Int) := by rw [IntWalk.i64_in _ (by omega)]; omega
          obtain ⟨j3, hj3⟩ : ∃ j3, j3 = j + 2 := ⟨_, rfl⟩
          rw [← hj3] at x2
          have HJ3 := Lib.hid hj3
          have hstep := allFrom_step (pairB p row nxt i m) hkn
          have hpe : pairB p row nxt i m k = if i + 1 = m then y1 == 0 else allFrom (stepQ p (fun w c => findB nxt w c y1) y0 (p.I.xs.getD i 0)) 0 p.L.xs.length := by
            unfold pairB; rw [g1, g2]
          rw [hstep, hpe] at hr
          have HRR2 := Lib.hid hr
          have HKN := Lib.hid hkn
          have HVB := Lib.hid hvb
          clear hstep hpe hr hj hy0 hy1 hj1 hj3 g1 g2 hkn hjl hjr hjr1 hkp hvb hrx
          go_upto_region 10 with (fail)
          have hb3 : Below w1.heap.size w1 (wx.alloc (.cells #[.int .i64 y1] 3)) := hbx.alloc hbx.size _
          obtain ⟨W3, hW3⟩ : ∃ W3, W3 = wx.alloc (.cells #[.int .i64 y1] 3) := ⟨_, rfl⟩
          have f1 : W3.cell? ⟨wx.heap.size, 0, none⟩ = some (.int .i64 y1) := by rw [hW3]; simp [go_sem]
          have d1 : W3.cell? ⟨b2, o2 + j, none⟩ = some (.int .i64 y0) := by rw [hW3]; exact cel_lt d1 ((Below.refl _ _).alloc (Nat.le_refl _) _)
          rw [← hW3] at hb3 ⊢
          have c0 := cel_lt c0 hb3
          have c1 := cel_lt c1 hb3
          have c2 := cel_lt c2 hb3
          have c3 := cel_lt c3 hb3
          have c4 := cel_lt c4 hb3
          have c5 := cel_lt c5 hb3
          have c6 := cel_lt c6 hb3
          have e1 := cel_lt e1 hb3
          have e2 := cel_lt e2 hb3
          have hbr3 := hbw.trans (hb3.mono hbw.size)
          clear hW3 d2
          cases bl
          rotate_left
          · have hlm : i + 1 = m := by simpa using HBL.out
            obtain ⟨z, hz⟩ : ∃ z, (y1 == 0) = z := ⟨_, rfl⟩
            have z1 : (y1 != 0) = !z := by rw [← hz]; rfl
            have z2 : decide (y1 = 0) = z := by rw [← hz, Bool.eq_iff_iff]; simp
            have hres := HRR2.out
            rw [if_pos hlm, hz] at hres
            have HRR3 := Lib.hid hres
            clear hres hlm
            cases z
            · have HF : Hid (res = false) := Lib.hid (by rw [HRR3.out]; rfl)
              simp only [Bool.not_false] at z1
              go_wp2_with fail
              go_ret
              exact ⟨ret_bool HF.out.symm, hbr3⟩
            · have HT : Hid (res = allFrom (pairB p row nxt i m) (k + 1) n2) := Lib.hid (by rw [HRR3.out]; rfl)
              simp only [Bool.not_true] at z1
              go_wp2_with fail
              go_roundw
              case measure => have := HJ3.out; simp [RowKit.intOf, this]; omega
              case rel => exact ⟨k + 1, j3, by have := HJ3.out; have := HJ.out; omega, HKN.out, rfl, hb3, HT⟩
          · have hlm : i + 1 < m := by have h := HBL.out; have : i + 1 ≠ m := by simpa using h.symm
                                       omega
            have hil : i < p.I.xs.length := by have := HML.out; omega
            have hi1 : i + 1 < rs.length := by rw [← HM.out]; exact hlm
            have hnx : nxt = rs[i + 1].xs := by rw [HNX.out.1]; exact HNX.out.2 (i + 1) hi1
            have hres := HRR2.out
            rw [if_neg (by omega), show p.I.xs.getD i 0 = p.I.xs[i] from by simp [List.getD, List.getElem?_eq_getElem hil]] at hres
            obtain ⟨z, hz⟩ : ∃ z, allFrom (stepQ p (fun w c => findB nxt w c y1) y0 p.I.xs[i]) 0 p.L.xs.length = z := ⟨_, rfl⟩
            have hst : ∀ x, Calls Tryz.prog 142 #[vPl p, .int .i64 i, .int .i64 y0, .func (.func 143) #[] #[.pointer (some ⟨w.heap.size + 1, 0, none⟩), .pointer (some ⟨w.heap.size + 1 + 1, 0, none⟩), .pointer (some ⟨wx.heap.size, 0, none⟩)]] (more W3 x) fun e w' => e = .returned (.bool z) ∧ Below (more W3 x).heap.size (more W3 x) w' := fun x => by
              have hbm := below_more W3 x
              have hb4 := hb3.trans (hbm.mono hb3.size)
              rw [← hz, hnx]
              refine csteps_any p i y0 _ (fun w c => findB rs[i + 1].xs w c y1) (more W3 x) (rdPl.mono HG.out hb4) hp hil HVB.out ?_
              intro W' hW' k' hk' t ht
              have hb5 := hb4.trans (hW'.mono hb4.size)
              have hm := HM.out
              have hc := Pn.step_cost hp.pn HVB.out.2 (hp.inf _ (List.getElem_mem hil)) hk' ht
              have hch := choldst_any p rs (some ⟨b, off, none⟩) vc (w.heap.size + 1) (w.heap.size + 1 + 1) wx.heap.size i y1 t.1 t.2 W' (HRW.out.mono hb5) hi1 (by omega) (HGD.out.1 _ (List.getElem_mem hi1)) (HGD.out.2 _ (List.getElem_mem hi1)) hc
                (by rw [← hm]; exact cel_lt (cel_lt e1 hbm) hW') (cel_lt (cel_lt e2 hbm) hW') (cel_lt (cel_lt f1 hbm) hW')
              simpa using hch
            rw [hz] at hres
            have HRR3 := Lib.hid hres
            have HST := Lib.hid hst
            clear hz hres hlm hnx hst
            go_upto_region 13 with (fail)
            refine wp_region_more_lit (by kernel_rfl) (by kernel_rfl) ?_
            repeat (go_big_quiet_step ((go_at_call 142; exact Calls.more_of (HST.out _))))
            refine wpQuiet_nil ?_
            intro _ hwq
            obtain ⟨xq, hwq⟩ := hwq
            subst hwq
            have hbE := Below.more hbr3 hbr3.size xq
            have hb3E := Below.more hb3 hb3.size xq
            clear c0 c1 c2 c3 c4 c5 c6 e1 e2 f1
            cases z
            · have HF : Hid (res = false) := Lib.hid (by rw [HRR3.out]; rfl)
              go_wp2_with fail
              go_ret
              exact ⟨ret_bool HF.out.symm, hbE⟩
            · have HT : Hid (res = allFrom (pairB p row nxt i m) (k + 1) n2) := Lib.hid (by rw [HRR3.out]; rfl)
              go_wp2_with fail
              go_roundw
              case measure => have := HJ3.out; simp [RowKit.intOf, this]; omega
              case rel => exact ⟨k + 1, j3, by have := HJ3.out; have := HJ.out; omega, HKN.out, rfl, hb3E, HT⟩
        · have i8 : decide (j < rl) = false := decide_eq_false (by have := HN2.out; have := HJ.out; omega)
          have HT : Hid (res = true) := Lib.hid (by rw [hr, allFrom_end _ (by omega)])
          clear hkn hj hr
          go_wp2_with fail
          go_ret
          exact ⟨ret_bool HT.out.symm, hbrx⟩

end Go.Proofs.YtoiakijmbghhlaaGreat
