/- certificate.steps. Conditions: a right plan; the volume lies between reserve and capacity. -/
import Derived.Test.YtoiakijmbghhlaaGreatMCa
namespace Go.Proofs.YtoiakijmbghhlaaGreat
open Go.RowKit
set_option linter.unusedVariables false
set_option linter.unusedSimpArgs false

theorem ent143 : ∀ args w, (callFunc 143 args).run Tryz.prog w = .ok (.enter 143 args) w := by
  intro args w
  simp [go_sem]
def stepQ (p : PlD) (q : Int → Int → Bool) (v i : Int) (k : Nat) : Bool :=
  match Pn.stepP (plOf p) v i k with
  | none => true
  | some z => q z.1 z.2

set_option maxRecDepth 100000 in
set_option maxHeartbeats 8000000 in
theorem csteps_any (p : PlD) (i : Nat) (v : Int) (lb : Array Value) (q : Int → Int → Bool) (w : World) (hg : gPl w p) (hp : PlOk p) (hi : i < p.I.xs.length) (hv : p.Rs ≤ v ∧ v ≤ p.Cp)
    (hF : ∀ W, Below w.heap.size w W → ∀ k, k < p.L.xs.length → ∀ z, Pn.stepP (plOf p) v p.I.xs[i] k = some z → Calls Tryz.prog 143 (#[.int .i64 z.1, .int .i64 z.2] ++ lb) W fun e w' => e = .returned (.bool (q z.1 z.2)) ∧ Below W.heap.size W w') :
    Calls Tryz.prog 142 #[vPl p, .int .i64 i, .int .i64 v, .func (.func 143) #[] lb] w fun e w' => e = .returned (.bool (allFrom (stepQ p q v p.I.xs[i]) 0 p.L.xs.length)) ∧ Below w.heap.size w w' := by
  have hb0 : Below w.heap.size w (w.alloc (.cells (ePl p).toArray 68)) := (Below.refl _ _).alloc (Nat.le_refl _) _
  obtain ⟨c0, c1, c2, c3, c4, c5, c6⟩ := boxPl w (w.alloc (.cells (ePl p).toArray 68)) 68 p _ rfl _ rfl (Below.refl _ _)
  obtain ⟨res, hres⟩ : ∃ res, res = allFrom (stepQ p q v p.I.xs[i]) 0 p.L.xs.length := ⟨_, rfl⟩
  rw [← hres]
  obtain ⟨b1, o1, ea, d1⟩ := (hg.i.2.2.1.mono hb0).int i hi
  have hib := hp.inf _ (List.getElem_mem hi)
  obtain ⟨iv, hiv⟩ : ∃ x, x = p.I.xs[i] := ⟨_, rfl⟩
  rw [← hiv] at d1 hib hF hres
  have HR := Lib.hid hres
  have HF := Lib.hid hF
  have HG := Lib.hid hg
  have HIV := Lib.hid hiv
  obtain ⟨n, hn⟩ : ∃ n, n = p.L.xs.length := ⟨_, rfl⟩
  have hn20 : n ≤ 20 := by have := hp.ll.2; omega
  have HN := Lib.hid hn
  rw [← hn] at c4 HR
  rw [ea] at c3
  obtain ⟨b2, o2, eb, -⟩ := (hg.l.2.2.1.mono hb0).int 0 (by have := hp.ll.1; omega)
  rw [eb] at c4
  have HEB := Lib.hid eb
  have i2 : (0 : Int) ≤ i := by omega
  have i3 : (i : Int) < p.I.xs.length := by omega
  have x1 : IntKind.i64.wrap (v + iv) = v + iv := IntWalk.i64_in _ (by have := hp.cp; have := hp.rs; omega)
  have hcp := hp.cp
  have hrs := hp.rs
  have hw := hp.w
  have eg := ent143
  obtain ⟨W, hW⟩ : ∃ W, W = w.alloc (.cells (ePl p).toArray 68) := ⟨_, rfl⟩
  clear hres hF hg hiv hn ea eb
  go_enter Tryz.func142, Tryz.ntmps142
  go_wp2_with fail
  rw [← hW]
  rw [← hW] at hb0 c0 c1 c2 c3 c4 c5 c6 d1
  clear hW
  go_loopw [18] (fun s18 wr => ∃ k : Nat, k ≤ n ∧ s18 = .int .i64 k ∧ Below W.heap.size W wr ∧ Hid (res = allFrom (stepQ p q v iv) k n)) (fun s18 _ => n - (RowKit.intOf s18).toNat)
  case atStart => exact ⟨0, Nat.zero_le _, rfl, Below.refl _ _, HR⟩
  case round =>
    obtain ⟨k, hk, rfl, hb, hm⟩ := hrel
    have hbr := hb0.trans (hb.mono hb0.size)
    by_cases hkn : k < n
    · have hkL : k < p.L.xs.length := by rw [← HN.out]; exact hkn
      obtain ⟨b2', o2', eb, d2⟩ := (HG.out.l.2.2.1.mono hbr).int k hkL
      rw [HEB.out] at eb
      simp only [Option.some.injEq, Addr.mk.injEq] at eb
      obtain ⟨rfl, rfl, -⟩ := eb
      have hrb := hp.rel _ (List.getElem_mem hkL)
      have hqb := hp.pr _ (List.getElem_mem (l := prices p) (n := k) (by rw [prices_len]; exact hkL))
      have hqe : (prices p)[k]'(by rw [prices_len]; exact hkL) = tabV p.T.xs p.L.xs[k] := by simp [prices]
      rw [hqe] at hqb
      have hst : Pn.stepP (plOf p) v iv k = if v + iv - p.L.xs[k] < p.Rs then none else some (min (v + iv - p.L.xs[k]) p.Cp, tabV p.T.xs p.L.xs[k] + p.W * max 0 (v + iv - p.L.xs[k] - p.Cp)) := by
        unfold Pn.stepP Pn.lft plOf
        simp only [List.getD, List.getElem?_eq_getElem hkL, List.getElem?_eq_getElem (show k < (prices p).length by rw [prices_len]; exact hkL), Option.getD_some, hqe]
      have hsc := fun z : Int × Int => Pn.step_cost hp.pn (v := v) (i := iv) (k := k) (w := z.1) (c := z.2) hv.2 hib hkL
      have hft := tfloor_any p.T.xs p.L.xs[k] (.slice p.T.a p.T.xs.length p.T.cap) wr (HG.out.t.isL.mono hbr) hp.tab
      obtain ⟨r, hr⟩ : ∃ x, x = p.L.xs[k] := ⟨_, rfl⟩
      rw [← hr] at d2 hrb hqb hst hft
      obtain ⟨pv, hpv⟩ : ∃ pv, pv = tabV p.T.xs r := ⟨_, rfl⟩
      rw [← hpv] at hqb hst hft
      have hstep := allFrom_step (stepQ p q v iv) hkn
      have HHF := fun W' (hW' : Below w.heap.size w W') z hz => HF.out W' hW' k hkL z hz
      have c1 := cel_lt c1 hb
      have c2 := cel_lt c2 hb
      have c3 := cel_lt c3 hb
      have c4 := cel_lt c4 hb
      have c5 := cel_lt c5 hb
      have c6 := cel_lt c6 hb
      have d1 := cel_lt d1 hb
      obtain ⟨lf, hlf⟩ : ∃ x, x = v + iv - r := ⟨_, rfl⟩
      have x2 : IntKind.i64.wrap (v + iv - r) = lf := by rw [IntWalk.i64_in _ (by omega)]; exact hlf.symm
      have x7 : IntKind.i64.wrap ((k : Int) + 1) = k + 1 := IntWalk.i64_in _ (by omega)
      have i4 : (0 : Int) ≤ k := by omega
      have i5 : (k : Int) < n := by omega
      have i6 : decide (k < n) = true := decide_eq_true hkn
      rw [← hlf] at hst
      have hlb : -1099511627776 ≤ lf ∧ lf ≤ 2199023255552 := by omega
      have HFT := Lib.hid hft
      clear hr hpv hlf hqe hkL hft
      obtain ⟨bl, hbl⟩ : ∃ b, decide (lf < p.Rs) = b := ⟨_, rfl⟩
      cases bl
      rotate_left
      · rw [if_pos (by simpa using hbl)] at hst
        have hm2 : Hid (res = allFrom (stepQ p q v iv) (k + 1) n) := Lib.hid (by rw [hm.out, hstep, stepQ, hst]; rfl)
        clear hst hsc hstep HHF hm
        go_wp2_with fail
        go_roundw
        case measure => simp [RowKit.intOf, x7]; omega
        case rel => exact ⟨k + 1, by omega, by go_num, hb, hm2⟩
      rw [if_neg (by simpa using hbl)] at hst
      obtain ⟨mn, hmn⟩ : ∃ mn, min lf p.Cp = mn := ⟨_, rfl⟩
      obtain ⟨sp, hsp⟩ : ∃ sp, max 0 (lf - p.Cp) = sp := ⟨_, rfl⟩
      rw [hsp, hmn] at hst
      have hs0 : 0 ≤ sp ∧ sp ≤ 2199023255552 := by omega
      have y1 : IntKind.i64.wrap (lf - mn) = sp := by rw [IntWalk.i64_in _ (by omega)]; omega
      have hm0 := Int.mul_nonneg hw.1 hs0.1
      have hm1 : p.W * sp ≤ 1000 * 2199023255552 := Int.mul_le_mul hw.2 hs0.2 hs0.1 (by decide)
      obtain ⟨ws, hws⟩ : ∃ ws, p.W * sp = ws := ⟨_, rfl⟩
      rw [hws] at hst hm0 hm1
      have y2 : IntKind.i64.wrap (p.W * sp) = ws := by rw [hws]; exact IntWalk.i64_in _ (by omega)
      have y3 : IntKind.i64.wrap (pv + ws) = pv + ws := IntWalk.i64_in _ (by omega)
      have hsq : stepQ p q v iv k = q mn (pv + ws) := by rw [stepQ, hst]
      rw [hsq] at hstep
      have HST := Lib.hid hstep
      have HHH := Lib.hid (fun W' hW' => HHF W' hW' (mn, pv + ws) hst)
      clear hstep HHF hst hsc hsp hws hs0 hm0 hm1 hsq
      go_wp2_with fail
      refine Calls.to HFT.out ?_
      rintro e w1 rfl hb1
      have hb' := hb.trans (hb1.mono hb.size)
      have hbr1 := hbr.trans (hb1.mono hbr.size)
      have c1 := cel_lt c1 hb1
      have c6 := cel_lt c6 hb1
      have hx := HHH.out w1 hbr1
      clear c2 c3 c4 c5 d1 d2 hb1 HFT hb
      go_wp2_with fail
      refine Calls.to hx ?_
      rintro e w2 rfl hb2
      have hb2' := hb'.trans (hb2.mono hb'.size)
      have hbr2 := hbr1.trans (hb2.mono hbr1.size)
      cases hq : q mn (pv + ws)
      · have HF2 : Hid (res = false) := Lib.hid (by rw [hm.out, HST.out, hq]; rfl)
        clear hq hx hm
        go_wp2_with fail
        go_ret
        exact ⟨ret_bool HF2.out.symm, hbr2⟩
      · have hm2 : Hid (res = allFrom (stepQ p q v iv) (k + 1) n) := Lib.hid (by rw [hm.out, HST.out, hq]; rfl)
        clear hq hx hm
        go_wp2_with fail
        go_roundw
        case measure => simp [RowKit.intOf, x7]; omega
        case rel => exact ⟨k + 1, by omega, by go_num, hb2', hm2⟩
    · have i6 : decide (k < n) = false := decide_eq_false hkn
      have HF2 : Hid (res = true) := Lib.hid (by rw [hm.out, allFrom_end _ (by omega)])
      clear hm
      go_wp2_with fail
      go_ret
      exact ⟨ret_bool HF2.out.symm, hbr⟩

end Go.Proofs.YtoiakijmbghhlaaGreat
