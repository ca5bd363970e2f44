/- Cause of the reference. Conditions: network and state read as data. -/
import Derived.Test.YtbkihndidbmhoaaNri
import Derived.Test.YtbkihndidbmhoaaNea
namespace Go.Proofs.Ytbkihndidbmhoaa
open Go.RowKit
set_option linter.unusedVariables false
set_option linter.unusedSimpArgs false

set_option maxRecDepth 100000 in
set_option maxHeartbeats 2000000 in
theorem r38cause_any (n : Net) (s : St) (i : Int) (w : World) (hg : gNet w n) (hgs : gSt w s) : Calls Try.prog 37 #[vNet n, vSt s, .int .i64 i] w fun e w' => e = .returned (.tuple #[.string (causeP n s i).1, .int .i64 (causeP n s i).2]) ∧ Below w.heap.size w w' := by
  have hb0 : Below w.heap.size w ((w.alloc (.cells (eNet n).toArray 85)).alloc (.cells (eSt s).toArray 87)) := ((Below.refl _ _).alloc (Nat.le_refl _) _).alloc (by simp) _
  cases hr : (netB n && stB n s)
  · rw [show causeP n s i = (⟨#[]⟩, 1) from by simp only [causeP, hr, if_true]]
    have HX := Lib.hid hr
    go_enter Try.func37, Try.ntmps37
    go_wp2_with fail
    refine Calls.to (r29right_any n s _ (rdNet.mono hg hb0) (rdSt.mono hgs hb0)) ?_
    rintro e w1 rfl hb1
    have hbw := hb0.trans (hb1.mono hb0.size)
    obtain ⟨f0, f1, f2, f3⟩ := boxSt (w.alloc (.cells (eNet n).toArray 85)) w1 87 s _ rfl (w.heap.size + 2) (by simp) (by simpa using hb1)
    obtain ⟨e0, e1⟩ := boxNet w w1 85 n _ rfl _ rfl (((Below.refl _ _).alloc (by simp) _).trans (hb1.mono (by simp)))
    rw [show (w.alloc (.cells (eNet n).toArray 85)).heap.size = w.heap.size + 1 from by simp] at f0 f1 f2 f3
    rw [HX.out]
    clear hb1
    go_wp2_with fail
    go_ret2
    exact ⟨rfl, hbw⟩
  have HX := Lib.hid hr
  by_cases i0 : i < 0
  · rw [show causeP n s i = (⟨#[]⟩, 2) from by simp only [causeP, hr, i0, true_or, if_true]; simp]
    have q : decide (i < 0) = true := decide_eq_true i0
    go_enter Try.func37, Try.ntmps37
    go_wp2_with fail
    refine Calls.to (r29right_any n s _ (rdNet.mono hg hb0) (rdSt.mono hgs hb0)) ?_
    rintro e w1 rfl hb1
    have hbw := hb0.trans (hb1.mono hb0.size)
    obtain ⟨f0, f1, f2, f3⟩ := boxSt (w.alloc (.cells (eNet n).toArray 85)) w1 87 s _ rfl (w.heap.size + 2) (by simp) (by simpa using hb1)
    obtain ⟨e0, e1⟩ := boxNet w w1 85 n _ rfl _ rfl (((Below.refl _ _).alloc (by simp) _).trans (hb1.mono (by simp)))
    rw [show (w.alloc (.cells (eNet n).toArray 85)).heap.size = w.heap.size + 1 from by simp] at f0 f1 f2 f3
    rw [HX.out]
    clear hb1
    go_wp2_with fail
    go_ret2
    exact ⟨rfl, hbw⟩
  have q : decide (i < 0) = false := decide_eq_false i0
  by_cases iN : (n.Ns.xs.length : Int) ≤ i
  · rw [show causeP n s i = (⟨#[]⟩, 2) from by simp only [causeP, hr, iN, or_true, if_true]; simp]
    have q2 : decide ((n.Ns.xs.length : Int) ≤ i) = true := decide_eq_true iN
    go_enter Try.func37, Try.ntmps37
    go_wp2_with fail
    refine Calls.to (r29right_any n s _ (rdNet.mono hg hb0) (rdSt.mono hgs hb0)) ?_
    rintro e w1 rfl hb1
    have hbw := hb0.trans (hb1.mono hb0.size)
    obtain ⟨f0, f1, f2, f3⟩ := boxSt (w.alloc (.cells (eNet n).toArray 85)) w1 87 s _ rfl (w.heap.size + 2) (by simp) (by simpa using hb1)
    obtain ⟨e0, e1⟩ := boxNet w w1 85 n _ rfl _ rfl (((Below.refl _ _).alloc (by simp) _).trans (hb1.mono (by simp)))
    rw [show (w.alloc (.cells (eNet n).toArray 85)).heap.size = w.heap.size + 1 from by simp] at f0 f1 f2 f3
    rw [HX.out]
    clear hb1
    go_wp2_with fail
    go_ret2
    exact ⟨rfl, hbw⟩
  have q2 : decide ((n.Ns.xs.length : Int) ≤ i) = false := decide_eq_false iN
  obtain ⟨k, rfl⟩ : ∃ k : Nat, i = (k : Int) := ⟨i.toNat, by omega⟩
  have hk : k < n.Ns.xs.length := by omega
  have hnet : netB n = true := by rw [Bool.and_eq_true] at hr; exact hr.1
  have hst : stB n s = true := by rw [Bool.and_eq_true] at hr; exact hr.2
  have hlen : s.V.xs.length = n.Ns.xs.length ∧ s.P.xs.length = n.Ns.xs.length := by
    simp only [stB, stLen, Bool.and_eq_true, decide_eq_true_eq] at hst
    exact ⟨hst.1.1.1.1, hst.1.1.1.2⟩
  have hkp : k < s.P.xs.length := by omega
  have hpk : s.P.xs.getD (k : Int).toNat 0 = s.P.xs[k] := by simp [List.getD, List.getElem?_eq_getElem hkp]
  have i1 : (0 : Int) ≤ k := by omega
  have i2 : (k : Int) < s.P.xs.length := by omega
  obtain ⟨pb, po, ep, cp⟩ := hgs.2.1.2.2.1.int k hkp
  by_cases p0 : s.P.xs[k] = 0
  · rw [show causeP n s (k : Int) = (⟨#[]⟩, 12) from by simp only [causeP, hr, i0, iN, hpk, p0, false_or, if_true, if_false]; simp]
    have u := beqT p0
    have HPL := Lib.hid hlen
    clear hlen hpk p0 hr hst
    go_enter Try.func37, Try.ntmps37
    go_wp2_with fail
    refine Calls.to (r29right_any n s _ (rdNet.mono hg hb0) (rdSt.mono hgs hb0)) ?_
    rintro e w1 rfl hb1
    have hbw := hb0.trans (hb1.mono hb0.size)
    obtain ⟨f0, f1, f2, f3⟩ := boxSt (w.alloc (.cells (eNet n).toArray 85)) w1 87 s _ rfl (w.heap.size + 2) (by simp) (by simpa using hb1)
    obtain ⟨e0, e1⟩ := boxNet w w1 85 n _ rfl _ rfl (((Below.refl _ _).alloc (by simp) _).trans (hb1.mono (by simp)))
    rw [show (w.alloc (.cells (eNet n).toArray 85)).heap.size = w.heap.size + 1 from by simp] at f0 f1 f2 f3
    rw [HX.out]
    clear hb1
    have cp := box_lt cp hbw
    simp only [vSl, ep] at f1
    generalize s.P.xs[k] = pv at *
    go_wp2_with fail
    go_ret2
    exact ⟨rfl, hbw⟩
  rw [show causeP n s (k : Int) = (nmAt n.Ns.xs (causeM n.Ns.xs n.Ls.xs s.V.xs n.Ns.xs.length [(k : Int)]).toNat, 0) from by simp only [causeP, hr, i0, iN, hpk, p0, false_or, if_false]; simp]
  have u := beqF p0
  have HPL := Lib.hid hlen
  have hNx : n.Ns.xs.length ≤ 9223372036854775807 := by have h1 := hg.1.1; have h2 := hg.1.2.1; omega
  obtain ⟨res, hres⟩ : ∃ r, nmAt n.Ns.xs (causeM n.Ns.xs n.Ls.xs s.V.xs n.Ns.xs.length [(k : Int)]).toNat = r := ⟨_, rfl⟩
  have HRES := Lib.hid hres
  rw [hres]
  clear hlen hpk p0 hr hst hres
  go_enter Try.func37, Try.ntmps37
  go_wp2_with fail
  refine Calls.to (r29right_any n s _ (rdNet.mono hg hb0) (rdSt.mono hgs hb0)) ?_
  rintro e w1 rfl hb1
  have hbw := hb0.trans (hb1.mono hb0.size)
  obtain ⟨f0, f1, f2, f3⟩ := boxSt (w.alloc (.cells (eNet n).toArray 85)) w1 87 s _ rfl (w.heap.size + 2) (by simp) (by simpa using hb1)
  obtain ⟨e0, e1⟩ := boxNet w w1 85 n _ rfl _ rfl (((Below.refl _ _).alloc (by simp) _).trans (hb1.mono (by simp)))
  rw [show (w.alloc (.cells (eNet n).toArray 85)).heap.size = w.heap.size + 1 from by simp] at f0 f1 f2 f3
  rw [HX.out]
  clear hb1
  have cp := box_lt cp hbw
  simp only [vSl, ep] at f1
  generalize s.P.xs[k] = pv at *
  go_wp2_with fail
  rw [← ep]
  refine Calls.to (r38way_any n s k _ (rdNet.mono hg hbw) (rdSt.mono hgs hbw) hnet HPL.out.1 hk) ?_
  rintro e w2 ⟨v, ys, rfl, hys, hl0, l1, l2, hc⟩ hb2
  have hbw2 := hbw.trans (hb2.mono hbw.size)
  have e0 := box_lt e0 hb2
  clear hb2 cp f0 f1 f2 f3 e1 ep
  obtain ⟨a, cap, rfl, hcap, hbig, hsy⟩ := hys
  obtain ⟨yb, yo, rfl, cy⟩ := hsy.int (ys.length - 1) (by omega)
  have hlast : lastI ys = ys[ys.length - 1] := by simp [lastI, List.getD, List.getElem?_eq_getElem (show ys.length - 1 < ys.length by omega)]
  obtain ⟨j, hj⟩ : ∃ j : Nat, lastI ys = (j : Int) := ⟨(lastI ys).toNat, by omega⟩
  have hjl : j < n.Ns.xs.length := by omega
  rw [← hlast, hj] at cy
  obtain ⟨nb, no, en, c0, _⟩ := (hg.1.2.2.1.mono hbw2).nd j hjl
  simp only [vSl, en] at e0
  have HN : Hid (n.Ns.xs[j].Name = res) := by
    show _ = _
    rw [← HRES.out, ← hc, hj]
    simp [nmAt, List.getD, List.getElem?_eq_getElem hjl]
  clear hc hsy HRES en
  generalize n.Ns.xs[j].Name = nmj at *
  have w1' : IntKind.i64.wrap ((ys.length : Int) - 1) = (ys.length : Int) - 1 := IntWalk.i64_in _ (by omega)
  have w2' : ((ys.length : Int) - 1).toNat = ys.length - 1 := by omega
  have w3' : 0 ≤ (ys.length : Int) - 1 := by omega
  have w4' : (ys.length : Int) - 1 < ys.length := by omega
  have j1 : (0 : Int) ≤ j := by omega
  have j2 : (j : Int) < n.Ns.xs.length := by omega
  clear hlast hj l1 l2 hcap hbig
  go_wp2_with fail
  go_quiet (fail)
  go_wp2_with fail
  go_ret2
  exact ⟨by rw [HN.out]; rfl, below_drewN hbw2 _⟩

end Go.Proofs.Ytbkihndidbmhoaa
