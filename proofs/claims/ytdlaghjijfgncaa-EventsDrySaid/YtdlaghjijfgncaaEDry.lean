/- The law EventsDry returns true for every record and all numbers, and leaves its arguments as they were. Conditions: none beyond the row's own. -/
import Derived.Test.YtdlaghjijfgncaaRows
import Derived.WalkKit
import Derived.ProofKit
import Derived.OpenShut
import Derived.ShutString
import Derived.ChangeOld
import Derived.Below
import Derived.Test.YtdlaghjijfgncaaEvw
import Derived.Test.YtdlaghjijfgncaaEvdo
import Derived.Test.YtdlaghjijfgncaaEvp
import Derived.Test.YtdlaghjijfgncaaRowk
namespace Go.Proofs.Ytdlaghjijfgncaa.eventsDry
open Go.ChangeShapes Go.WideShapes Go.ChangeAt Go.RowKit
set_option linter.unusedVariables false
set_option linter.unusedSimpArgs false
open Go.ChangeMaps (open_string shut_string)
set_option linter.unusedVariables false

theorem own : ownKnob Try.prog.godebug = none := by kernel_rfl
theorem laidOut : laidOutB Try.prog = true := by kernel_rfl

set_option maxRecDepth 100000 in
set_option maxHeartbeats 8000000 in
theorem walk (v0 : Value) (s : Ser) (a1 a2 : Int) (w : World) (w0 : v0 = vSer s ∧ gSer w s) (w1 : (Lit.int .i64 a1).wf = true) (w2 : (Lit.int .i64 a2).wf = true) :
    Calls Try.prog 10 #[v0, .int .i64 a1, .int .i64 a2] w fun e w' => e = .returned (.bool true) ∧ Below w.heap.size w w' := by
  obtain ⟨rfl, hg⟩ := w0
  clear w1 w2
  have HV : Hid (IsInts w (vSl s.Ds) s.Ds.xs) := hg.2.2.isL
  clear hg
  have HIS : Hid (IsC eInt 1 w s.Ds.a s.Ds.xs) := by
    obtain ⟨a0, c0, ea, _, _, h⟩ := HV.out
    simp only [vSl, Value.slice.injEq] at ea
    rw [ea.1]; exact h
  have hb0 : Below w.heap.size w (w.alloc (.cells (eSer s).toArray 24)) := (Below.refl _ _).alloc (Nat.le_refl _) _
  obtain ⟨⟨D, F⟩, HD⟩ : ∃ r, Hid (dryM s = r) := ⟨_, rfl⟩
  obtain ⟨⟨L, E⟩, HS⟩ : ∃ r, Hid (splitM s 1 0 = r) := ⟨_, rfl⟩
  go_enter Try.func10, Try.ntmps10
  go_wp2_with fail
  refine Calls.to (eawake_any _) ?_
  rintro e w1 rfl hb1
  have hbb1 := hb0.trans (hb1.mono hb0.size)
  obtain ⟨e0, e1, e2⟩ := boxSer w w1 24 s _ rfl _ rfl (by simpa using hb1)
  clear hb1
  go_wp2_with fail
  refine Calls.go hbb1 (few_any s _) ?_
  rintro e w2 rfl hb2' hb2
  have e0 := box_lt e0 hb2'
  have e1 := box_lt e1 hb2'
  have e2 := box_lt e2 hb2'
  clear hb2' hbb1
  cases hf : fewB s
  · go_wp2_with fail
    go_ret
    exact ⟨rfl, hb2⟩
  have HLEN : Hid (s.Ds.xs.length ≤ 200) := by
    show _ ≤ _
    simp only [fewB, decide_eq_true_eq] at hf
    omega
  clear hf
  go_wp2_with fail
  refine Calls.go hb2 (dry_any s _ (HV.out.mono hb2)) ?_
  rintro e w3 ⟨v3, rfl, hown3⟩ hb3' hb3
  rw [HD.out] at hown3 ⊢
  have e0 := box_lt e0 hb3'
  have e1 := box_lt e1 hb3'
  have e2 := box_lt e2 hb3'
  have hsd : IsPrs w3 v3 D := hown3.isL ePr_len
  clear hown3 hb3' hb2
  obtain ⟨da, dc, rfl⟩ := hsd.isSl
  go_wp2_with fail
  refine Calls.go hb3 (split_any s 1 0 _ (HV.out.mono hb3)) ?_
  rintro e w4 ⟨v4, rfl, hown4⟩ hb4' hb4
  rw [HS.out] at hown4 ⊢
  have e0 := box_lt e0 hb4'
  have e1 := box_lt e1 hb4'
  have e2 := box_lt e2 hb4'
  have hsd := hsd.mono hb4'
  have hse : IsEvs w4 v4 L := hown4.isL eEv_len
  clear hown4 hb4' hb3
  obtain ⟨la, lc, rfl⟩ := hse.isSl
  cases hr : serB s.From s.Step s.Ds.xs
  · have HD2 := HD.out.symm.trans (show dryM s = ([], 1) from by simp only [dryM, hr, if_true])
    have HS2 := HS.out.symm.trans (show splitM s 1 0 = ([], 1) from by simp only [splitM, hr, if_true])
    simp only [Prod.mk.injEq] at HS2 HD2
    obtain ⟨rfl, rfl⟩ := HS2
    obtain ⟨rfl, rfl⟩ := HD2
    clear HS HD hsd hse
    go_wp2_with fail
    go_ret
    exact ⟨rfl, hb4⟩
  have HX := Lib.hid hr
  have hdep : ∀ d ∈ s.Ds.xs, d ≤ 4194304 := by
    intro d hd
    obtain ⟨i, hi, rfl⟩ := List.getElem_of_mem hd
    exact (serB_dep hr i hi).2
  have hok := split_ok (dry := 1) hdep
  have hlen := HLEN.out
  have HD2 := HD.out.symm.trans (show dryM s = (dryGo s.Ds.xs 0 [], 0) from by simp only [dryM, hr]; simp)
  have HS2 := HS.out.symm.trans (show splitM s 1 0 = (splitGo 1 s.Ds.xs 0 [], 0) from by
    simp only [splitM, hr]
    rw [if_neg (by simp), if_neg (by omega), split_all hdep, if_neg (by have := hok.1; omega)])
  simp only [Prod.mk.injEq] at HS2 HD2
  obtain ⟨hDD, rfl⟩ := HD2
  obtain ⟨hLL, rfl⟩ := HS2
  have hdi := dry_law s.Ds.xs
  have hls := lenSum_law s.Ds.xs
  rw [← hDD] at hdi
  rw [← hLL] at hls hok
  have hov : ∀ x, 0 ≤ x → x ≤ 4194304 → overM s x = ((overN x s.Ds.xs : Int), 0) := by
    intro x h1 h2
    simp only [overM, HX.out]
    rw [if_neg (by simp), if_neg (by omega)]
  have HOV := Lib.hid hov
  have hsum := hdi.sum
  rw [List.take_length] at hsum
  have hne : ∀ p ∈ D, p.1 ≤ p.2 := fun p hp => (hdi.each p hp).2.1
  have hne2 : ∀ p ∈ L, p.From < p.To := fun p hp => (hok.2 p hp).ft
  have hDl := (spanSum_nn hne).2
  have hLl := (lenSum_nn hne2).2
  have HDI := Lib.hid hdi
  have HOK := Lib.hid hok
  have HSUM := Lib.hid hsum
  have HLS := Lib.hid hls
  obtain ⟨_, _, ed, qd1, qd2, hsd0⟩ := hsd
  simp only [Value.slice.injEq] at ed
  obtain ⟨rfl, _, rfl⟩ := ed
  obtain ⟨_, _, el, _, _, hse0⟩ := hse
  simp only [Value.slice.injEq] at el
  obtain ⟨rfl, _, rfl⟩ := el
  have QD : Hid (IsC ePr 2 w4 da D) := hsd0
  have QDC := Lib.hid (And.intro qd1 qd2)
  clear qd1 qd2
  have QL : Hid (IsC eEv 4 w4 la L) := hse0
  have HDl := Lib.hid hDl
  have HLl := Lib.hid hLl
  have E0 := Lib.hid e0
  have E1 := Lib.hid e1
  have E2 := Lib.hid e2
  clear hsd0 hse0 hdep hDD hLL hdi hls hok hov hsum hr hne hne2 HD HS hDl hLl
  go_wp2_with fail
  go_loopw [11, 59] (fun s11 s59 wr => ∃ i : Nat, i ≤ D.length ∧ s59 = .int .i64 i ∧ s11 = .int .i64 (spanSum (D.take i)) ∧ Below w.heap.size w wr ∧ Below w4.heap.size w4 wr) (fun _ i _ => D.length - (intOf i).toNat)
  case atStart => exact ⟨0, Nat.zero_le _, rfl, rfl, hb4, Below.refl _ _⟩
  case round =>
    as_aux_lemma =>
    obtain ⟨i, hi, rfl, rfl, hb, hbw⟩ := hrel
    have e2 := box_lt E2.out hbw
    have hlen := HLEN.out
    have hne : ∀ p ∈ D, p.1 ≤ p.2 := fun p hp => (HDI.out.each p hp).2.1
    have hsm := HSUM.out
    have hdl := HDl.out
    by_cases hlt : i < D.length
    · obtain ⟨b, off, rfl, c1, c2⟩ := (QD.out.mono hbw).prs i hlt
      obtain ⟨v1, v2, v3, v4⟩ := HDI.out.each _ (List.getElem_mem hlt)
      have HNP := Lib.hid v4
      have HS := Lib.hid (spanSum_step hlt)
      obtain ⟨d1, d2⟩ := spanSum_bd hne i
      have x1 : IntKind.i64.wrap ((i : Int) + 1) = i + 1 := IntWalk.i64_in _ (by omega)
      obtain ⟨E, hE⟩ : ∃ E : Int × Int, Hid (D.getD (i - 1) (0, 0) = E) := ⟨_, rfl⟩
      have hgap : 0 < i → E.2 + 2 ≤ D[i].1 ∧ E.2 ≤ 10000 ∧ 0 ≤ E.2 ∧ wr.cell? ⟨b, off + (i - 1) * 2 + 1, none⟩ = some (.int .i64 E.2) := by
        intro h0
        have hpl : i - 1 < D.length := by omega
        have hEE : D[i - 1] = E := by rw [← hE.out]; simp [List.getD, List.getElem?_eq_getElem hpl]
        obtain ⟨b', off', e', _, c⟩ := (QD.out.mono hbw).prs (i - 1) hpl
        simp only [Option.some.injEq, Addr.mk.injEq, and_true] at e'
        obtain ⟨rfl, rfl⟩ := e'
        rw [hEE] at c
        have hg := HDI.out.gap (i - 1) (by omega)
        simp only [show i - 1 + 1 = i from by omega] at hg
        rw [hEE] at hg
        have hb3 := HDI.out.each E (by rw [← hEE]; exact List.getElem_mem _)
        exact ⟨hg, by omega, by omega, c⟩
      have hov0 : 0 ≤ (overN 0 s.Ds.xs : Int) := by omega
      clear v4 hne hE
      generalize spanSum (D.take i) = sm at *
      generalize D[i] = x at *
      have x2 : IntKind.i64.wrap (x.2 - x.1) = x.2 - x.1 := IntWalk.i64_in _ (by omega)
      have x3 : IntKind.i64.wrap (x.2 - x.1 + 1) = x.2 - x.1 + 1 := IntWalk.i64_in _ (by omega)
      have x4 : IntKind.i64.wrap (sm + (x.2 - x.1 + 1)) = sm + (x.2 - x.1 + 1) := IntWalk.i64_in _ (by omega)
      have r3 := decide_eq_false (show ¬ x.1 < 0 by omega)
      have r4 := decide_eq_false (show ¬ x.2 < x.1 by omega)
      have r5 := decide_eq_false (show ¬ (s.Ds.xs.length : Int) ≤ x.2 by omega)
      have hbA : Below w.heap.size w (wr.alloc (.cells #[.int .i64 x.1, .int .i64 x.2] 69)) := hb.alloc hb.size _
      have hbA4 : Below w4.heap.size w4 (wr.alloc (.cells #[.int .i64 x.1, .int .i64 x.2] 69)) := hbw.alloc hbw.size _
      have hi200 : i ≤ 200 := by omega
      clear hb hbw hsm hdl hov0 d1 d2
      by_cases hi0 : i = 0
      · have g2 : decide (0 < i) = false := by simp <;> omega
        have g3 : decide ((0 : Int) < i) = false := by simp <;> omega
        clear hgap hi0
        go_wp2_with fail
        go_quiet (fail)
        have hbW : Below w.heap.size w ((wr.alloc (.cells #[.int .i64 x.1, .int .i64 x.2] 69)).drewN nq) := below_drewN hbA nq
        have k0 : ((wr.alloc (.cells #[.int .i64 x.1, .int .i64 x.2] 69)).drewN nq).cell? ⟨wr.heap.size, 0, none⟩ = some (.int .i64 x.1) := by simp [go_sem]
        have k1 : ((wr.alloc (.cells #[.int .i64 x.1, .int .i64 x.2] 69)).drewN nq).cell? ⟨wr.heap.size, 1, none⟩ = some (.int .i64 x.2) := by simp [go_sem]
        have e2W : ((wr.alloc (.cells #[.int .i64 x.1, .int .i64 x.2] 69)).drewN nq).cell? ⟨w.heap.size, 2, none⟩ = some (.slice s.Ds.a s.Ds.xs.length s.Ds.cap) := box_lt e2 (below_drewN ((Below.refl _ _).alloc (Nat.le_refl _) _) nq)
        have hbW4 : Below w4.heap.size w4 ((wr.alloc (.cells #[.int .i64 x.1, .int .i64 x.2] 69)).drewN nq) := below_drewN hbA4 nq
        have hsW := HIS.out.mono hbW
        have hzW : wr.heap.size = wr.heap.size := rfl
        generalize hXB : wr.heap.size = XB at *
        generalize (wr.alloc (.cells #[.int .i64 x.1, .int .i64 x.2] 69)).drewN nq = W1 at *
        clear hbA hbA4 hzW hXB
        skip
        go_wp2_with fail
        go_loopw [14] (fun s14 wq => ∃ k : Nat, s14 = .int .i64 k ∧ x.1 ≤ k ∧ (k : Int) ≤ x.2 + 1 ∧ wq = W1) (fun q _ => (x.2 + 1 - intOf q).toNat)
        case atStart => exact ⟨x.1.toNat, by rw [show ((x.1.toNat : Nat) : Int) = x.1 from by omega], by omega, by omega, rfl⟩
        case round =>
          as_aux_lemma =>
          obtain ⟨k, rfl, kl, kh, rfl⟩ := hrel
          have y1 : IntKind.i64.wrap ((k : Int) + 1) = k + 1 := IntWalk.i64_in _ (by omega)
          by_cases hkx : (k : Int) ≤ x.2
          · have r1 := decide_eq_true hkx
            have hkl : k < s.Ds.xs.length := by omega
            have r2 := decide_eq_false (show ¬ 0 < s.Ds.xs[k] by have := HNP.out k hkl kl hkx; omega)
            obtain ⟨b3, off3, ea, c0⟩ := hsW.int k hkl
            rw [ea] at e2W
            generalize s.Ds.xs[k] = d at *
            clear hsW
            go_wp2_with fail
            go_roundw
            case measure => simp [intOf]; omega
            case rel => exact ⟨k + 1, by go_num, by omega, by omega, by first | rfl | trivial⟩
          · have r1 := decide_eq_false hkx
            go_wp2_with fail
            go_roundw
            case measure => simp [intOf]; omega
            case rel => exact ⟨i + 1, by omega, by go_num, by rw [HS.out], hbW, hbW4⟩
      · have hi1 : 0 < i := by omega
        obtain ⟨y2, y3, y4, c4⟩ := hgap hi1
        have g2 : decide (0 < i) = true := by simp <;> omega
        have g3 : decide ((0 : Int) < i) = true := by simp <;> omega
        have g5 := decide_eq_false (show ¬ x.1 < E.2 + 2 by omega)
        have w1' : IntKind.i64.wrap ((i : Int) - 1) = (i : Int) - 1 := IntWalk.i64_in _ (by omega)
        have w5' : IntKind.i64.wrap (E.2 + 2) = E.2 + 2 := IntWalk.i64_in _ (by omega)
        clear hgap hi0 y2 y3 y4
        go_wp2_with fail
        have w2' : ((i : Int) - 1).toNat = i - 1 := by omega
        have w3' : 0 ≤ (i : Int) - 1 := by omega
        have w4' : (i : Int) - 1 < D.length := by omega
        go_wp2_with fail
        go_quiet (fail)
        have hbW : Below w.heap.size w ((wr.alloc (.cells #[.int .i64 x.1, .int .i64 x.2] 69)).drewN nq) := below_drewN hbA nq
        have k0 : ((wr.alloc (.cells #[.int .i64 x.1, .int .i64 x.2] 69)).drewN nq).cell? ⟨wr.heap.size, 0, none⟩ = some (.int .i64 x.1) := by simp [go_sem]
        have k1 : ((wr.alloc (.cells #[.int .i64 x.1, .int .i64 x.2] 69)).drewN nq).cell? ⟨wr.heap.size, 1, none⟩ = some (.int .i64 x.2) := by simp [go_sem]
        have e2W : ((wr.alloc (.cells #[.int .i64 x.1, .int .i64 x.2] 69)).drewN nq).cell? ⟨w.heap.size, 2, none⟩ = some (.slice s.Ds.a s.Ds.xs.length s.Ds.cap) := box_lt e2 (below_drewN ((Below.refl _ _).alloc (Nat.le_refl _) _) nq)
        have hbW4 : Below w4.heap.size w4 ((wr.alloc (.cells #[.int .i64 x.1, .int .i64 x.2] 69)).drewN nq) := below_drewN hbA4 nq
        have hsW := HIS.out.mono hbW
        have hzW : wr.heap.size = wr.heap.size := rfl
        generalize hXB : wr.heap.size = XB at *
        generalize (wr.alloc (.cells #[.int .i64 x.1, .int .i64 x.2] 69)).drewN nq = W1 at *
        clear hbA hbA4 hzW hXB
        clear w1' w2' w3' w4' w5'
        go_wp2_with fail
        go_loopw [14] (fun s14 wq => ∃ k : Nat, s14 = .int .i64 k ∧ x.1 ≤ k ∧ (k : Int) ≤ x.2 + 1 ∧ wq = W1) (fun q _ => (x.2 + 1 - intOf q).toNat)
        case atStart => exact ⟨x.1.toNat, by rw [show ((x.1.toNat : Nat) : Int) = x.1 from by omega], by omega, by omega, rfl⟩
        case round =>
          as_aux_lemma =>
          obtain ⟨k, rfl, kl, kh, rfl⟩ := hrel
          have y1 : IntKind.i64.wrap ((k : Int) + 1) = k + 1 := IntWalk.i64_in _ (by omega)
          by_cases hkx : (k : Int) ≤ x.2
          · have r1 := decide_eq_true hkx
            have hkl : k < s.Ds.xs.length := by omega
            have r2 := decide_eq_false (show ¬ 0 < s.Ds.xs[k] by have := HNP.out k hkl kl hkx; omega)
            obtain ⟨b3, off3, ea, c0⟩ := hsW.int k hkl
            rw [ea] at e2W
            generalize s.Ds.xs[k] = d at *
            clear hsW
            go_wp2_with fail
            go_roundw
            case measure => simp [intOf]; omega
            case rel => exact ⟨k + 1, by go_num, by omega, by omega, by first | rfl | trivial⟩
          · have r1 := decide_eq_false hkx
            go_wp2_with fail
            go_roundw
            case measure => simp [intOf]; omega
            case rel => exact ⟨i + 1, by omega, by go_num, by rw [HS.out], hbW, hbW4⟩
    · obtain rfl : i = D.length := by omega
      rw [List.take_length]
      clear e2
      generalize wr = W1 at *
      have hne2 : ∀ p ∈ L, p.From < p.To := fun p hp => (HOK.out.2 p hp).ft
      go_wp2_with fail
      go_loopw [11, 123] (fun s11 s123 wr => ∃ i : Nat, i ≤ L.length ∧ s123 = .int .i64 i ∧ s11 = .int .i64 (spanSum D + lenSum (L.take i)) ∧ Below w.heap.size w wr ∧ Below w4.heap.size w4 wr) (fun _ i _ => L.length - (intOf i).toNat)
      case atStart => exact ⟨0, Nat.zero_le _, rfl, by simp [lenSum], hb, hbw⟩
      case round =>
        as_aux_lemma =>
        obtain ⟨i, hi, rfl, rfl, hb, hbw⟩ := hrel
        have e0 := box_lt E0.out hbw
        have e1 := box_lt E1.out hbw
        have e2 := box_lt E2.out hbw
        obtain ⟨d1, d2⟩ := lenSum_bd hne2 i
        have d3 := HLS.out
        have d4 := HLl.out
        have d5 := (spanSum_nn hne).1
        by_cases hlt : i < L.length
        · obtain ⟨b, off, rfl, c1, c2, c3, c4⟩ := (QL.out.mono hbw).ev i hlt
          obtain ⟨z1, z2, z3, _, _, _, _⟩ := HOK.out.2 _ (List.getElem_mem hlt)
          have HS := Lib.hid (lenSum_step hlt)
          have x1 : IntKind.i64.wrap ((i : Int) + 1) = i + 1 := IntWalk.i64_in _ (by omega)
          clear hne hne2
          generalize lenSum (L.take i) = sm at *
          generalize L[i] = x at *
          generalize spanSum D = sD at *
          have x2 : IntKind.i64.wrap (x.To - x.From) = x.To - x.From := IntWalk.i64_in _ (by omega)
          have x3 : IntKind.i64.wrap (sD + sm + (x.To - x.From)) = sD + sm + (x.To - x.From) := IntWalk.i64_in _ (by omega)
          have hbA : Below w.heap.size w (wr.alloc (.cells #[.int .i64 x.From, .int .i64 x.To, .int .i64 x.Total, .int .i64 x.Peak] 34)) := hb.alloc hb.size _
          have hbA4 : Below w4.heap.size w4 (wr.alloc (.cells #[.int .i64 x.From, .int .i64 x.To, .int .i64 x.Total, .int .i64 x.Peak] 34)) := hbw.alloc hbw.size _
          have e2A : (wr.alloc (.cells #[.int .i64 x.From, .int .i64 x.To, .int .i64 x.Total, .int .i64 x.Peak] 34)).cell? ⟨w.heap.size, 2, none⟩ = some (.slice s.Ds.a s.Ds.xs.length s.Ds.cap) := box_lt e2 ((Below.refl _ _).alloc (Nat.le_refl _) _)
          clear hb hbw
          go_wp2_with fail
          go_roundw
          case measure => simp [intOf]; omega
          case rel => exact ⟨i + 1, by omega, by go_num, by rw [HS.out, Int.add_assoc], hbA, hbA4⟩
        · obtain rfl : i = L.length := by omega
          rw [List.take_length]
          have hsum2 : spanSum D + lenSum L = (s.Ds.xs.length : Int) := by omega
          rw [hsum2]
          have hD2 := (QD.out.mono hbw)
          have t1 : ((s.Ds.xs.length : Int) != s.Ds.xs.length) = false := by simp
          have q1 : (overN 0 s.Ds.xs : Int) = (s.Ds.xs.length : Int) - spanSum D := by omega
          have q2 : spanSum D ≤ 100000 := by omega
          have q3 : ∀ p ∈ D, 0 ≤ p.1 ∧ p.1 ≤ p.2 ∧ p.2 < 100000 := fun p hp => by have := HDI.out.each p hp; omega
          have x5 : IntKind.i64.wrap ((s.Ds.xs.length : Int) - spanSum D) = (s.Ds.xs.length : Int) - spanSum D := IntWalk.i64_in _ (by omega)
          have hD3 : IsPrs wr (.slice da D.length dc) D := ⟨da, dc, rfl, QDC.out.1, QDC.out.2, hD2⟩
          have QE := Lib.hid (And.intro q1 (And.intro q2 q3))
          clear hne hne2 hsum2 d1 d2 d3 d4 d5 hsm hdl q1 q2 q3 hlen hD2 x5
          go_wp2_with fail
          refine Calls.go hb (over_any s 0 _ (HV.out.mono hb)) ?_
          rintro e w5 rfl hb5' hb5
          rw [HOV.out 0 (by omega) (by omega)]
          have e0 := box_lt e0 hb5'
          have e1 := box_lt e1 hb5'
          have e2 := box_lt e2 hb5'
          have hD3 := hD3.mono hb5'
          clear hb5' hb hbw
          go_wp2_with fail
          refine Calls.go hb5 (dryOf_any D _ _ hD3 QE.out.2.2 QE.out.2.1) ?_
          rintro e w6 rfl hb6' hb6
          have e0 := box_lt e0 hb6'
          have e1 := box_lt e1 hb6'
          have e2 := box_lt e2 hb6'
          clear hb6' hb5 hD3
          have hqq := QE.out.1
          rw [hqq]
          have hss := (spanSum_nn (fun p hp => (QE.out.2.2 p hp).2.1)).1
          have hq2 := QE.out.2.1
          generalize hSD : spanSum D = sD at *
          have x5 : IntKind.i64.wrap ((s.Ds.xs.length : Int) - sD) = (s.Ds.xs.length : Int) - sD := IntWalk.i64_in _ (by have := HLEN.out; omega)
          have t2 : ((s.Ds.xs.length : Int) - sD != (s.Ds.xs.length : Int) - sD) = false := by simp
          clear hss hq2
          by_cases p1 : a1 < 0
          · have u1 := decide_eq_true p1
            clear p1 hSD
            go_wp2_with fail
            go_ret
            exact ⟨rfl, hb6⟩
          have u1 := decide_eq_false p1
          by_cases p2 : a2 < a1
          · have u2 := decide_eq_true p2
            clear p1 p2 hSD
            go_wp2_with fail
            go_ret
            exact ⟨rfl, hb6⟩
          have u2 := decide_eq_false p2
          by_cases p3 : 4194304 < a2
          · have u3 := decide_eq_true p3
            clear p1 p2 p3 hSD
            go_wp2_with fail
            go_ret
            exact ⟨rfl, hb6⟩
          have u3 := decide_eq_false p3
          have HO1 := Lib.hid (HOV.out a1 (by omega) (by omega))
          have HO2 := Lib.hid (HOV.out a2 (by omega) (by omega))
          have om1 := overN_mono (show a1 ≤ a2 by omega) s.Ds.xs
          have om2 := overN_mono (show 0 ≤ a1 by omega) s.Ds.xs
          have t3 := decide_eq_true (show (overN a2 s.Ds.xs : Int) ≤ (overN a1 s.Ds.xs : Int) by omega)
          have t3' := decide_eq_true om1
          have t4 := decide_eq_true (show (overN a1 s.Ds.xs : Int) ≤ (s.Ds.xs.length : Int) - sD by omega)
          clear p1 p2 p3 hSD om1 om2 hqq
          go_wp2_with fail
          refine Calls.go hb6 (over_any s a1 _ (HV.out.mono hb6)) ?_
          rintro e w7 rfl hb7' hb7
          rw [HO1.out]
          have e0 := box_lt e0 hb7'
          have e1 := box_lt e1 hb7'
          have e2 := box_lt e2 hb7'
          clear hb7' hb6
          go_wp2_with fail
          refine Calls.go hb7 (over_any s a2 _ (HV.out.mono hb7)) ?_
          rintro e w8 rfl hb8' hb8
          rw [HO2.out]
          clear hb8' hb7 e0 e1 e2
          go_wp2_with fail
          go_ret
          exact ⟨rfl, hb8⟩

/-! ### The row -/
set_option maxRecDepth 100000 in
theorem lifted (os : Os) (started : os.Started) (H : Type) (enc : TypeId × Value → H) :
    ReturnsInHanded {} Try.checked os 10 .any (Rows.eventsDrySpec.pre6 enc Try.prog Try.f10 Rows.eventsDryRow.domain false) (Rows.eventsDrySpec.post enc Try.prog Try.f10 false true false false) := by
  refine returnsInHanded_of_change (C := Try.checked) own started (by kernel_rfl) Try.func10
    (ChangeSpec.witness6 (enc := enc) (C := Try.checked) false ⟨#[], #[.agg #[.int .i64 0, .int .i64 0, .slice none 0 0], .int .i64 0, .int .i64 0], []⟩ 8 (by kernel_rfl) (by kernel_rfl) (by kernel_rfl) (by kernel_rfl)) ?_
  intro W base args ds gs before hval0 hW hcnd _
  have hval : ∀ (j : Nat) t v, Try.f10.params[j]? = some t → args[j]? = some v → Value.okWide Try.prog W .any base t v := hval0
  have hW' := hW
  obtain ⟨p, q, hA0, hV, rfl, hfz, hnd⟩ := hW
  have hA : DataW.TrodAll enc Try.prog W 0 (fun _ => true) true Try.f10.params.toList args.toList ds p := hA0
  rw [Try.params10] at hA hval
  obtain ⟨v0, vs0, d0, ds0, p0, q0, hargs, rfl, rfl, h0, r0⟩ := trodAll_cons hA
  obtain ⟨v1, vs1, d1, ds1, p1, q1, rfl, rfl, rfl, h1, r1⟩ := trodAll_cons r0
  obtain ⟨v2, vs2, d2, ds2, p2, q2, rfl, rfl, rfl, h2, r2⟩ := trodAll_cons r1
  obtain ⟨rfl, rfl, rfl⟩ := trodAll_nil r2
  obtain rfl : args = #[v0, v1, v2] := by cases args; simp_all
  obtain ⟨rfl, rfl⟩ := trodVars_none hV
  have k0 := h0
  have lt0 : ∀ x ∈ p0, x.block < W.heap.size := by obtain ⟨m, hm⟩ := k0; exact DataW.trod_lt m _ _ _ hm
  obtain ⟨x0, w0⟩ := openSer (hval 0 24 v0 rfl rfl) h0
  obtain ⟨a1, rfl, rfl, rfl, w1⟩ := open_int Try.underlying3 (hval 1 3 v1 rfl rfl) h1
  obtain ⟨a2, rfl, rfl, rfl, w2⟩ := open_int Try.underlying3 (hval 2 3 v2 rfl rfl) h2
  clear hA0 hval0
  refine (walk v0 x0 a1 a2 W w0 w1 w2).mono fun e W' ⟨he, bel⟩ => ?_
  subst he
  exact ⟨_, rfl, _, _, _, [], _, [], hW', trodAll_mk1 (shut_bool Try.underlying4 _), (trodAll_cons_mk (Below.trod laidOut (by kernel_rfl) (of_decide_eq_true (by kernel_rfl)) k0 bel lt0) (trodAll_cons_mk (shut_int Try.underlying3 w1) (trodAll_cons_mk (shut_int Try.underlying3 w2) trodAll_mk0))), rfl, bel.frame _, fun h => by cases h⟩

theorem over : Rows.eventsDryRow.holds Try.pinned (OpenSpec.ofChange Rows.eventsDrySpec) :=
  OpenClaim.holds_of_wide 10 Try.f10 rfl rfl rfl rfl rfl rfl rfl ⟨rfl, rfl, rfl, rfl, rfl⟩ rfl rfl rfl rfl rfl (by kernel_rfl) Try.func10 (by kernel_rfl)
    (of_decide_eq_true (by kernel_rfl)) (by unfold Func.isWrapper; first | (rw [if_pos (by decide +kernel)]; kernel_rfl) | (rw [if_neg (by decide +kernel)]; exact ⟨rfl, rfl⟩))
    (fun os started H enc _ => lifted os started H enc)

end Go.Proofs.Ytdlaghjijfgncaa.eventsDry
namespace Go.Proofs.Ytdlaghjijfgncaa
/-- The statement. -/
theorem eventsDry_holds : Rows.EventsDrySaid := eventsDry.over
#print axioms eventsDry_holds
end Go.Proofs.Ytdlaghjijfgncaa
