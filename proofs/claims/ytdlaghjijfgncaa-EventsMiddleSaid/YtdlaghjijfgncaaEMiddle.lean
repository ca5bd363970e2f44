/- The law EventsMiddle returns true for every list of events and all numbers, and leaves its arguments as they were. Conditions: none beyond the row's own. -/
import Derived.Test.YtdlaghjijfgncaaRows
import Derived.WalkKit
import Derived.ProofKit
import Derived.OpenShut
import Derived.ShutString
import Derived.ChangeOld
import Derived.Below
import Derived.Test.YtdlaghjijfgncaaEvw
import Derived.Test.YtdlaghjijfgncaaEvml
import Derived.Test.YtdlaghjijfgncaaEvp
import Derived.Test.YtdlaghjijfgncaaRowk
namespace Go.Proofs.Ytdlaghjijfgncaa.eventsMiddle
open Go.ChangeShapes Go.WideShapes Go.ChangeAt Go.RowKit
set_option linter.unusedVariables false
set_option linter.unusedSimpArgs false
open Go.ChangeMaps (open_string shut_string)
set_option linter.unusedVariables false

theorem own : ownKnob Try.prog.godebug = none := by kernel_rfl
theorem laidOut : laidOutB Try.prog = true := by kernel_rfl

set_option maxRecDepth 100000 in
set_option maxHeartbeats 8000000 in
theorem walk (v0 : Value) (x0 : Sl Ev) (a1 a2 a3 : Int) (w : World) (w0 : v0 = vSl x0 ∧ gSl eEv 4 gEv w x0) (w1 : (Lit.int .i64 a1).wf = true) (w2 : (Lit.int .i64 a2).wf = true) (w3 : (Lit.int .i64 a3).wf = true) :
    Calls Try.prog 5 #[v0, .int .i64 a1, .int .i64 a2, .int .i64 a3] w fun e w' => e = .returned (.bool true) ∧ Below w.heap.size w w' := by
  obtain ⟨rfl, hg⟩ := w0
  clear w1 w2 w3
  have HVV : Hid (IsEvs w (vSl x0) x0.xs) := hg.isL
  clear hg
  obtain ⟨sa, sc, l⟩ := x0
  simp only [vSl] at HVV ⊢
  obtain ⟨⟨X, E1⟩, HQX⟩ : ∃ r, Hid (quantM l a1 a3 = r) := ⟨_, rfl⟩
  obtain ⟨⟨Y, E2⟩, HQY⟩ : ∃ r, Hid (quantM l a2 a3 = r) := ⟨_, rfl⟩
  obtain ⟨⟨O1, O2⟩, HL⟩ : ∃ r, Hid (longM l = r) := ⟨_, rfl⟩
  go_enter Try.func5, Try.ntmps5
  go_wp2_with fail
  refine Calls.to (eawake_any _) ?_
  rintro e w1 rfl hb1
  go_wp2_with fail
  refine Calls.go hb1 (short_any l _ _ (HVV.out.mono hb1)) ?_
  rintro e w2 rfl hb2' hb2
  clear hb2' hb1
  cases q0 : decide ((l.length : Int) ≤ 60)
  · go_wp2_with fail
    go_ret
    exact ⟨rfl, hb2⟩
  have hl60 : l.length ≤ 60 := by simp only [decide_eq_true_eq] at q0; omega
  have HL60 := Lib.hid hl60
  clear hl60
  by_cases q1 : a1 < 0
  · have u1 := decide_eq_true q1
    go_wp2_with fail
    go_ret
    exact ⟨rfl, hb2⟩
  have u1 := decide_eq_false q1
  by_cases q2 : a2 < a1
  · have u2 := decide_eq_true q2
    go_wp2_with fail
    go_ret
    exact ⟨rfl, hb2⟩
  have u2 := decide_eq_false q2
  by_cases q3 : a3 < a2
  · have u3 := decide_eq_true q3
    go_wp2_with fail
    go_ret
    exact ⟨rfl, hb2⟩
  have u3 := decide_eq_false q3
  by_cases q4 : a3 < 1
  · have u4 := decide_eq_true q4
    go_wp2_with fail
    go_ret
    exact ⟨rfl, hb2⟩
  have u4 := decide_eq_false q4
  by_cases q5 : 1073741824 < a3
  · have u5 := decide_eq_true q5
    go_wp2_with fail
    go_ret
    exact ⟨rfl, hb2⟩
  have u5 := decide_eq_false q5
  go_wp2_with fail
  refine Calls.go hb2 (quant_any l _ a1 a3 _ (HVV.out.mono hb2)) ?_
  rintro e w3 rfl hb3' hb3
  rw [HQX.out]
  clear hb3'
  go_wp2_with fail
  refine Calls.go hb3 (quant_any l _ a2 a3 _ (HVV.out.mono hb3)) ?_
  rintro e w4 rfl hb4' hb4
  rw [HQY.out]
  clear hb4' hb3
  go_wp2_with fail
  refine Calls.go hb4 (longest_any l _ _ (HVV.out.mono hb4)) ?_
  rintro e w5 rfl hb5' hb5
  rw [HL.out]
  clear hb5' hb4
  cases hvm : validM l
  · have HX := HQX.out.symm.trans (show quantM l a1 a3 = (0, 1) from by simp only [quantM, hvm, if_true])
    have HY := HQY.out.symm.trans (show quantM l a2 a3 = (0, 1) from by simp only [quantM, hvm, if_true])
    simp only [Prod.mk.injEq] at HX HY
    obtain ⟨rfl, rfl⟩ := HX
    obtain ⟨rfl, rfl⟩ := HY
    go_wp2_with fail
    refine Calls.go hb5 (r21valid_any l _ _ (HVV.out.mono hb5)) ?_
    rintro e w6 rfl hb6' hb6
    rw [hvm]
    go_wp2_with fail
    go_ret
    exact ⟨rfl, hb6⟩
  have HVM := Lib.hid hvm
  have HX := Lib.hid (HQX.out.symm.trans (show quantM l a1 a3 = if l.length = 0 then (0, 14) else (qV l a1 a3, 0) from by
    simp only [quantM, HVM.out]
    rw [if_neg (by simp), if_neg (by omega)]
    rfl))
  have HY := Lib.hid (HQY.out.symm.trans (show quantM l a2 a3 = if l.length = 0 then (0, 14) else (qV l a2 a3, 0) from by
    simp only [quantM, HVM.out]
    rw [if_neg (by simp), if_neg (by omega)]
    rfl))
  by_cases z : l.length = 0
  · have t := beqT (show (l.length : Int) = 0 by omega)
    have HX2 := HX.out
    have HY2 := HY.out
    rw [if_pos z] at HX2 HY2
    simp only [Prod.mk.injEq] at HX2 HY2
    obtain ⟨rfl, rfl⟩ := HX2
    obtain ⟨rfl, rfl⟩ := HY2
    clear HX HY z hvm
    go_wp2_with fail
    go_ret
    exact ⟨rfl, hb5⟩
  have hpos : 0 < l.length := by omega
  have t := beqF (show ¬ (l.length : Int) = 0 by omega)
  have HX2 := HX.out
  have HY2 := HY.out
  have HLO := HL.out.symm.trans (show longM l = ((longTo l l.length : Int), 0) from by simp only [longM, HVM.out, z, if_false]; simp)
  rw [if_neg z] at HX2 HY2
  simp only [Prod.mk.injEq] at HX2 HY2 HLO
  obtain ⟨hX, rfl⟩ := HX2
  obtain ⟨hY, rfl⟩ := HY2
  obtain ⟨rfl, rfl⟩ := HLO
  have hde : 1 ≤ a3 := by omega
  have m1 : X ≤ Y := by rw [hX, hY]; exact mid_le hde (by omega) (by omega) (by omega) hpos
  have m2 : amongT l Y l.length = true := by rw [hY]; exact mid_among hde (by omega) (by omega) hpos
  have m3 : a2 * l.length ≤ (cntLe l Y l.length : Int) * a3 := by rw [hY]; exact mid_enough hde (by omega) (by omega) hpos
  have m4 : 0 < cntLe l (Y - 1) l.length → (cntLe l (Y - 1) l.length : Int) * a3 < a2 * l.length := by rw [hY]; exact mid_less hde (by omega) (by omega) hpos
  have M1 := Lib.hid m1
  have M2 := Lib.hid m2
  have M3 := Lib.hid m3
  have M4 := Lib.hid m4
  have hall := validM_all hvm
  have HB := Lib.hid (And.intro (show 0 ≤ a2 by omega) (And.intro (show a2 ≤ 1073741824 by omega) (show a3 ≤ 1073741824 by omega)))
  obtain ⟨_, _, e0, _, _, hs0⟩ := HVV.out
  simp only [Value.slice.injEq] at e0
  obtain ⟨rfl, _, _⟩ := e0
  have hs : IsC eEv 4 w sa l := hs0
  clear hs0 m1 m2 m3 m4 hX hY HX HY hvm q1 q2 q3 q4 q5 z
  have HDE := Lib.hid hde
  clear hde
  go_wp2_with fail
  go_loopw [15, 16, 17, 107] (fun s15 s16 s17 s107 wr => ∃ i : Nat, i ≤ l.length ∧ s107 = .int .i64 i ∧ s15 = .int .i64 (cntLe l Y i) ∧ s16 = .int .i64 (cntLe l (Y - 1) i) ∧ s17 = .bool (amongT l Y i) ∧ Below w.heap.size w wr) (fun _ _ _ i _ => l.length - (intOf i).toNat)
  case atStart => exact ⟨0, Nat.zero_le _, rfl, rfl, rfl, rfl, hb5⟩
  case round =>
    as_aux_lemma =>
    obtain ⟨i, hi, rfl, rfl, rfl, rfl, hb⟩ := hrel
    have hl60 := HL60.out
    by_cases hlt : i < l.length
    · obtain ⟨b, off, rfl, k1, k2, k3, k4⟩ := (hs.mono hb).ev i hlt
      have x1 : IntKind.i64.wrap ((i : Int) + 1) = i + 1 := IntWalk.i64_in _ (by omega)
      have x2 : IntKind.i64.wrap ((cntLe l Y i : Int) + 1) = (cntLe l Y i : Int) + 1 := IntWalk.i64_in _ (by have := cntLe_le l Y i; omega)
      have x3 : IntKind.i64.wrap ((cntLe l (Y - 1) i : Int) + 1) = (cntLe l (Y - 1) i : Int) + 1 := IntWalk.i64_in _ (by have := cntLe_le l (Y - 1) i; omega)
      have C1 := Lib.hid (cntLe_step (l := l) (t := Y) hlt)
      have C2 := Lib.hid (cntLe_step (l := l) (t := Y - 1) hlt)
      have C3 := Lib.hid (amongT_step (l := l) (t := Y) hlt)
      have hbA : Below w.heap.size w (wr.alloc (.cells #[.int .i64 l[i].From, .int .i64 l[i].To, .int .i64 l[i].Total, .int .i64 l[i].Peak] 34)) := hb.alloc hb.size _
      clear hs hall
      generalize cntLe l Y i = c1 at *
      generalize cntLe l (Y - 1) i = c2 at *
      generalize l[i] = x at *
      obtain ⟨bb, H3⟩ : ∃ bb, Hid (amongT l Y i = bb) := ⟨_, rfl⟩
      rw [H3.out]
      rcases Int.lt_trichotomy x.Total Y with h1 | h1 | h1
      · have t1 := decide_eq_true (show x.Total ≤ Y by omega)
        have t2 := decide_eq_true h1
        have t3 := beqF (show ¬ x.Total = Y by omega)
        have P1 := Lib.hid (show x.Total ≤ Y by omega)
        have P2 := Lib.hid (show x.Total ≤ Y - 1 by omega)
        have P3 := Lib.hid t3
        clear h1
        cases bb
        · go_wp2_with fail
          go_roundw
          case measure => simp [intOf]; omega
          case rel => exact ⟨i + 1, by omega, by go_num, by first | (rw [C1.out, if_pos P1.out]; go_num) | (rw [C1.out, if_pos P1.out]; rfl), by first | (rw [C2.out, if_pos P2.out]; go_num) | (rw [C2.out, if_pos P2.out]; rfl), by rw [C3.out, H3.out, P3.out]; rfl, by repeat' (first | exact Below.refl _ _ | assumption | refine Below.more ?_ ?_ _ | refine Below.alloc ?_ ?_ _ | refine Below.drew ?_ | refine below_drewN ?_ _ | refine Below.setCell ?_ ?_ _ | exact Below.size (by assumption) | (simp [go_sem, size_more]; done) | (simp [go_sem, size_more]; omega))⟩
        · go_wp2_with fail
          go_roundw
          case measure => simp [intOf]; omega
          case rel => exact ⟨i + 1, by omega, by go_num, by first | (rw [C1.out, if_pos P1.out]; go_num) | (rw [C1.out, if_pos P1.out]; rfl), by first | (rw [C2.out, if_pos P2.out]; go_num) | (rw [C2.out, if_pos P2.out]; rfl), by rw [C3.out, H3.out, P3.out]; rfl, by repeat' (first | exact Below.refl _ _ | assumption | refine Below.more ?_ ?_ _ | refine Below.alloc ?_ ?_ _ | refine Below.drew ?_ | refine below_drewN ?_ _ | refine Below.setCell ?_ ?_ _ | exact Below.size (by assumption) | (simp [go_sem, size_more]; done) | (simp [go_sem, size_more]; omega))⟩
      · have t1 := decide_eq_true (show x.Total ≤ Y by omega)
        have t2 := decide_eq_false (show ¬ x.Total < Y by omega)
        have t3 := beqT h1
        have P1 := Lib.hid (show x.Total ≤ Y by omega)
        have P2 := Lib.hid (show ¬ x.Total ≤ Y - 1 by omega)
        have P3 := Lib.hid t3
        clear h1
        cases bb
        · go_wp2_with fail
          go_roundw
          case measure => simp [intOf]; omega
          case rel => exact ⟨i + 1, by omega, by go_num, by first | (rw [C1.out, if_pos P1.out]; go_num) | (rw [C1.out, if_pos P1.out]; rfl), by first | (rw [C2.out, if_neg P2.out]; go_num) | (rw [C2.out, if_neg P2.out]; rfl), by rw [C3.out, H3.out, P3.out]; rfl, by repeat' (first | exact Below.refl _ _ | assumption | refine Below.more ?_ ?_ _ | refine Below.alloc ?_ ?_ _ | refine Below.drew ?_ | refine below_drewN ?_ _ | refine Below.setCell ?_ ?_ _ | exact Below.size (by assumption) | (simp [go_sem, size_more]; done) | (simp [go_sem, size_more]; omega))⟩
        · go_wp2_with fail
          go_roundw
          case measure => simp [intOf]; omega
          case rel => exact ⟨i + 1, by omega, by go_num, by first | (rw [C1.out, if_pos P1.out]; go_num) | (rw [C1.out, if_pos P1.out]; rfl), by first | (rw [C2.out, if_neg P2.out]; go_num) | (rw [C2.out, if_neg P2.out]; rfl), by rw [C3.out, H3.out, P3.out]; rfl, by repeat' (first | exact Below.refl _ _ | assumption | refine Below.more ?_ ?_ _ | refine Below.alloc ?_ ?_ _ | refine Below.drew ?_ | refine below_drewN ?_ _ | refine Below.setCell ?_ ?_ _ | exact Below.size (by assumption) | (simp [go_sem, size_more]; done) | (simp [go_sem, size_more]; omega))⟩
      · have t1 := decide_eq_false (show ¬ x.Total ≤ Y by omega)
        have t2 := decide_eq_false (show ¬ x.Total < Y by omega)
        have t3 := beqF (show ¬ x.Total = Y by omega)
        have P1 := Lib.hid (show ¬ x.Total ≤ Y by omega)
        have P2 := Lib.hid (show ¬ x.Total ≤ Y - 1 by omega)
        have P3 := Lib.hid t3
        clear h1
        cases bb
        · go_wp2_with fail
          go_roundw
          case measure => simp [intOf]; omega
          case rel => exact ⟨i + 1, by omega, by go_num, by first | (rw [C1.out, if_neg P1.out]; go_num) | (rw [C1.out, if_neg P1.out]; rfl), by first | (rw [C2.out, if_neg P2.out]; go_num) | (rw [C2.out, if_neg P2.out]; rfl), by rw [C3.out, H3.out, P3.out]; rfl, by repeat' (first | exact Below.refl _ _ | assumption | refine Below.more ?_ ?_ _ | refine Below.alloc ?_ ?_ _ | refine Below.drew ?_ | refine below_drewN ?_ _ | refine Below.setCell ?_ ?_ _ | exact Below.size (by assumption) | (simp [go_sem, size_more]; done) | (simp [go_sem, size_more]; omega))⟩
        · go_wp2_with fail
          go_roundw
          case measure => simp [intOf]; omega
          case rel => exact ⟨i + 1, by omega, by go_num, by first | (rw [C1.out, if_neg P1.out]; go_num) | (rw [C1.out, if_neg P1.out]; rfl), by first | (rw [C2.out, if_neg P2.out]; go_num) | (rw [C2.out, if_neg P2.out]; rfl), by rw [C3.out, H3.out, P3.out]; rfl, by repeat' (first | exact Below.refl _ _ | assumption | refine Below.more ?_ ?_ _ | refine Below.alloc ?_ ?_ _ | refine Below.drew ?_ | refine below_drewN ?_ _ | refine Below.setCell ?_ ?_ _ | exact Below.size (by assumption) | (simp [go_sem, size_more]; done) | (simp [go_sem, size_more]; omega))⟩
    · obtain rfl : i = l.length := by omega
      have hn := longTo_lt l l.length (Nat.le_refl _) hpos
      have g1 := decide_eq_false (show ¬ Y < X by have := M1.out; omega)
      have c1l := cntLe_le l Y l.length
      have c2l := cntLe_le l (Y - 1) l.length
      have hm3 := M3.out
      have hm4 := M4.out
      obtain ⟨b1, b2, b3⟩ := HB.out
      have hde := HDE.out
      rw [M2.out]
      have HLW := Lib.hid (longTo_law l l.length)
      generalize cntLe l Y l.length = c1 at *
      generalize cntLe l (Y - 1) l.length = c2 at *
      generalize hN : longTo l l.length = N at *
      have p1 : (0 : Int) ≤ c1 * a3 := Int.mul_nonneg (by omega) (by omega)
      have p2 : (c1 : Int) * a3 ≤ 60 * 1073741824 := Int.mul_le_mul (by omega) b3 (by omega) (by omega)
      have p3 : (0 : Int) ≤ c2 * a3 := Int.mul_nonneg (by omega) (by omega)
      have p4 : (c2 : Int) * a3 ≤ 60 * 1073741824 := Int.mul_le_mul (by omega) b3 (by omega) (by omega)
      have p5 : (0 : Int) ≤ a2 * l.length := Int.mul_nonneg (by omega) (by omega)
      have p6 : a2 * (l.length : Int) ≤ 1073741824 * 60 := Int.mul_le_mul b2 (by omega) (by omega) (by omega)
      have x1 : IntKind.i64.wrap ((c1 : Int) * a3) = (c1 : Int) * a3 := IntWalk.i64_in _ (by omega)
      have x2 : IntKind.i64.wrap ((c2 : Int) * a3) = (c2 : Int) * a3 := IntWalk.i64_in _ (by omega)
      have x3 : IntKind.i64.wrap (a2 * (l.length : Int)) = a2 * (l.length : Int) := IntWalk.i64_in _ (by omega)
      have g2 := decide_eq_false (show ¬ (c1 : Int) * a3 < a2 * (l.length : Int) by omega)
      have g6 := decide_eq_false (show ¬ ((N : Int) < 0) by omega)
      have g7 := decide_eq_false (show ¬ ((l.length : Int) ≤ (N : Int)) by omega)
      have g7' := decide_eq_false (show ¬ (l.length ≤ N) by omega)
      have HN := Lib.hid (And.intro hn hN)
      have HBW := Lib.hid hb
      clear hb
      generalize wr = W1 at *
      clear hm3 p1 p2 p3 p4 p5 p6 b1 b2 b3 hde M1 M2 M3 M4 hn hN
      by_cases hc : 0 < c2
      · have g3 := decide_eq_true hc
        have g3' := decide_eq_true (show (0 : Int) < (c2 : Int) by omega)
        have g4 := decide_eq_false (show ¬ (a2 * (l.length : Int) ≤ (c2 : Int) * a3) by have := hm4 hc; omega)
        clear hm4 hc
        go_wp2_with fail
        go_loopw [178] (fun s178 wr => ∃ i : Nat, i ≤ l.length ∧ s178 = .int .i64 i ∧ Below w.heap.size w wr) (fun i _ => l.length - (intOf i).toNat)
        case atStart => exact ⟨0, Nat.zero_le _, rfl, HBW.out⟩
        case round =>
          as_aux_lemma =>
          obtain ⟨i, hi, rfl, hb⟩ := hrel
          obtain ⟨hn, hN⟩ := HN.out
          have hl60 := HL60.out
          by_cases hlt : i < l.length
          · obtain ⟨b, off, rfl, c1, c2, c3, c4⟩ := (hs.mono hb).ev i hlt
            have d := (hs.mono hb).ev' N hn
            obtain ⟨d1, d2, _, _⟩ := d
            obtain ⟨v1, v2, v3, _, _, _⟩ := hall _ (List.getElem_mem hlt)
            obtain ⟨z1, z2, z3, _, _, _⟩ := hall _ (List.getElem_mem hn)
            have x1 : IntKind.i64.wrap ((i : Int) + 1) = i + 1 := IntWalk.i64_in _ (by omega)
            have i0 : (0 : Int) ≤ i := by omega
            have i1 : (i : Int) < l.length := by omega
            have b0 : (0 : Int) ≤ (N : Int) := by omega
            have b1 : (N : Int) < l.length := by omega
            obtain ⟨lw1, lw2⟩ := HLW.out i hlt
            rw [spanOf_at hlt, spanOf_at hn] at lw1 lw2
            have x2 : IntKind.i64.wrap (l[i].To - l[i].From) = l[i].To - l[i].From := IntWalk.i64_in _ (by omega)
            have x3 : IntKind.i64.wrap (l[N].To - l[N].From) = l[N].To - l[N].From := IntWalk.i64_in _ (by omega)
            have hbA : Below w.heap.size w (wr.alloc (.cells #[.int .i64 l[i].From, .int .i64 l[i].To, .int .i64 l[i].Total, .int .i64 l[i].Peak] 34)) := hb.alloc hb.size _
            have HNI := Lib.hid (And.intro hn hN)
            clear hs hall hN
            generalize l[i] = x at *
            generalize l[N] = y at *
            have g1 := decide_eq_false (show ¬ (y.To - y.From < x.To - x.From) by omega)
            by_cases hq : x.To - x.From = y.To - y.From
            · have g2 := beqT hq
              have g3 := decide_eq_false (show ¬ ((i : Int) < (N : Int)) by have := lw2 hq; omega)
              have g3' := decide_eq_false (show ¬ (i < N) by have := lw2 hq; omega)
              clear hq lw1 lw2
              go_wp2_with fail
              go_quiet (fail)
              go_wp2_with fail
              go_roundw
              case measure => simp [intOf]; omega
              case rel => exact ⟨i + 1, by omega, by go_num, by repeat' (first | exact Below.refl _ _ | assumption | refine Below.more ?_ ?_ _ | refine Below.alloc ?_ ?_ _ | refine Below.drew ?_ | refine below_drewN ?_ _ | refine Below.setCell ?_ ?_ _ | exact Below.size (by assumption) | (simp [go_sem, size_more]; done) | (simp [go_sem, size_more]; omega))⟩
            · have g2 := beqF hq
              clear hq lw1 lw2
              go_wp2_with fail
              go_quiet (fail)
              go_wp2_with fail
              go_roundw
              case measure => simp [intOf]; omega
              case rel => exact ⟨i + 1, by omega, by go_num, by repeat' (first | exact Below.refl _ _ | assumption | refine Below.more ?_ ?_ _ | refine Below.alloc ?_ ?_ _ | refine Below.drew ?_ | refine below_drewN ?_ _ | refine Below.setCell ?_ ?_ _ | exact Below.size (by assumption) | (simp [go_sem, size_more]; done) | (simp [go_sem, size_more]; omega))⟩
          · go_wp2_with fail
            go_ret
            exact ⟨rfl, hb⟩
      · have g3 := decide_eq_false hc
        have g3' := decide_eq_false (show ¬ (0 : Int) < (c2 : Int) by omega)
        clear hm4 hc
        go_wp2_with fail
        go_loopw [178] (fun s178 wr => ∃ i : Nat, i ≤ l.length ∧ s178 = .int .i64 i ∧ Below w.heap.size w wr) (fun i _ => l.length - (intOf i).toNat)
        case atStart => exact ⟨0, Nat.zero_le _, rfl, HBW.out⟩
        case round =>
          as_aux_lemma =>
          obtain ⟨i, hi, rfl, hb⟩ := hrel
          obtain ⟨hn, hN⟩ := HN.out
          have hl60 := HL60.out
          by_cases hlt : i < l.length
          · obtain ⟨b, off, rfl, c1, c2, c3, c4⟩ := (hs.mono hb).ev i hlt
            have d := (hs.mono hb).ev' N hn
            obtain ⟨d1, d2, _, _⟩ := d
            obtain ⟨v1, v2, v3, _, _, _⟩ := hall _ (List.getElem_mem hlt)
            obtain ⟨z1, z2, z3, _, _, _⟩ := hall _ (List.getElem_mem hn)
            have x1 : IntKind.i64.wrap ((i : Int) + 1) = i + 1 := IntWalk.i64_in _ (by omega)
            have i0 : (0 : Int) ≤ i := by omega
            have i1 : (i : Int) < l.length := by omega
            have b0 : (0 : Int) ≤ (N : Int) := by omega
            have b1 : (N : Int) < l.length := by omega
            obtain ⟨lw1, lw2⟩ := HLW.out i hlt
            rw [spanOf_at hlt, spanOf_at hn] at lw1 lw2
            have x2 : IntKind.i64.wrap (l[i].To - l[i].From) = l[i].To - l[i].From := IntWalk.i64_in _ (by omega)
            have x3 : IntKind.i64.wrap (l[N].To - l[N].From) = l[N].To - l[N].From := IntWalk.i64_in _ (by omega)
            have hbA : Below w.heap.size w (wr.alloc (.cells #[.int .i64 l[i].From, .int .i64 l[i].To, .int .i64 l[i].Total, .int .i64 l[i].Peak] 34)) := hb.alloc hb.size _
            have HNI := Lib.hid (And.intro hn hN)
            clear hs hall hN
            generalize l[i] = x at *
            generalize l[N] = y at *
            have g1 := decide_eq_false (show ¬ (y.To - y.From < x.To - x.From) by omega)
            by_cases hq : x.To - x.From = y.To - y.From
            · have g2 := beqT hq
              have g3 := decide_eq_false (show ¬ ((i : Int) < (N : Int)) by have := lw2 hq; omega)
              have g3' := decide_eq_false (show ¬ (i < N) by have := lw2 hq; omega)
              clear hq lw1 lw2
              go_wp2_with fail
              go_quiet (fail)
              go_wp2_with fail
              go_roundw
              case measure => simp [intOf]; omega
              case rel => exact ⟨i + 1, by omega, by go_num, by repeat' (first | exact Below.refl _ _ | assumption | refine Below.more ?_ ?_ _ | refine Below.alloc ?_ ?_ _ | refine Below.drew ?_ | refine below_drewN ?_ _ | refine Below.setCell ?_ ?_ _ | exact Below.size (by assumption) | (simp [go_sem, size_more]; done) | (simp [go_sem, size_more]; omega))⟩
            · have g2 := beqF hq
              clear hq lw1 lw2
              go_wp2_with fail
              go_quiet (fail)
              go_wp2_with fail
              go_roundw
              case measure => simp [intOf]; omega
              case rel => exact ⟨i + 1, by omega, by go_num, by repeat' (first | exact Below.refl _ _ | assumption | refine Below.more ?_ ?_ _ | refine Below.alloc ?_ ?_ _ | refine Below.drew ?_ | refine below_drewN ?_ _ | refine Below.setCell ?_ ?_ _ | exact Below.size (by assumption) | (simp [go_sem, size_more]; done) | (simp [go_sem, size_more]; omega))⟩
          · go_wp2_with fail
            go_ret
            exact ⟨rfl, hb⟩

/-! ### The row -/
set_option maxRecDepth 100000 in
theorem lifted (os : Os) (started : os.Started) (H : Type) (enc : TypeId × Value → H) :
    ReturnsInHanded {} Try.checked os 5 .any (Rows.eventsMiddleSpec.pre6 enc Try.prog Try.f5 Rows.eventsMiddleRow.domain false) (Rows.eventsMiddleSpec.post enc Try.prog Try.f5 false true false false) := by
  refine returnsInHanded_of_change (C := Try.checked) own started (by kernel_rfl) Try.func5
    (ChangeSpec.witness6 (enc := enc) (C := Try.checked) false ⟨#[], #[.slice none 0 0, .int .i64 0, .int .i64 0, .int .i64 0], []⟩ 8 (by kernel_rfl) (by kernel_rfl) (by kernel_rfl) (by kernel_rfl)) ?_
  intro W base args ds gs before hval0 hW hcnd _
  have hval : ∀ (j : Nat) t v, Try.f5.params[j]? = some t → args[j]? = some v → Value.okWide Try.prog W .any base t v := hval0
  have hW' := hW
  obtain ⟨p, q, hA0, hV, rfl, hfz, hnd⟩ := hW
  have hA : DataW.TrodAll enc Try.prog W 0 (fun _ => true) true Try.f5.params.toList args.toList ds p := hA0
  rw [Try.params5] at hA hval
  obtain ⟨v0, vs0, d0, ds0, p0, q0, hargs, rfl, rfl, h0, r0⟩ := trodAll_cons hA
  obtain ⟨v1, vs1, d1, ds1, p1, q1, rfl, rfl, rfl, h1, r1⟩ := trodAll_cons r0
  obtain ⟨v2, vs2, d2, ds2, p2, q2, rfl, rfl, rfl, h2, r2⟩ := trodAll_cons r1
  obtain ⟨v3, vs3, d3, ds3, p3, q3, rfl, rfl, rfl, h3, r3⟩ := trodAll_cons r2
  obtain ⟨rfl, rfl, rfl⟩ := trodAll_nil r3
  obtain rfl : args = #[v0, v1, v2, v3] := by cases args; simp_all
  obtain ⟨rfl, rfl⟩ := trodVars_none hV
  have k0 := h0
  have lt0 : ∀ x ∈ p0, x.block < W.heap.size := by obtain ⟨m, hm⟩ := k0; exact DataW.trod_lt m _ _ _ hm
  obtain ⟨x0, w0⟩ := openEvs (hval 0 27 v0 rfl rfl) h0
  obtain ⟨a1, rfl, rfl, rfl, w1⟩ := open_int Try.underlying3 (hval 1 3 v1 rfl rfl) h1
  obtain ⟨a2, rfl, rfl, rfl, w2⟩ := open_int Try.underlying3 (hval 2 3 v2 rfl rfl) h2
  obtain ⟨a3, rfl, rfl, rfl, w3⟩ := open_int Try.underlying3 (hval 3 3 v3 rfl rfl) h3
  clear hA0 hval0
  refine (walk v0 x0 a1 a2 a3 W w0 w1 w2 w3).mono fun e W' ⟨he, bel⟩ => ?_
  subst he
  exact ⟨_, rfl, _, _, _, [], _, [], hW', trodAll_mk1 (shut_bool Try.underlying4 _), (trodAll_cons_mk (Below.trod laidOut (by kernel_rfl) (of_decide_eq_true (by kernel_rfl)) k0 bel lt0) (trodAll_cons_mk (shut_int Try.underlying3 w1) (trodAll_cons_mk (shut_int Try.underlying3 w2) (trodAll_cons_mk (shut_int Try.underlying3 w3) trodAll_mk0)))), rfl, bel.frame _, fun h => by cases h⟩

theorem over : Rows.eventsMiddleRow.holds Try.pinned (OpenSpec.ofChange Rows.eventsMiddleSpec) :=
  OpenClaim.holds_of_wide 5 Try.f5 rfl rfl rfl rfl rfl rfl rfl ⟨rfl, rfl, rfl, rfl, rfl⟩ rfl rfl rfl rfl rfl (by kernel_rfl) Try.func5 (by kernel_rfl)
    (of_decide_eq_true (by kernel_rfl)) (by unfold Func.isWrapper; first | (rw [if_pos (by decide +kernel)]; kernel_rfl) | (rw [if_neg (by decide +kernel)]; exact ⟨rfl, rfl⟩))
    (fun os started H enc _ => lifted os started H enc)

end Go.Proofs.Ytdlaghjijfgncaa.eventsMiddle
namespace Go.Proofs.Ytdlaghjijfgncaa
/-- The statement. -/
theorem eventsMiddle_holds : Rows.EventsMiddleSaid := eventsMiddle.over
#print axioms eventsMiddle_holds
end Go.Proofs.Ytdlaghjijfgncaa
