/- The law DigraphWays returns true for all numbers and every list of edges, and leaves its arguments as they were. Conditions: none beyond the row's own. -/
import Derived.Test.YthnhlaljnkdmfaaRows
import Derived.WalkKit
import Derived.ProofKit
import Derived.OpenShut
import Derived.ShutString
import Derived.ChangeOld
import Derived.Below
import Derived.Test.YthnhlaljnkdmfaaDix
import Derived.Test.YthnhlaljnkdmfaaDge
import Derived.Test.YthnhlaljnkdmfaaRowk
namespace Go.Proofs.Ythnhlaljnkdmfaa.digraphWays
open Go.ChangeShapes Go.WideShapes Go.ChangeAt Go.RowKit
set_option linter.unusedVariables false
set_option linter.unusedSimpArgs false
open Go.ChangeMaps (open_string shut_string)
set_option linter.unusedVariables false

theorem own : ownKnob Try.prog.godebug = none := by kernel_rfl
theorem laidOut : laidOutB Try.prog = true := by kernel_rfl

set_option maxRecDepth 100000 in
set_option maxHeartbeats 32000000 in
theorem walk (n : Int) (v1 : Value) (x1 : Sl (Int × Int)) (a b c : Int) (w : World) (w0 : (Lit.int .i64 n).wf = true) (w1 : v1 = vSl x1 ∧ gSl eEi 2 gEd w x1) (w2 : (Lit.int .i64 a).wf = true) (w3 : (Lit.int .i64 b).wf = true) (w4 : (Lit.int .i64 c).wf = true) :
    Calls Try.prog 6 #[.int .i64 n, v1, .int .i64 a, .int .i64 b, .int .i64 c] w fun e w' => e = .returned (.bool true) ∧ Below w.heap.size w w' := by
  obtain ⟨rfl, hx⟩ := w1
  have hE : IsEis w (vSl x1) x1.xs := hx.isL
  clear hx w0 w2 w3 w4
  obtain ⟨xa, xc, E⟩ := x1
  simp only at hE
  have hvr := fun W (hW : IsEis W (vSl ⟨xa, xc, E⟩) E) => r8valid_any n E _ W hW
  go_enter Try.func6, Try.ntmps6
  go_wp2_with fail
  refine Calls.to (d8awake_any _) ?_
  rintro e w1 rfl hb1
  have hE1 := hE.mono hb1
  cases g1 : decide (40 < n)
  rotate_left
  · go_wp2_with fail
    go_ret
    exact ⟨rfl, hb1⟩
  by_cases g2 : 120 < E.length
  · have j1 : decide (120 < E.length) = true := decide_eq_true g2
    have j2 : decide ((120 : Int) < E.length) = true := decide_eq_true (by omega)
    go_wp2_with fail
    go_ret
    exact ⟨rfl, hb1⟩
  have j1 : decide (120 < E.length) = false := decide_eq_false g2
  have j2 : decide ((120 : Int) < E.length) = false := decide_eq_false (by omega)
  cases hvb : validB n E
  · rw [hvb] at hvr
    go_wp2_with fail
    refine Calls.go hb1 (hvr _ hE1) ?_
    rintro e w2 rfl hb2 hbb2
    go_wp2_with fail
    go_ret
    exact ⟨rfl, hbb2⟩
  rw [hvb] at hvr
  obtain ⟨N, G, rfl, rfl, hv, hN, hG⟩ := validB_nat hvb
  have hEG := isL_edI.1 hE
  go_wp2_with fail
  refine Calls.go hb1 (hvr _ hE1) ?_
  rintro e w2 rfl hb2 hbb2
  cases k1 : decide (a < 0)
  rotate_left
  · go_wp2_with fail
    go_ret
    exact ⟨rfl, hbb2⟩
  cases k2 : decide ((N : Int) ≤ a)
  rotate_left
  · go_wp2_with fail
    go_ret
    exact ⟨rfl, hbb2⟩
  cases k3 : decide (b < 0)
  rotate_left
  · go_wp2_with fail
    go_ret
    exact ⟨rfl, hbb2⟩
  cases k4 : decide ((N : Int) ≤ b)
  rotate_left
  · go_wp2_with fail
    go_ret
    exact ⟨rfl, hbb2⟩
  cases k5 : decide (c < 0)
  rotate_left
  · go_wp2_with fail
    go_ret
    exact ⟨rfl, hbb2⟩
  cases k6 : decide ((N : Int) ≤ c)
  rotate_left
  · go_wp2_with fail
    go_ret
    exact ⟨rfl, hbb2⟩
  simp only [decide_eq_false_iff_not] at k1 k2 k3 k4 k5 k6
  obtain ⟨a', rfl⟩ : ∃ a' : Nat, a = a' := ⟨a.toNat, by omega⟩
  obtain ⟨b', rfl⟩ : ∃ b' : Nat, b = b' := ⟨b.toNat, by omega⟩
  obtain ⟨c', rfl⟩ : ∃ c' : Nat, c = c' := ⟨c.toNat, by omega⟩
  have haN : a' < N := by omega
  have hbN : b' < N := by omega
  have hcN : c' < N := by omega
  have k1 : decide ((a' : Int) < 0) = false := decide_eq_false (by omega)
  have k2 : decide ((N : Int) ≤ a') = false := decide_eq_false (by omega)
  have k2' : decide (N ≤ a') = false := decide_eq_false (by omega)
  have k3 : decide ((b' : Int) < 0) = false := decide_eq_false (by omega)
  have k4 : decide ((N : Int) ≤ b') = false := decide_eq_false (by omega)
  have k4' : decide (N ≤ b') = false := decide_eq_false (by omega)
  have k5 : decide ((c' : Int) < 0) = false := decide_eq_false (by omega)
  have k6 : decide ((N : Int) ≤ c') = false := decide_eq_false (by omega)
  have k6' : decide (N ≤ c') = false := decide_eq_false (by omega)
  clear hE1 hvr
  go_wp2_with fail
  refine Calls.go hbb2 (path_ok N G a' b' _ _ (hEG.mono hbb2) hv hN hG haN hbN) ?_
  rintro e w3 ⟨pu, pc, rfl, hp⟩ hb3 hbb3
  obtain ⟨rp, LP, hWp, hrp⟩ := WayR.of hv haN hbN hp
  clear hp
  go_wp2_with fail
  refine Calls.go hbb3 (path_ok N G a' c' _ _ (hEG.mono hbb3) hv hN hG haN hcN) ?_
  rintro e w4 ⟨qu, qc, rfl, hq⟩ hb4 hbb4
  obtain ⟨rq, LQ, hWq, hrq⟩ := WayR.of hv haN hcN hq
  have hWp := hWp.below hb4
  clear hq
  go_wp2_with fail
  refine Calls.go hbb4 (path_ok N G c' b' _ _ (hEG.mono hbb4) hv hN hG hcN hbN) ?_
  rintro e w5 ⟨ru, rc, rfl, hr⟩ hb5 hbb5
  obtain ⟨rr, LR, hWr, hrr⟩ := WayR.of hv hcN hbN hr
  have hWp := hWp.below hb5
  have hWq := hWq.below hb5
  clear hr hrr
  have hA := alloc_below w5 (.cells #[.int .i64 (a' : Int)] 3)
  have hbbA := hbb5.trans (hA.mono hbb5.size)
  have hFA : IsNats (w5.alloc (.cells #[.int .i64 (a' : Int)] 3)) (.slice (some ⟨w5.heap.size, 0, none⟩) 1 1) [a'] := IsL.lit (enc := eNat) (k := 1) (fun _ => rfl) w5 [a'] #[.int .i64 (a' : Int)] rfl 3 (by simp)
  go_wp2_with fail
  refine Calls.go hbbA (reach_ok N G [a'] _ _ _ (hEG.mono hbbA) hv hN hG hFA (by simp) (by simp; omega)) ?_
  rintro e w8 ⟨lu, rfl, hO⟩ hb8 hbb8
  have hWp := (hWp.below hA).below hb8
  have hWq := (hWq.below hA).below hb8
  have hWr := (hWr.below hA).below hb8
  have hrl := Gp.reachL_len N G [a']
  have hbl : b' < (Gp.reachL N G [a']).length := by rw [hrl]; exact hbN
  have hcl : c' < (Gp.reachL N G [a']).length := by rw [hrl]; exact hcN
  obtain ⟨la, lc, rfl⟩ := hO.isSlice
  have hOC := hO.isC
  obtain ⟨lb, lo, rfl, c3⟩ := hOC.boolc b' hbl
  obtain ⟨lb', lo', hle, c4⟩ := hOC.boolc c' hcl
  simp only [Option.some.injEq, Addr.mk.injEq] at hle
  obtain ⟨rfl, rfl, _⟩ := hle
  rw [getD_at hbl] at hrp
  rw [getD_at hcl] at hrq
  rw [hrp] at c3
  rw [hrq] at c4
  rw [hrl]
  have l1 : (b' : Int) < N := by omega
  have l2 : (c' : Int) < N := by omega
  clear hrl hbl hcl hOC hO hrp hrq hFA hA hbbA hb2 hb3 hb4 hb5 hb8 hbb2 hbb3 hbb4 hbb5
  rcases hWp with ⟨rfl, rfl, rfl, rfl, hnp⟩ | ⟨rfl, rfl, hOp, hRp, kp, hkp, hkN, hDp, hSp⟩
  · rcases hWq with ⟨rfl, rfl, rfl, rfl, hnq⟩ | ⟨rfl, rfl, hOq, hRq, kq, hkq, hkqN, hDq, hSq⟩
    · obtain ⟨ra, rca, rfl⟩ := hWr.isSlice
      go_wp2_with fail
      go_ret
      exact ⟨rfl, hbb8⟩
    · rcases hWr with ⟨rfl, rfl, rfl, rfl, hnr⟩ | ⟨rfl, rfl, hOr, hRr, kr, hkr, hkrN, hDr, hSr⟩
      · obtain ⟨qa, qca, rfl⟩ := hOq.isSlice
        go_wp2_with fail
        go_ret
        exact ⟨rfl, hbb8⟩
      · exact absurd (hRq.trans hRr) hnp
  · rcases hWq with ⟨rfl, rfl, rfl, rfl, hnq⟩ | ⟨rfl, rfl, hOq, hRq, kq, hkq, hkqN, hDq, hSq⟩
    · obtain ⟨ra, rca, rfl⟩ := hWr.isSlice
      clear hnq hWr
      obtain ⟨ua, uc, rfl⟩ := hOp.isSlice
      have hpl : LP.length = kp + 1 := hkp
      clear hkp
      have hIp := hOp.isC
      obtain ⟨pb, po, rfl, c5⟩ := hIp.nat 0 (by omega)
      obtain ⟨pb', po', hpe, c6⟩ := hIp.nat kp (by omega)
      simp only [Option.some.injEq, Addr.mk.injEq] at hpe
      obtain ⟨rfl, rfl, _⟩ := hpe
      have e5 : LP[0] = a' := by rw [← getD_at (by omega) 0]; exact hSp.fst
      have e6 : LP[kp] = b' := by rw [← getD_at (by omega) 0]; exact hSp.lst
      rw [e5, Nat.add_zero] at c5
      rw [e6] at c6
      have t1 : ((LP.length : Int) == 0) = false := by rw [beq_eq_false_iff_ne]; omega
      have t2 : (LP.length == 0) = false := by rw [beq_eq_false_iff_ne]; omega
      have t3 : IntKind.i64.wrap ((LP.length : Int) - 1) = kp := by rw [IntWalk.i64_in _ (by omega)]; omega
      have t4 : (0 : Int) < LP.length := by omega
      have t5 : (kp : Int) < LP.length := by omega
      have t6 : (0 : Int) ≤ kp := by omega
      have HSP := Lib.hid hSp
      have HPL := Lib.hid hpl
      have HIP := Lib.hid hIp
      have hIL : IsNats w8 (.slice (some ⟨pb, po, none⟩) LP.length uc) LP := hOp.isL (fun _ => rfl)
      have HKP : kp + 1 = LP.length := hpl.symm
      have HKP := Lib.hid HKP
      have HIL := Lib.hid hIL
      have HE8 := Lib.hid (hEG.mono hbb8)
      clear hSp hpl hIp e5 e6 hOp hIL
      go_wp2_with fail
      clear c3 c4 c5 c6 t1 t2 t3 t4 t5 t6 l1 l2 k1 k2 k2' k3 k4 k4' k5 k6 k6' g1 j1 j2
      go_loopw [177] (fun s177 wx => wx = w8 ∧ ∃ i : Nat, i ≤ LP.length ∧ s177 = .int .i64 i) (fun s177 _ => LP.length - (intOf s177).toNat)
      case atStart => exact ⟨rfl, 0, Nat.zero_le _, rfl⟩
      case round =>
        obtain ⟨rfl, i, hi, rfl⟩ := hrel
        by_cases hil : i < LP.length
        · obtain ⟨pb', po', hpe, c7⟩ := HIP.out.nat i hil
          simp only [Option.some.injEq, Addr.mk.injEq] at hpe
          obtain ⟨rfl, rfl, _⟩ := hpe
          have i1 : decide (i < LP.length) = true := decide_eq_true hil
          have x8 : IntKind.i64.wrap ((i : Int) + 1) = i + 1 := IntWalk.i64_in _ (by omega)
          have hix := indexN_any LP LP[i] _ wr HIL.out (by omega)
          have hidx : idxFrom (fun y => LP[i] == y) LP 0 = (i : Int) := by
            have := idxFrom_at (fun y => LP[i] == y) LP 0 i hil (by simp) (fun j hj hjl => by
              have : LP[i] ≠ LP[j] := fun e => by
                have := HSP.out.inj (i := i) (j := j) (by have := HPL.out; omega) (by have := HPL.out; omega) (by rw [getD_at hil, getD_at hjl]; exact e)
                omega
              simpa using this)
            rw [this]; simp
          rw [hidx] at hix
          clear hidx
          by_cases hi0 : 0 < i
          · have i2 : decide (0 < i) = true := decide_eq_true hi0
            have i3 : decide ((0 : Int) < i) = true := decide_eq_true (by omega)
            obtain ⟨j, hj⟩ : ∃ j, i = j + 1 := ⟨i - 1, by omega⟩
            have hjl : j < LP.length := by omega
            obtain ⟨pb', po', hpe, c8⟩ := HIP.out.nat j hjl
            simp only [Option.some.injEq, Addr.mk.injEq] at hpe
            obtain ⟨rfl, rfl, _⟩ := hpe
            have hjo : Gp.inE G LP[j] LP[i] = true := by
              have := HSP.out.nxt j (by have := HPL.out; omega)
              rw [getD_at hjl, getD_at (by omega)] at this
              simp only [← hj] at this
              exact this
            have hjc := joined_any G LP[j] LP[i] _ wr HE8.out (by omega)
            rw [hjo] at hjc
            have x7 : IntKind.i64.wrap ((i : Int) - 1) = j := by rw [IntWalk.i64_in _ (by omega)]; omega
            have x6 : (j : Int) < LP.length := by omega
            have x5 : (0 : Int) ≤ j := by omega
            clear hjo hj
            generalize LP[i] = x at *
            generalize LP[j] = y at *
            have HIX := Lib.hid hix
            have HJC := Lib.hid hjc
            clear hix hjc
            go_wp2_with fail
            refine HIX.out.mono ?_
            rintro e w9 ⟨rfl, rfl⟩
            go_wp2_with fail
            refine HJC.out.mono ?_
            rintro e w9' ⟨rfl, rfl⟩
            go_wp2_with fail
            go_roundw
            case measure => simp [intOf]; omega
            case rel => exact ⟨trivial, i + 1, by omega, by go_num⟩
          · obtain rfl : i = 0 := by omega
            rw [Nat.add_zero] at c7
            generalize LP[0] = x at *
            have HIX := Lib.hid hix
            clear hix
            go_wp2_with fail
            refine HIX.out.mono ?_
            rintro e w9 ⟨rfl, rfl⟩
            go_wp2_with fail
            go_roundw
            case measure => simp [intOf]; omega
            case rel => exact ⟨trivial, 1, by omega, by go_num⟩
        · obtain rfl : i = LP.length := by omega
          have i1 : decide (LP.length < LP.length) = false := by simp
          go_wp2_with fail
          go_ret
          exact ⟨rfl, hbb8⟩
    · rcases hWr with ⟨rfl, rfl, rfl, rfl, hnr⟩ | ⟨rfl, rfl, hOr, hRr, kr, hkr, hkrN, hDr, hSr⟩
      · obtain ⟨qa, qca, rfl⟩ := hOq.isSlice
        clear hSq hOq hkq
        obtain ⟨ua, uc, rfl⟩ := hOp.isSlice
        have hpl : LP.length = kp + 1 := hkp
        clear hkp
        have hIp := hOp.isC
        obtain ⟨pb, po, rfl, c5⟩ := hIp.nat 0 (by omega)
        obtain ⟨pb', po', hpe, c6⟩ := hIp.nat kp (by omega)
        simp only [Option.some.injEq, Addr.mk.injEq] at hpe
        obtain ⟨rfl, rfl, _⟩ := hpe
        have e5 : LP[0] = a' := by rw [← getD_at (by omega) 0]; exact hSp.fst
        have e6 : LP[kp] = b' := by rw [← getD_at (by omega) 0]; exact hSp.lst
        rw [e5, Nat.add_zero] at c5
        rw [e6] at c6
        have t1 : ((LP.length : Int) == 0) = false := by rw [beq_eq_false_iff_ne]; omega
        have t2 : (LP.length == 0) = false := by rw [beq_eq_false_iff_ne]; omega
        have t3 : IntKind.i64.wrap ((LP.length : Int) - 1) = kp := by rw [IntWalk.i64_in _ (by omega)]; omega
        have t4 : (0 : Int) < LP.length := by omega
        have t5 : (kp : Int) < LP.length := by omega
        have t6 : (0 : Int) ≤ kp := by omega
        have HSP := Lib.hid hSp
        have HPL := Lib.hid hpl
        have HIP := Lib.hid hIp
        have hIL : IsNats w8 (.slice (some ⟨pb, po, none⟩) LP.length uc) LP := hOp.isL (fun _ => rfl)
        have HKP : kp + 1 = LP.length := hpl.symm
        have HKP := Lib.hid HKP
        have HIL := Lib.hid hIL
        have HE8 := Lib.hid (hEG.mono hbb8)
        clear hSp hpl hIp e5 e6 hOp hIL
        go_wp2_with fail
        clear c3 c4 c5 c6 t1 t2 t3 t4 t5 t6 l1 l2 k1 k2 k2' k3 k4 k4' k5 k6 k6' g1 j1 j2
        go_loopw [177] (fun s177 wx => wx = w8 ∧ ∃ i : Nat, i ≤ LP.length ∧ s177 = .int .i64 i) (fun s177 _ => LP.length - (intOf s177).toNat)
        case atStart => exact ⟨rfl, 0, Nat.zero_le _, rfl⟩
        case round =>
          obtain ⟨rfl, i, hi, rfl⟩ := hrel
          by_cases hil : i < LP.length
          · obtain ⟨pb', po', hpe, c7⟩ := HIP.out.nat i hil
            simp only [Option.some.injEq, Addr.mk.injEq] at hpe
            obtain ⟨rfl, rfl, _⟩ := hpe
            have i1 : decide (i < LP.length) = true := decide_eq_true hil
            have x8 : IntKind.i64.wrap ((i : Int) + 1) = i + 1 := IntWalk.i64_in _ (by omega)
            have hix := indexN_any LP LP[i] _ wr HIL.out (by omega)
            have hidx : idxFrom (fun y => LP[i] == y) LP 0 = (i : Int) := by
              have := idxFrom_at (fun y => LP[i] == y) LP 0 i hil (by simp) (fun j hj hjl => by
                have : LP[i] ≠ LP[j] := fun e => by
                  have := HSP.out.inj (i := i) (j := j) (by have := HPL.out; omega) (by have := HPL.out; omega) (by rw [getD_at hil, getD_at hjl]; exact e)
                  omega
                simpa using this)
              rw [this]; simp
            rw [hidx] at hix
            clear hidx
            by_cases hi0 : 0 < i
            · have i2 : decide (0 < i) = true := decide_eq_true hi0
              have i3 : decide ((0 : Int) < i) = true := decide_eq_true (by omega)
              obtain ⟨j, hj⟩ : ∃ j, i = j + 1 := ⟨i - 1, by omega⟩
              have hjl : j < LP.length := by omega
              obtain ⟨pb', po', hpe, c8⟩ := HIP.out.nat j hjl
              simp only [Option.some.injEq, Addr.mk.injEq] at hpe
              obtain ⟨rfl, rfl, _⟩ := hpe
              have hjo : Gp.inE G LP[j] LP[i] = true := by
                have := HSP.out.nxt j (by have := HPL.out; omega)
                rw [getD_at hjl, getD_at (by omega)] at this
                simp only [← hj] at this
                exact this
              have hjc := joined_any G LP[j] LP[i] _ wr HE8.out (by omega)
              rw [hjo] at hjc
              have x7 : IntKind.i64.wrap ((i : Int) - 1) = j := by rw [IntWalk.i64_in _ (by omega)]; omega
              have x6 : (j : Int) < LP.length := by omega
              have x5 : (0 : Int) ≤ j := by omega
              clear hjo hj
              generalize LP[i] = x at *
              generalize LP[j] = y at *
              have HIX := Lib.hid hix
              have HJC := Lib.hid hjc
              clear hix hjc
              go_wp2_with fail
              refine HIX.out.mono ?_
              rintro e w9 ⟨rfl, rfl⟩
              go_wp2_with fail
              refine HJC.out.mono ?_
              rintro e w9' ⟨rfl, rfl⟩
              go_wp2_with fail
              go_roundw
              case measure => simp [intOf]; omega
              case rel => exact ⟨trivial, i + 1, by omega, by go_num⟩
            · obtain rfl : i = 0 := by omega
              rw [Nat.add_zero] at c7
              generalize LP[0] = x at *
              have HIX := Lib.hid hix
              clear hix
              go_wp2_with fail
              refine HIX.out.mono ?_
              rintro e w9 ⟨rfl, rfl⟩
              go_wp2_with fail
              go_roundw
              case measure => simp [intOf]; omega
              case rel => exact ⟨trivial, 1, by omega, by go_num⟩
          · obtain rfl : i = LP.length := by omega
            have i1 : decide (LP.length < LP.length) = false := by simp
            go_wp2_with fail
            go_ret
            exact ⟨rfl, hbb8⟩
      · obtain ⟨qa, qca, rfl⟩ := hOq.isSlice
        obtain ⟨ra, rca, rfl⟩ := hOr.isSlice
        have htri : kp ≤ kq + kr := by
          rcases Nat.lt_or_ge (kq + kr) kp with h | h
          · exact absurd ⟨Gp.Wk.trans hDr.1.1 hDq.1.1, fun h => by cases h⟩ (hDp.2 (kq + kr) h)
          · exact h
        have m1 : IntKind.i64.wrap ((LQ.length : Int) + LR.length) = (LQ.length : Int) + LR.length := IntWalk.i64_in _ (by omega)
        have m2 : IntKind.i64.wrap ((LQ.length : Int) + LR.length - 1) = (LQ.length : Int) + LR.length - 1 := IntWalk.i64_in _ (by omega)
        have m3 : decide ((LQ.length : Int) + LR.length - 1 < LP.length) = false := decide_eq_false (by omega)
        clear hSq hSr hOq hOr hkq hkr
        obtain ⟨ua, uc, rfl⟩ := hOp.isSlice
        have hpl : LP.length = kp + 1 := hkp
        clear hkp
        have hIp := hOp.isC
        obtain ⟨pb, po, rfl, c5⟩ := hIp.nat 0 (by omega)
        obtain ⟨pb', po', hpe, c6⟩ := hIp.nat kp (by omega)
        simp only [Option.some.injEq, Addr.mk.injEq] at hpe
        obtain ⟨rfl, rfl, _⟩ := hpe
        have e5 : LP[0] = a' := by rw [← getD_at (by omega) 0]; exact hSp.fst
        have e6 : LP[kp] = b' := by rw [← getD_at (by omega) 0]; exact hSp.lst
        rw [e5, Nat.add_zero] at c5
        rw [e6] at c6
        have t1 : ((LP.length : Int) == 0) = false := by rw [beq_eq_false_iff_ne]; omega
        have t2 : (LP.length == 0) = false := by rw [beq_eq_false_iff_ne]; omega
        have t3 : IntKind.i64.wrap ((LP.length : Int) - 1) = kp := by rw [IntWalk.i64_in _ (by omega)]; omega
        have t4 : (0 : Int) < LP.length := by omega
        have t5 : (kp : Int) < LP.length := by omega
        have t6 : (0 : Int) ≤ kp := by omega
        have HSP := Lib.hid hSp
        have HPL := Lib.hid hpl
        have HIP := Lib.hid hIp
        have hIL : IsNats w8 (.slice (some ⟨pb, po, none⟩) LP.length uc) LP := hOp.isL (fun _ => rfl)
        have HKP : kp + 1 = LP.length := hpl.symm
        have HKP := Lib.hid HKP
        have HIL := Lib.hid hIL
        have HE8 := Lib.hid (hEG.mono hbb8)
        clear hSp hpl hIp e5 e6 hOp hIL
        go_wp2_with fail
        clear c3 c4 c5 c6 t1 t2 t3 t4 t5 t6 l1 l2 k1 k2 k2' k3 k4 k4' k5 k6 k6' g1 j1 j2
        go_loopw [177] (fun s177 wx => wx = w8 ∧ ∃ i : Nat, i ≤ LP.length ∧ s177 = .int .i64 i) (fun s177 _ => LP.length - (intOf s177).toNat)
        case atStart => exact ⟨rfl, 0, Nat.zero_le _, rfl⟩
        case round =>
          obtain ⟨rfl, i, hi, rfl⟩ := hrel
          by_cases hil : i < LP.length
          · obtain ⟨pb', po', hpe, c7⟩ := HIP.out.nat i hil
            simp only [Option.some.injEq, Addr.mk.injEq] at hpe
            obtain ⟨rfl, rfl, _⟩ := hpe
            have i1 : decide (i < LP.length) = true := decide_eq_true hil
            have x8 : IntKind.i64.wrap ((i : Int) + 1) = i + 1 := IntWalk.i64_in _ (by omega)
            have hix := indexN_any LP LP[i] _ wr HIL.out (by omega)
            have hidx : idxFrom (fun y => LP[i] == y) LP 0 = (i : Int) := by
              have := idxFrom_at (fun y => LP[i] == y) LP 0 i hil (by simp) (fun j hj hjl => by
                have : LP[i] ≠ LP[j] := fun e => by
                  have := HSP.out.inj (i := i) (j := j) (by have := HPL.out; omega) (by have := HPL.out; omega) (by rw [getD_at hil, getD_at hjl]; exact e)
                  omega
                simpa using this)
              rw [this]; simp
            rw [hidx] at hix
            clear hidx
            by_cases hi0 : 0 < i
            · have i2 : decide (0 < i) = true := decide_eq_true hi0
              have i3 : decide ((0 : Int) < i) = true := decide_eq_true (by omega)
              obtain ⟨j, hj⟩ : ∃ j, i = j + 1 := ⟨i - 1, by omega⟩
              have hjl : j < LP.length := by omega
              obtain ⟨pb', po', hpe, c8⟩ := HIP.out.nat j hjl
              simp only [Option.some.injEq, Addr.mk.injEq] at hpe
              obtain ⟨rfl, rfl, _⟩ := hpe
              have hjo : Gp.inE G LP[j] LP[i] = true := by
                have := HSP.out.nxt j (by have := HPL.out; omega)
                rw [getD_at hjl, getD_at (by omega)] at this
                simp only [← hj] at this
                exact this
              have hjc := joined_any G LP[j] LP[i] _ wr HE8.out (by omega)
              rw [hjo] at hjc
              have x7 : IntKind.i64.wrap ((i : Int) - 1) = j := by rw [IntWalk.i64_in _ (by omega)]; omega
              have x6 : (j : Int) < LP.length := by omega
              have x5 : (0 : Int) ≤ j := by omega
              clear hjo hj
              generalize LP[i] = x at *
              generalize LP[j] = y at *
              have HIX := Lib.hid hix
              have HJC := Lib.hid hjc
              clear hix hjc
              go_wp2_with fail
              refine HIX.out.mono ?_
              rintro e w9 ⟨rfl, rfl⟩
              go_wp2_with fail
              refine HJC.out.mono ?_
              rintro e w9' ⟨rfl, rfl⟩
              go_wp2_with fail
              go_roundw
              case measure => simp [intOf]; omega
              case rel => exact ⟨trivial, i + 1, by omega, by go_num⟩
            · obtain rfl : i = 0 := by omega
              rw [Nat.add_zero] at c7
              generalize LP[0] = x at *
              have HIX := Lib.hid hix
              clear hix
              go_wp2_with fail
              refine HIX.out.mono ?_
              rintro e w9 ⟨rfl, rfl⟩
              go_wp2_with fail
              go_roundw
              case measure => simp [intOf]; omega
              case rel => exact ⟨trivial, 1, by omega, by go_num⟩
          · obtain rfl : i = LP.length := by omega
            have i1 : decide (LP.length < LP.length) = false := by simp
            go_wp2_with fail
            go_ret
            exact ⟨rfl, hbb8⟩

/-! ### The row -/
set_option maxRecDepth 100000 in
theorem lifted (os : Os) (started : os.Started) (H : Type) (enc : TypeId × Value → H) :
    ReturnsInHanded {} Try.checked os 6 .any (Rows.digraphWaysSpec.pre6 enc Try.prog Try.f6 Rows.digraphWaysRow.domain false) (Rows.digraphWaysSpec.post enc Try.prog Try.f6 false true false false) := by
  refine returnsInHanded_of_change (C := Try.checked) own started (by kernel_rfl) Try.func6
    (ChangeSpec.witness6 (enc := enc) (C := Try.checked) false ⟨#[], #[.int .i64 0, .slice none 0 0, .int .i64 0, .int .i64 0, .int .i64 0], []⟩ 8 (by kernel_rfl) (by kernel_rfl) (by kernel_rfl) (by kernel_rfl)) ?_
  intro W base args ds gs before hval0 hW hcnd _
  have hval : ∀ (j : Nat) t v, Try.f6.params[j]? = some t → args[j]? = some v → Value.okWide Try.prog W .any base t v := hval0
  have hW' := hW
  obtain ⟨p, q, hA0, hV, rfl, hfz, hnd⟩ := hW
  have hA : DataW.TrodAll enc Try.prog W 0 (fun _ => true) true Try.f6.params.toList args.toList ds p := hA0
  rw [Try.params6] at hA hval
  obtain ⟨v0, vs0, d0, ds0, p0, q0, hargs, rfl, rfl, h0, r0⟩ := trodAll_cons hA
  obtain ⟨v1, vs1, d1, ds1, p1, q1, rfl, rfl, rfl, h1, r1⟩ := trodAll_cons r0
  obtain ⟨v2, vs2, d2, ds2, p2, q2, rfl, rfl, rfl, h2, r2⟩ := trodAll_cons r1
  obtain ⟨v3, vs3, d3, ds3, p3, q3, rfl, rfl, rfl, h3, r3⟩ := trodAll_cons r2
  obtain ⟨v4, vs4, d4, ds4, p4, q4, rfl, rfl, rfl, h4, r4⟩ := trodAll_cons r3
  obtain ⟨rfl, rfl, rfl⟩ := trodAll_nil r4
  obtain rfl : args = #[v0, v1, v2, v3, v4] := by cases args; simp_all
  obtain ⟨rfl, rfl⟩ := trodVars_none hV
  obtain ⟨a0, rfl, rfl, rfl, w0⟩ := open_int Try.underlying3 (hval 0 3 v0 rfl rfl) h0
  have k1 := h1
  have lt1 : ∀ x ∈ p1, x.block < W.heap.size := by obtain ⟨m, hm⟩ := k1; exact DataW.trod_lt m _ _ _ hm
  obtain ⟨x1, w1⟩ := openEds (hval 1 22 v1 rfl rfl) h1
  obtain ⟨a2, rfl, rfl, rfl, w2⟩ := open_int Try.underlying3 (hval 2 3 v2 rfl rfl) h2
  obtain ⟨a3, rfl, rfl, rfl, w3⟩ := open_int Try.underlying3 (hval 3 3 v3 rfl rfl) h3
  obtain ⟨a4, rfl, rfl, rfl, w4⟩ := open_int Try.underlying3 (hval 4 3 v4 rfl rfl) h4
  clear hA0 hval0
  refine (walk a0 v1 x1 a2 a3 a4 W w0 w1 w2 w3 w4).mono fun e W' ⟨he, bel⟩ => ?_
  subst he
  exact ⟨_, rfl, _, _, _, [], _, [], hW', trodAll_mk1 (shut_bool Try.underlying4 _), (trodAll_cons_mk (shut_int Try.underlying3 w0) (trodAll_cons_mk (Below.trod laidOut (by kernel_rfl) (of_decide_eq_true (by kernel_rfl)) k1 bel lt1) (trodAll_cons_mk (shut_int Try.underlying3 w2) (trodAll_cons_mk (shut_int Try.underlying3 w3) (trodAll_cons_mk (shut_int Try.underlying3 w4) trodAll_mk0))))), rfl, bel.frame _, fun h => by cases h⟩

theorem over : Rows.digraphWaysRow.holds Try.pinned (OpenSpec.ofChange Rows.digraphWaysSpec) :=
  OpenClaim.holds_of_wide 6 Try.f6 rfl rfl rfl rfl rfl rfl rfl ⟨rfl, rfl, rfl, rfl, rfl⟩ rfl rfl rfl rfl rfl (by kernel_rfl) Try.func6 (by kernel_rfl)
    (of_decide_eq_true (by kernel_rfl)) (by unfold Func.isWrapper; first | (rw [if_pos (by decide +kernel)]; kernel_rfl) | (rw [if_neg (by decide +kernel)]; exact ⟨rfl, rfl⟩))
    (fun os started H enc _ => lifted os started H enc)

end Go.Proofs.Ythnhlaljnkdmfaa.digraphWays
namespace Go.Proofs.Ythnhlaljnkdmfaa
/-- The statement. -/
theorem digraphWays_holds : Rows.DigraphWaysSaid := digraphWays.over
#print axioms digraphWays_holds
end Go.Proofs.Ythnhlaljnkdmfaa
