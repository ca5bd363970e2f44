/- The law DigraphParts returns true for every number, every list of edges and every drop, and leaves its arguments as they were. Conditions: none beyond the row's own. -/
import Derived.Test.YthnhlaljnkdmfaaRows
import Derived.WalkKit
import Derived.ProofKit
import Derived.OpenShut
import Derived.ShutString
import Derived.ChangeOld
import Derived.Below
import Derived.Test.YthnhlaljnkdmfaaDpt
import Derived.Test.YthnhlaljnkdmfaaDge
import Derived.Test.YthnhlaljnkdmfaaRowk
namespace Go.Proofs.Ythnhlaljnkdmfaa.digraphParts
open Go.ChangeShapes Go.WideShapes Go.ChangeAt Go.RowKit
set_option linter.unusedVariables false
set_option linter.unusedSimpArgs false
open Go.ChangeMaps (open_string shut_string)
set_option linter.unusedVariables false

theorem own : ownKnob Try.prog.godebug = none := by kernel_rfl
theorem laidOut : laidOutB Try.prog = true := by kernel_rfl

set_option maxRecDepth 100000 in
set_option maxHeartbeats 32000000 in
theorem walk (n : Int) (v1 : Value) (x1 : Sl (Int × Int)) (dr : Int) (w : World) (w0 : (Lit.int .i64 n).wf = true) (w1 : v1 = vSl x1 ∧ gSl eEi 2 gEd w x1) (w2 : (Lit.int .u8 dr).wf = true) :
    Calls Try.prog 10 #[.int .i64 n, v1, .int .u8 dr] w fun e w' => e = .returned (.bool true) ∧ Below w.heap.size w w' := by
  obtain ⟨rfl, hx⟩ := w1
  have hE : IsEis w (vSl x1) x1.xs := hx.isL
  have hdr := fits_u8 w2
  clear hx w0 w2
  obtain ⟨xa, xc, E⟩ := x1
  simp only at hE
  have hE : IsEis w (.slice xa E.length xc) E := hE
  have hvr := fun W (hW : IsEis W (.slice xa E.length xc) E) => r8valid_any n E _ W hW
  show Calls Try.prog 10 #[.int .i64 n, .slice xa E.length xc, .int .u8 dr] w _
  go_enter Try.func10, Try.ntmps10
  go_wp2_with fail
  refine Calls.to (d8awake_any _) ?_
  rintro e w1 rfl hb1
  have hE1 := hE.mono hb1
  cases g1 : decide (40 < n)
  rotate_left
  · go_wp2_with fail
    go_ret
    exact ⟨rfl, hb1⟩
  by_cases g2 : 120 < E.length
  · have j1 : decide (120 < E.length) = true := decide_eq_true g2
    have j2 : decide ((120 : Int) < E.length) = true := decide_eq_true (by omega)
    go_wp2_with fail
    go_ret
    exact ⟨rfl, hb1⟩
  have j1 : decide (120 < E.length) = false := decide_eq_false g2
  have j2 : decide ((120 : Int) < E.length) = false := decide_eq_false (by omega)
  cases hvb : validB n E
  · rw [hvb] at hvr
    go_wp2_with fail
    refine Calls.go hb1 (hvr _ hE1) ?_
    rintro e w2 rfl hb2 hbb2
    go_wp2_with fail
    go_ret
    exact ⟨rfl, hbb2⟩
  rw [hvb] at hvr
  obtain ⟨N, G, rfl, rfl, hv, hN, hG⟩ := validB_nat hvb
  have hN40 : N ≤ 40 := by have := of_decide_eq_false g1; omega
  simp only [edI_len] at hE hE1 hvr j1 j2 g2
  rw [edI_len]
  have hEG := isL_edI.1 hE
  go_wp2_with fail
  refine Calls.go hb1 (hvr _ hE1) ?_
  rintro e w2 rfl hb2 hbb2
  clear hE1 hvr hb1 hb2 j1 j2 g1
  go_wp2_with fail
  refine Calls.go hbb2 (parts_ok N G _ _ (hEG.mono hbb2) hv hN hG) ?_
  rintro e w3 ⟨pu, us, rfl, hP⟩ hb3 hbb3
  have hPI := prtI N G
  obtain ⟨L, hL⟩ : ∃ L, L = prtL N G := ⟨_, rfl⟩
  rw [← hL] at hP hPI
  have HLE := Lib.hid hL
  obtain ⟨pa, pc, rfl⟩ := hP.out.isSlice
  have hul : us.length = L.length := hP.len
  obtain ⟨M, hM⟩ : ∃ M, M = us.length := ⟨_, rfl⟩
  rw [← hM] at hul hP ⊢
  have HML : Hid (L.length = M) := Lib.hid hul.symm
  have HUM := Lib.hid hM
  have hMN : M ≤ N := by have := hPI.len; omega
  have HP3 := Lib.hid hP
  clear hul hM hP hL
  go_wp2_with fail
  refine Calls.go hbb3 (closure_ok N G _ _ (hEG.mono hbb3) hv hN hG) ?_
  rintro e w4 ⟨cu, vs, rfl, hC⟩ hb4 hbb4
  obtain ⟨ca, cc, hce⟩ := hC.out.isSlice
  have hvl : vs.length = N := by have := hC.len; rw [cloL_len] at this; exact this
  have HVL := Lib.hid hvl
  rw [hvl] at hce
  subst hce
  have HC4 := Lib.hid hC
  have HP4 := Lib.hid (HP3.out.below hb4)
  have HE4 := Lib.hid (hEG.mono hbb4)
  have k1 : decide (N < M) = false := decide_eq_false (by omega)
  have k2 : decide ((N : Int) < (M : Int)) = false := decide_eq_false (by omega)
  have hll : N < 2147483648 := by omega
  clear hC hvl hb3 hb4 hbb2 hbb3 hE hEG HP3
  go_wp2_with (refine wpList_mk _ rfl _ _ 25 rfl w4.heap.size 3 _ 8 undInts infInt eInt 0 rfl rfl _ _ N rfl rfl rfl rfl hll (by omega) (Nat.le_refl _) ?_; intro w7 hown7 hb7 hlt7)
  clear k1 k2
  go_loopw [76] (fun s76 wr => ∃ k : Nat, k ≤ N ∧ s76 = .int .i64 k ∧ Below w4.heap.size w4 wr ∧ w4.heap.size < wr.heap.size ∧ Own w4.heap.size 3 eInt 1 wr (.slice (some ⟨w4.heap.size, 0, none⟩) N N) (List.replicate k (-1) ++ List.replicate (N - k) 0)) (fun i _ => N - (intOf i).toNat)
  case atStart => exact ⟨0, Nat.zero_le _, rfl, hb7, hlt7, by simpa using hown7⟩
  clear hown7 hb7 hlt7
  case round =>
    obtain ⟨k, hk, rfl, hb, hlt, HO⟩ := hrel
    by_cases hkn : k < N
    · have hO2 := HO.seti k (by simp; omega) (-1)
      rw [fill_set N k (-1) 0 hkn] at hO2
      have q3 := HO.inti k (by simp; omega)
      have f3 : wr.frozen? ⟨w4.heap.size, k, none⟩ = false := Own.free HO _
      generalize (List.replicate k (-1) ++ List.replicate (N - k) 0)[k]'_ = z at q3
      have hb2 := hb.setCell (p := ⟨w4.heap.size, k, none⟩) (Nat.le_refl w4.heap.size) (.int .i64 (-1))
      have hl2 : w4.heap.size < (wr.setCell ⟨w4.heap.size, k, none⟩ (.int .i64 (-1))).heap.size := by simp [World.setCell]; exact hlt
      have i3 : decide (k < N) = true := decide_eq_true hkn
      have x8 : IntKind.i64.wrap ((k : Int) + 1) = k + 1 := IntWalk.i64_in _ (by omega)
      clear HO
      go_wp2_with fail
      go_roundw
      case measure => simp [intOf]; omega
      case rel => exact ⟨k + 1, by omega, by go_num, hb2, hl2, hO2⟩
    · obtain rfl : N = k := by omega
      rw [Nat.sub_self, List.replicate_zero, List.append_nil] at HO
      have i3 : decide (N < N) = false := by simp
      obtain ⟨hI0, hc0⟩ := ofI_start L N
      go_wp2_with fail
      go_loopw [13, 85] (fun s13 s85 wr => ∃ (k : Nat) (o : List Int), k ≤ M ∧ s85 = .int .i64 k ∧ s13 = .int .i64 (cntO o : Nat) ∧ OfI L N k 0 o ∧ Below w4.heap.size w4 wr ∧ w4.heap.size < wr.heap.size ∧ Own w4.heap.size 3 eInt 1 wr (.slice (some ⟨w4.heap.size, 0, none⟩) N N) o) (fun _ i _ => M - (intOf i).toNat)
      case atStart => exact ⟨0, _, Nat.zero_le _, rfl, by rw [hc0]; rfl, hI0, hb, hlt, HO⟩
      clear HO hb hlt hI0 hc0
      case round =>
        obtain ⟨k, o, hk, rfl, rfl, hI, hb, hlt, HO⟩ := hrel
        by_cases hkm : k < M
        · have hkl : k < L.length := by have := HML.out; omega
          have hku : k < us.length := by rw [← HUM.out]; exact hkm
          obtain ⟨rg, rfl, -⟩ := HP4.out.rowAt k hku
          have hne := hPI.ne k hkl
          obtain ⟨ra, rc, q0, q1⟩ := part_cells HP4.out hkl hne
          obtain ⟨PL, hPL⟩ : ∃ PL, PL = L[k].length := ⟨_, rfl⟩
          have HPL := Lib.hid hPL
          have q2 := cell_lt (q1 0 hne) hb
          have hpv : ∀ j, k = j + 1 → ∃ (rb rd PJ y : Nat), wr.cell? ⟨rg, j, none⟩ = some (.slice (some ⟨rb, 0, none⟩) PJ rd) ∧ wr.cell? ⟨rb, 0, none⟩ = some (.int .i64 (y : Int)) ∧ y < L[k][0] ∧ 0 < PJ := fun j hj => by
            subst hj
            have hnj := hPI.ne j (by omega)
            obtain ⟨rb, rd, p0, p1⟩ := part_cells HP4.out (show j < L.length by omega) hnj
            exact ⟨rb, rd, _, L[j][0], cell_lt p0 hb, cell_lt (p1 0 hnj) hb, hPI.head j hkl hnj hne, hnj⟩
          obtain ⟨x0, hx0⟩ : ∃ x0, x0 = L[k][0] := ⟨_, rfl⟩
          rw [← hx0] at q2 hpv
          rw [← hPL] at q0
          have q0 := cell_lt q0 hb
          have hne' : 0 < PL := by rw [hPL]; exact hne
          have hPN : PL ≤ N := by rw [hPL]; exact hPI.plen k hkl
          have i4 : decide (k < M) = true := decide_eq_true hkm
          have n1 : (0 : Int) < PL := by omega
          have n2 : ((PL : Int) == 0) = false := by rw [beq_eq_false_iff_ne]; omega
          have n3 : (PL == 0) = false := by rw [beq_eq_false_iff_ne]; omega
          have n4 : (k : Int) < M := by omega
          have hQ1 := Lib.hid q1
          clear q1 hPL hx0 hne
          rcases Nat.eq_zero_or_pos k with hk0 | hk0
          · have m1 : decide ((0 : Int) < (k : Int)) = false := decide_eq_false (by omega)
            have m2 : decide (0 < k) = false := decide_eq_false (by omega)
            clear hk0 hpv
            go_wp2_with fail
            go_quiet (fail)
            have hbd := below_drewN hb nq
            have HOd := HO.below (below_drewN (Below.refl _ _) nq)
            have hld : w4.heap.size < (wr.drewN nq).heap.size := by simpa using hlt
            clear hb hlt HO
            go_wp2_with fail
            go_loopw [13, 112] (fun s13 s112 wx => ∃ (i : Nat) (o : List Int), i ≤ PL ∧ s112 = .int .i64 i ∧ s13 = .int .i64 (cntO o : Nat) ∧ OfI L N k i o ∧ Below w4.heap.size w4 wx ∧ w4.heap.size < wx.heap.size ∧ Own w4.heap.size 3 eInt 1 wx (.slice (some ⟨w4.heap.size, 0, none⟩) N N) o) (fun _ i _ => PL - (intOf i).toNat)
            case atStart => exact ⟨0, o, Nat.zero_le _, rfl, rfl, hI, hbd, hld, HOd⟩
            clear hI hbd hld HOd q0 q2
            case round =>
              obtain ⟨i, o, hi, rfl, rfl, hI, hb, hlt, HO⟩ := hrel
              by_cases hip : i < PL
              · have hil : i < L[k].length := by rw [← HPL.out]; exact hip
                have c1 := cell_lt (hQ1.out i hil) hb
                obtain ⟨hvo, hfr⟩ := hI.free hPI hkl hil
                obtain ⟨hIs, hcs⟩ := hI.set hPI hkl hil
                have c2 := HO.inti _ hvo
                rw [hfr] at c2
                have f2 : wr.frozen? ⟨w4.heap.size, L[k][i], none⟩ = false := Own.free HO _
                have hOs := HO.seti _ hvo (k : Int)
                have hvN : L[k][i] < N := hPI.lt k hkl _ (List.getElem_mem hil)
                have hcl : cntO o + 1 ≤ N := by have h1 := cntO_le (o.set L[k][i] (k : Int)); have h2 := hIs.len; omega
                have hb2 := hb.setCell (p := ⟨w4.heap.size, L[k][i], none⟩) (Nat.le_refl w4.heap.size) (.int .i64 (k : Int))
                have hl2 : w4.heap.size < (wr.setCell ⟨w4.heap.size, L[k][i], none⟩ (.int .i64 (k : Int))).heap.size := by simp [World.setCell]; exact hlt
                have i5 : decide (i < PL) = true := decide_eq_true hip
                have x7 : IntKind.i64.wrap ((cntO o : Int) + 1) = (cntO o : Int) + 1 := IntWalk.i64_in _ (by omega)
                have x8 : IntKind.i64.wrap ((i : Int) + 1) = i + 1 := IntWalk.i64_in _ (by omega)
                have HCS := Lib.hid hcs
                have hpr : ∀ j, i = j + 1 → ∃ y : Nat, wr.cell? ⟨ra, j, none⟩ = some (.int .i64 (y : Int)) ∧ y < L[k][i] := fun j hj => by
                  subst hj
                  exact ⟨L[k][j], cell_lt (hQ1.out j (by omega)) hb, hPI.asc k hkl j hil⟩
                clear hfr hvo hI HO hb hlt hcs
                generalize L[k][i] = x at *
                have l1 : decide ((x : Int) < 0) = false := decide_eq_false (by omega)
                have l2 : decide ((N : Int) ≤ x) = false := decide_eq_false (by omega)
                have l3 : decide (N ≤ x) = false := decide_eq_false (by omega)
                have l4 : (x : Int) < N := by omega
                have l5 : (i : Int) < PL := by omega
                rcases Nat.eq_zero_or_pos i with hi0 | hi0
                · have m3 : decide ((0 : Int) < (i : Int)) = false := decide_eq_false (by omega)
                  have m4 : decide (0 < i) = false := decide_eq_false (by omega)
                  clear hi0 hpr
                  go_wp2_with fail
                  go_roundw
                  case measure => simp [intOf]; omega
                  case rel => exact ⟨i + 1, o.set x k, by omega, by go_num, by rw [HCS.out]; go_num, hIs, hb2, hl2, hOs⟩
                · have m3 : decide ((0 : Int) < (i : Int)) = true := decide_eq_true (by omega)
                  have m4 : decide (0 < i) = true := decide_eq_true hi0
                  obtain ⟨j, hj⟩ : ∃ j, i = j + 1 := ⟨i - 1, by omega⟩
                  obtain ⟨y, c3, hyx⟩ := hpr j hj
                  have x9 : IntKind.i64.wrap ((i : Int) - 1) = j := by rw [IntWalk.i64_in _ (by omega)]; omega
                  have l6 : (j : Int) < PL := by omega
                  have l7 : decide ((x : Int) ≤ y) = false := decide_eq_false (by omega)
                  have l8 : decide (x ≤ y) = false := decide_eq_false (by omega)
                  clear hi0 hpr hj
                  go_wp2_with fail
                  go_roundw
                  case measure => simp [intOf]; omega
                  case rel => exact ⟨i + 1, o.set x k, by omega, by go_num, by rw [HCS.out]; go_num, hIs, hb2, hl2, hOs⟩
              · obtain rfl : PL = i := by omega
                have i5 : decide (PL < PL) = false := by simp
                have x8 : IntKind.i64.wrap ((k : Int) + 1) = k + 1 := IntWalk.i64_in _ (by omega)
                have hIn : OfI L N (k + 1) 0 o := OfI.next hkl (by rw [← HPL.out]; exact hI)
                clear hI
                go_wp2_with fail
                go_roundw
                case measure => simp [intOf]; omega
                case rel => exact ⟨k + 1, o, by omega, by go_num, rfl, hIn, hb, hlt, HO⟩
          · have m1 : decide ((0 : Int) < (k : Int)) = true := decide_eq_true (by omega)
            have m2 : decide (0 < k) = true := decide_eq_true hk0
            obtain ⟨j, hj⟩ : ∃ j, k = j + 1 := ⟨k - 1, by omega⟩
            obtain ⟨rb, rd, PJ, y0, p0, p1, hy0, hpj⟩ := hpv j hj
            have x9 : IntKind.i64.wrap ((k : Int) - 1) = j := by rw [IntWalk.i64_in _ (by omega)]; omega
            have n5 : (j : Int) < M := by omega
            have n6 : (0 : Int) < PJ := by omega
            have n7 : decide ((x0 : Int) ≤ y0) = false := decide_eq_false (by omega)
            have n8 : decide (x0 ≤ y0) = false := decide_eq_false (by omega)
            have n9 : (0 : Int) ≤ j := by omega
            clear hk0 hpv hj
            go_wp2_with fail
            go_quiet (fail)
            clear p0 p1 x9 n5 n6 n7 n8 n9 hy0 hpj
            have hbd := below_drewN hb nq
            have HOd := HO.below (below_drewN (Below.refl _ _) nq)
            have hld : w4.heap.size < (wr.drewN nq).heap.size := by simpa using hlt
            clear hb hlt HO
            go_wp2_with fail
            go_loopw [13, 112] (fun s13 s112 wx => ∃ (i : Nat) (o : List Int), i ≤ PL ∧ s112 = .int .i64 i ∧ s13 = .int .i64 (cntO o : Nat) ∧ OfI L N k i o ∧ Below w4.heap.size w4 wx ∧ w4.heap.size < wx.heap.size ∧ Own w4.heap.size 3 eInt 1 wx (.slice (some ⟨w4.heap.size, 0, none⟩) N N) o) (fun _ i _ => PL - (intOf i).toNat)
            case atStart => exact ⟨0, o, Nat.zero_le _, rfl, rfl, hI, hbd, hld, HOd⟩
            clear hI hbd hld HOd q0 q2
            case round =>
              obtain ⟨i, o, hi, rfl, rfl, hI, hb, hlt, HO⟩ := hrel
              by_cases hip : i < PL
              · have hil : i < L[k].length := by rw [← HPL.out]; exact hip
                have c1 := cell_lt (hQ1.out i hil) hb
                obtain ⟨hvo, hfr⟩ := hI.free hPI hkl hil
                obtain ⟨hIs, hcs⟩ := hI.set hPI hkl hil
                have c2 := HO.inti _ hvo
                rw [hfr] at c2
                have f2 : wr.frozen? ⟨w4.heap.size, L[k][i], none⟩ = false := Own.free HO _
                have hOs := HO.seti _ hvo (k : Int)
                have hvN : L[k][i] < N := hPI.lt k hkl _ (List.getElem_mem hil)
                have hcl : cntO o + 1 ≤ N := by have h1 := cntO_le (o.set L[k][i] (k : Int)); have h2 := hIs.len; omega
                have hb2 := hb.setCell (p := ⟨w4.heap.size, L[k][i], none⟩) (Nat.le_refl w4.heap.size) (.int .i64 (k : Int))
                have hl2 : w4.heap.size < (wr.setCell ⟨w4.heap.size, L[k][i], none⟩ (.int .i64 (k : Int))).heap.size := by simp [World.setCell]; exact hlt
                have i5 : decide (i < PL) = true := decide_eq_true hip
                have x7 : IntKind.i64.wrap ((cntO o : Int) + 1) = (cntO o : Int) + 1 := IntWalk.i64_in _ (by omega)
                have x8 : IntKind.i64.wrap ((i : Int) + 1) = i + 1 := IntWalk.i64_in _ (by omega)
                have HCS := Lib.hid hcs
                have hpr : ∀ j, i = j + 1 → ∃ y : Nat, wr.cell? ⟨ra, j, none⟩ = some (.int .i64 (y : Int)) ∧ y < L[k][i] := fun j hj => by
                  subst hj
                  exact ⟨L[k][j], cell_lt (hQ1.out j (by omega)) hb, hPI.asc k hkl j hil⟩
                clear hfr hvo hI HO hb hlt hcs
                generalize L[k][i] = x at *
                have l1 : decide ((x : Int) < 0) = false := decide_eq_false (by omega)
                have l2 : decide ((N : Int) ≤ x) = false := decide_eq_false (by omega)
                have l3 : decide (N ≤ x) = false := decide_eq_false (by omega)
                have l4 : (x : Int) < N := by omega
                have l5 : (i : Int) < PL := by omega
                rcases Nat.eq_zero_or_pos i with hi0 | hi0
                · have m3 : decide ((0 : Int) < (i : Int)) = false := decide_eq_false (by omega)
                  have m4 : decide (0 < i) = false := decide_eq_false (by omega)
                  clear hi0 hpr
                  go_wp2_with fail
                  go_roundw
                  case measure => simp [intOf]; omega
                  case rel => exact ⟨i + 1, o.set x k, by omega, by go_num, by rw [HCS.out]; go_num, hIs, hb2, hl2, hOs⟩
                · have m3 : decide ((0 : Int) < (i : Int)) = true := decide_eq_true (by omega)
                  have m4 : decide (0 < i) = true := decide_eq_true hi0
                  obtain ⟨j, hj⟩ : ∃ j, i = j + 1 := ⟨i - 1, by omega⟩
                  obtain ⟨y, c3, hyx⟩ := hpr j hj
                  have x9 : IntKind.i64.wrap ((i : Int) - 1) = j := by rw [IntWalk.i64_in _ (by omega)]; omega
                  have l6 : (j : Int) < PL := by omega
                  have l7 : decide ((x : Int) ≤ y) = false := decide_eq_false (by omega)
                  have l8 : decide (x ≤ y) = false := decide_eq_false (by omega)
                  clear hi0 hpr hj
                  go_wp2_with fail
                  go_roundw
                  case measure => simp [intOf]; omega
                  case rel => exact ⟨i + 1, o.set x k, by omega, by go_num, by rw [HCS.out]; go_num, hIs, hb2, hl2, hOs⟩
              · obtain rfl : PL = i := by omega
                have i5 : decide (PL < PL) = false := by simp
                have x8 : IntKind.i64.wrap ((k : Int) + 1) = k + 1 := IntWalk.i64_in _ (by omega)
                have hIn : OfI L N (k + 1) 0 o := OfI.next hkl (by rw [← HPL.out]; exact hI)
                clear hI
                go_wp2_with fail
                go_roundw
                case measure => simp [intOf]; omega
                case rel => exact ⟨k + 1, o, by omega, by go_num, rfl, hIn, hb, hlt, HO⟩
        · obtain rfl : M = k := by omega
          have i4 : decide (M < M) = false := by simp
          rw [← HML.out] at hI
          have hcn := (hI.done hPI).2
          rw [hcn]
          have HI := Lib.hid hI
          have HO8 := Lib.hid HO
          have hol := hI.len
          have hbb8 := hbb4.trans (hb.mono hbb4.size)
          have HC8 := Lib.hid (HC4.out.below hb)
          have HE8 := Lib.hid (HE4.out.mono hb)
          have HOL := Lib.hid hol
          clear hI hcn HO hol hb hlt HP4 HC4 HE4 hbb4
          obtain ⟨w8, hw8⟩ : ∃ w8, w8 = wr := ⟨_, rfl⟩
          subst hw8
          go_wp2_with fail
          go_loopw [157] (fun s157 wx => ∃ v : Nat, v ≤ N ∧ s157 = .int .i64 v ∧ Below w8.heap.size w8 wx) (fun i _ => N - (intOf i).toNat)
          case atStart => exact ⟨0, Nat.zero_le _, rfl, Below.refl _ _⟩
          case round =>
            obtain ⟨v, hvn, rfl, hb⟩ := hrel
            by_cases hvN : v < N
            · have hvv : v < vs.length := by rw [HVL.out]; exact hvN
              obtain ⟨cg, rfl, -⟩ := HC8.out.rowAt v hvv
              obtain ⟨ra, rc, q0, q1⟩ := clo_cells HC8.out hvN
              have q2 := cell_lt (q1 v hvN) hb
              rw [(cB_iff hvN).2 .refl] at q2
              have q0 := cell_lt q0 hb
              have HQ1 := Lib.hid q1
              have i5 : decide (v < N) = true := decide_eq_true hvN
              have n1 : (v : Int) < N := by omega
              clear q1
              go_wp2_with fail
              go_loopw [175] (fun s175 wx => ∃ u : Nat, u ≤ N ∧ s175 = .int .i64 u ∧ Below w8.heap.size w8 wx) (fun i _ => N - (intOf i).toNat)
              case atStart => exact ⟨0, Nat.zero_le _, rfl, hb⟩
              clear hb q0 q2
              case round =>
                obtain ⟨u, hun, rfl, hb⟩ := hrel
                by_cases huN : u < N
                · have q3 := cell_lt (HQ1.out u huN) hb
                  have hvo : v < o.length := by rw [HOL.out]; exact hvN
                  have huo : u < o.length := by rw [HOL.out]; exact huN
                  have hOx := HO8.out.below hb
                  have c4 := hOx.inti v hvo
                  have c5 := hOx.inti u huo
                  have hsm : cB N G v u = true → o[v] = o[u] := fun h => HI.out.same hPI hvo huo ((cB_iff huN).1 h)
                  have i6 : decide (u < N) = true := decide_eq_true huN
                  have n2 : (u : Int) < N := by omega
                  have x8 : IntKind.i64.wrap ((u : Int) + 1) = u + 1 := IntWalk.i64_in _ (by omega)
                  generalize o[v] = ov at *
                  generalize o[u] = ou at *
                  generalize cB N G v u = bb at *
                  clear hvo huo hOx
                  cases bb
                  · clear hsm c4 c5
                    go_wp2_with fail
                    go_quiet (fail)
                    have hbd := below_drewN hb nq
                    clear q3
                    go_wp2_with fail
                    go_roundw
                    case measure => simp [intOf]; omega
                    case rel => exact ⟨u + 1, by omega, by go_num, hbd⟩
                  · have hs := hsm rfl
                    subst hs
                    clear hsm
                    go_wp2_with fail
                    go_quiet (fail)
                    have hbd := below_drewN hb nq
                    clear q3 c4 c5
                    go_wp2_with fail
                    go_roundw
                    case measure => simp [intOf]; omega
                    case rel => exact ⟨u + 1, by omega, by go_num, hbd⟩
                · obtain rfl : N = u := by omega
                  have i6 : decide (N < N) = false := by simp
                  have x8 : IntKind.i64.wrap ((v : Int) + 1) = v + 1 := IntWalk.i64_in _ (by omega)
                  go_wp2_with fail
                  go_roundw
                  case measure => simp [intOf]; omega
                  case rel => exact ⟨v + 1, by omega, by go_num, hb⟩
            · obtain rfl : N = v := by omega
              have i5 : decide (N < N) = false := by simp
              have hbb9 := hbb8.trans (hb.mono hbb8.size)
              have HC9 := Lib.hid (HC8.out.below hb)
              have HE9 := Lib.hid (HE8.out.mono hb)
              have HO9 := Lib.hid (HO8.out.below hb)
              clear hb HC8 HE8 HO8 hbb8
              obtain ⟨w9, hw9⟩ : ∃ w9, w9 = wr := ⟨_, rfl⟩
              subst hw9
              go_wp2_with fail
              go_loopw [196] (fun s196 wx => ∃ k : Nat, k ≤ G.length ∧ s196 = .int .i64 k ∧ Below w9.heap.size w9 wx) (fun i _ => G.length - (intOf i).toNat)
              case atStart => exact ⟨0, Nat.zero_le _, rfl, Below.refl _ _⟩
              case round =>
                obtain ⟨k, hk, rfl, hb⟩ := hrel
                by_cases hkl : k < G.length
                · obtain ⟨eb, eo, hee, c1, c2⟩ := (show IsC eEd 2 wr xa G from by
                    obtain ⟨a', c', e, _, _, h⟩ := HE9.out.mono hb
                    simp only [Value.slice.injEq] at e
                    obtain ⟨rfl, _, _⟩ := e
                    exact h).ed k hkl
                  subst hee
                  have he := hv _ (List.getElem_mem hkl)
                  have hin : Gp.inE G (G[k]).1 (G[k]).2 = true := Gp.inE_iff.2 (List.getElem_mem hkl)
                  obtain ⟨p, hpe⟩ : ∃ p, p = (G[k]).1 := ⟨_, rfl⟩
                  obtain ⟨q, hqe⟩ : ∃ q, q = (G[k]).2 := ⟨_, rfl⟩
                  rw [← hpe] at c1 he hin
                  rw [← hqe] at c2 he hin
                  have hpo : p < o.length := by rw [HOL.out]; exact he.1
                  have hqo : q < o.length := by rw [HOL.out]; exact he.2
                  have hOx := HO9.out.below hb
                  have c3 := hOx.inti p hpo
                  have c4 := hOx.inti q hqo
                  rw [HI.out.same hPI hpo hqo (.edge hin)] at c3
                  have hpv : p < vs.length := by rw [HVL.out]; exact he.1
                  obtain ⟨cg, rfl, -⟩ := HC9.out.rowAt p hpv
                  obtain ⟨ra, rc, q0, q1⟩ := clo_cells HC9.out he.1
                  have c5 := cell_lt q0 hb
                  have c6 := cell_lt (q1 q he.2) hb
                  rw [(cB_iff he.2).2 (.edge hin)] at c6
                  have x8 : IntKind.i64.wrap ((k : Int) + 1) = k + 1 := IntWalk.i64_in _ (by omega)
                  have i4 : decide (k < G.length) = true := decide_eq_true hkl
                  generalize o[q] = z at *
                  have hA := alloc_below wr (.cells #[.int .i64 (p : Int), .int .i64 (q : Int)] 35)
                  have d3 := cell_lt c3 hA
                  have d4 := cell_lt c4 hA
                  have d5 := cell_lt c5 hA
                  have d6 := cell_lt c6 hA
                  have e0 : (wr.alloc (.cells #[.int .i64 (p : Int), .int .i64 (q : Int)] 35)).cell? ⟨wr.heap.size, 0, none⟩ = some (.int .i64 (p : Int)) := by simp [go_sem]
                  have e1 : (wr.alloc (.cells #[.int .i64 (p : Int), .int .i64 (q : Int)] 35)).cell? ⟨wr.heap.size, 1, none⟩ = some (.int .i64 (q : Int)) := by simp [go_sem]
                  have hbA := hb.trans (hA.mono hb.size)
                  have l1 : (p : Int) < N := by omega
                  have l2 : (q : Int) < N := by omega
                  clear hpe hqe hin hOx hA hpo hqo hpv q0 q1 c3 c4 c5 c6
                  go_wp2_with fail
                  go_quiet (fail)
                  have hbd := below_drewN hbA nq
                  clear c1 c2 d3 d4 d5 d6 e0 e1 hbA
                  go_wp2_with fail
                  go_roundw
                  case measure => simp [intOf]; omega
                  case rel => exact ⟨k + 1, by omega, by go_num, hbd⟩
                · obtain rfl : k = G.length := by omega
                  have i4 : decide (G.length < G.length) = false := by simp
                  have hbb10 := hbb9.trans (hb.mono hbb9.size)
                  have HE10 := Lib.hid (HE9.out.mono hb)
                  clear HC9 HO9 HE9 hbb9 hb
                  rcases Nat.eq_zero_or_pos G.length with hg0 | hg0
                  · have hG0 : G = [] := List.eq_nil_of_length_eq_zero hg0
                    have hMN2 : M = N := by rw [← HML.out, HLE.out, hG0]; exact prt_none N
                    have t1 : ((G.length : Int) == 0) = true := by rw [beq_iff_eq]; omega
                    have t2 : (G.length == 0) = true := by rw [beq_iff_eq]; omega
                    have t3 : ((M : Int) == (N : Int)) = true := by rw [beq_iff_eq]; omega
                    have t4 : (M == N) = true := by rw [beq_iff_eq]; omega
                    clear hG0 hg0 hMN2
                    go_wp2_with fail
                    go_ret
                    exact ⟨ret_bool (by simp), hbb10⟩
                  · obtain ⟨d, rfl⟩ : ∃ d : Nat, dr = (d : Int) := ⟨dr.toNat, by omega⟩
                    obtain ⟨m, hm⟩ : ∃ m, m = d % G.length := ⟨_, rfl⟩
                    have hml : m < G.length := by rw [hm]; exact Nat.mod_lt _ hg0
                    have hmod : (d : Int).tmod (G.length : Int) = (m : Int) := by rw [Int.tmod_eq_emod_of_nonneg (by omega), hm]; rfl
                    have t1 : ((G.length : Int) == 0) = false := by rw [beq_eq_false_iff_ne]; omega
                    have t2 : (G.length == 0) = false := by rw [beq_eq_false_iff_ne]; omega
                    have x1 : IntKind.i64.wrap (d : Int) = d := IntWalk.i64_in _ (by omega)
                    have x2 : IntKind.i64.wrap (m : Int) = m := IntWalk.i64_in _ (by omega)
                    have x3 : IntKind.i64.wrap ((m : Int) + 1) = m + 1 := IntWalk.i64_in _ (by omega)
                    have hcl := cloneEd_any (edI G) _ _ (isL_edI.2 HE10.out) (by rw [edI_len]; omega)
                    have HCL := Lib.hid hcl
                    have hls := prt_less N G m hml
                    rw [← HLE.out, HML.out] at hls
                    have HLS := Lib.hid hls
                    have hvl := vtx_less hv m
                    have hgl : (G.take m ++ G.drop (m + 1)).length ≤ 1000 := by simp; omega
                    have HGL := Lib.hid hgl
                    clear hm hg0 hcl hls hgl
                    go_wp2_with fail
                    refine Calls.go hbb10 HCL.out ?_
                    rintro e w11 ⟨cv, rfl, hO⟩ hb11 hbb11
                    have hO := own_edI.1 hO
                    obtain ⟨oa, oc, rfl⟩ := hO.isSlice
                    go_wp2_with fail
                    refine (delE_any G m _ _ _ (hO.base hbb10.size) hml (by omega)).mono ?_
                    rintro e w12 ⟨⟨dv, rfl, hO2⟩, hb12⟩
                    have hbb12 := hbb11.trans hb12
                    have hIE := hO2.isL eEd_len
                    clear hO hb11 hb12 hO2
                    go_wp2_with fail
                    refine Calls.go hbb12 (parts_ok N _ _ _ hIE hvl hN HGL.out) ?_
                    rintro e w13 ⟨fu, fs, rfl, hF⟩ hb13 hbb13
                    obtain ⟨fa, fc, rfl⟩ := hF.out.isSlice
                    have hfl : fs.length = (prtL N (G.take m ++ G.drop (m + 1))).length := hF.len
                    obtain ⟨M2, hM2⟩ : ∃ M2, M2 = fs.length := ⟨_, rfl⟩
                    have hlo : M ≤ M2 := by have := HLS.out.1; omega
                    have hhi : M2 ≤ M + 1 := by have := HLS.out.2; omega
                    rw [← hM2]
                    have y1 : decide (M ≤ M2) = true := decide_eq_true hlo
                    have y2 : decide ((M : Int) ≤ (M2 : Int)) = true := decide_eq_true (by omega)
                    have y3 : decide ((M2 : Int) ≤ (M : Int) + 1) = true := decide_eq_true (by omega)
                    have y4 : decide (M2 ≤ M + 1) = true := decide_eq_true hhi
                    have y5 : IntKind.i64.wrap ((M : Int) + 1) = M + 1 := IntWalk.i64_in _ (by omega)
                    clear hF hfl hM2 hIE
                    go_wp2_with fail
                    go_ret
                    exact ⟨rfl, hbb13⟩

/-! ### The row -/
set_option maxRecDepth 100000 in
theorem lifted (os : Os) (started : os.Started) (H : Type) (enc : TypeId × Value → H) :
    ReturnsInHanded {} Try.checked os 10 .any (Rows.digraphPartsSpec.pre6 enc Try.prog Try.f10 Rows.digraphPartsRow.domain false) (Rows.digraphPartsSpec.post enc Try.prog Try.f10 false true false false) := by
  refine returnsInHanded_of_change (C := Try.checked) own started (by kernel_rfl) Try.func10
    (ChangeSpec.witness6 (enc := enc) (C := Try.checked) false ⟨#[], #[.int .i64 0, .slice none 0 0, .int .u8 0], []⟩ 8 (by kernel_rfl) (by kernel_rfl) (by kernel_rfl) (by kernel_rfl)) ?_
  intro W base args ds gs before hval0 hW hcnd _
  have hval : ∀ (j : Nat) t v, Try.f10.params[j]? = some t → args[j]? = some v → Value.okWide Try.prog W .any base t v := hval0
  have hW' := hW
  obtain ⟨p, q, hA0, hV, rfl, hfz, hnd⟩ := hW
  have hA : DataW.TrodAll enc Try.prog W 0 (fun _ => true) true Try.f10.params.toList args.toList ds p := hA0
  rw [Try.params10] at hA hval
  obtain ⟨v0, vs0, d0, ds0, p0, q0, hargs, rfl, rfl, h0, r0⟩ := trodAll_cons hA
  obtain ⟨v1, vs1, d1, ds1, p1, q1, rfl, rfl, rfl, h1, r1⟩ := trodAll_cons r0
  obtain ⟨v2, vs2, d2, ds2, p2, q2, rfl, rfl, rfl, h2, r2⟩ := trodAll_cons r1
  obtain ⟨rfl, rfl, rfl⟩ := trodAll_nil r2
  obtain rfl : args = #[v0, v1, v2] := by cases args; simp_all
  obtain ⟨rfl, rfl⟩ := trodVars_none hV
  obtain ⟨a0, rfl, rfl, rfl, w0⟩ := open_int Try.underlying3 (hval 0 3 v0 rfl rfl) h0
  have k1 := h1
  have lt1 : ∀ x ∈ p1, x.block < W.heap.size := by obtain ⟨m, hm⟩ := k1; exact DataW.trod_lt m _ _ _ hm
  obtain ⟨x1, w1⟩ := openEds (hval 1 22 v1 rfl rfl) h1
  obtain ⟨a2, rfl, rfl, rfl, w2⟩ := open_int Try.underlying5 (hval 2 5 v2 rfl rfl) h2
  clear hA0 hval0
  refine (walk a0 v1 x1 a2 W w0 w1 w2).mono fun e W' ⟨he, bel⟩ => ?_
  subst he
  exact ⟨_, rfl, _, _, _, [], _, [], hW', trodAll_mk1 (shut_bool Try.underlying4 _), (trodAll_cons_mk (shut_int Try.underlying3 w0) (trodAll_cons_mk (Below.trod laidOut (by kernel_rfl) (of_decide_eq_true (by kernel_rfl)) k1 bel lt1) (trodAll_cons_mk (shut_int Try.underlying5 w2) trodAll_mk0))), rfl, bel.frame _, fun h => by cases h⟩

theorem over : Rows.digraphPartsRow.holds Try.pinned (OpenSpec.ofChange Rows.digraphPartsSpec) :=
  OpenClaim.holds_of_wide 10 Try.f10 rfl rfl rfl rfl rfl rfl rfl ⟨rfl, rfl, rfl, rfl, rfl⟩ rfl rfl rfl rfl rfl (by kernel_rfl) Try.func10 (by kernel_rfl)
    (of_decide_eq_true (by kernel_rfl)) (by unfold Func.isWrapper; first | (rw [if_pos (by decide +kernel)]; kernel_rfl) | (rw [if_neg (by decide +kernel)]; exact ⟨rfl, rfl⟩))
    (fun os started H enc _ => lifted os started H enc)

end Go.Proofs.Ythnhlaljnkdmfaa.digraphParts
namespace Go.Proofs.Ythnhlaljnkdmfaa
/-- The statement. -/
theorem digraphParts_holds : Rows.DigraphPartsSaid := digraphParts.over
#print axioms digraphParts_holds
end Go.Proofs.Ythnhlaljnkdmfaa
