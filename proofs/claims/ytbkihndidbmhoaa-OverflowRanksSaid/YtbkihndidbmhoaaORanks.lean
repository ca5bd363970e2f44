/- The law OverflowRanks returns true for every list of volumes below 2^32 and all other arguments, and leaves its arguments as they were. Conditions: none beyond the row's own. -/
import Derived.Test.YtbkihndidbmhoaaRows
import Derived.WalkKit
import Derived.ProofKit
import Derived.OpenShut
import Derived.ShutString
import Derived.ChangeOld
import Derived.Below
import Derived.Test.YtbkihndidbmhoaaRnk
import Derived.Test.YtbkihndidbmhoaaOv9
import Derived.Test.YtbkihndidbmhoaaRowk
namespace Go.Proofs.Ytbkihndidbmhoaa.overflowRanks
open Go.ChangeShapes Go.WideShapes Go.ChangeAt Go.RowKit
set_option linter.unusedVariables false
set_option linter.unusedSimpArgs false
open Go.ChangeMaps (open_string shut_string)
set_option linter.unusedVariables false

theorem own : ownKnob Try.prog.godebug = none := by kernel_rfl
theorem laidOut : laidOutB Try.prog = true := by kernel_rfl

set_option maxRecDepth 100000 in
set_option maxHeartbeats 20000000 in
theorem walk (a0 : Option Addr) (len0 cap0 : Nat) (z0 : List Int) (a1 : Int) (a2 : Int) (a3 : Int) (w : World) (w0 : IsRow .u32 w a0 len0 cap0 z0) (w1 : (Lit.int .u8 a1).wf = true) (w2 : (Lit.int .i32 a2).wf = true) (w3 : (Lit.int .u16 a3).wf = true) :
    Calls Try.prog 7 #[.slice a0 len0 cap0, .int .u8 a1, .int .i32 a2, .int .u16 a3] w fun e w' => e = .returned (.bool true) ∧ Below w.heap.size w w' := by
  have hv : IsU32s w (.slice a0 len0 cap0) (z0.take len0) := w0.list
  have hr : ∀ x ∈ z0.take len0, 0 ≤ x ∧ x ≤ 4294967295 := fun x hx => fits_u32 (w0.fits x hx)
  have b1 := fits_u8 w1
  have b2 := fits_i32 w2
  have b3 := fits_u16 w3
  generalize z0.take len0 = xs at *
  obtain ⟨a, cap, he, hcap, hbig, hs⟩ := hv
  simp only [Value.slice.injEq] at he
  obtain ⟨rfl, rfl, rfl⟩ := he
  have hv : IsU32s w (.slice a0 xs.length cap0) xs := ⟨a0, cap0, rfl, hcap, hbig, hs⟩
  clear w0 w1 w2 w3 hs
  obtain ⟨mk, rfl⟩ : ∃ mk : Nat, a1 = mk := ⟨a1.toNat, by omega⟩
  by_cases hl : 200 < xs.length
  · go_enter Try.func7, Try.ntmps7
    go_wp2_with fail
    refine Calls.to (awake_any w) ?_
    rintro e w1 rfl hb1
    go_wp2_with fail
    go_ret
    exact ⟨rfl, hb1⟩
  · have Hr := Lib.hid hr
    clear hr
    obtain ⟨A, out, hS1, hrM, hA200, hF, hY, hYOK, hZ⟩ := ranks_all xs (by omega) Hr.out a2 (1 + a3) b2.1 b2.2 (by omega) (by omega)
    have HS1 := Lib.hid hS1; have HRM := Lib.hid hrM; have HF := Lib.hid hF; have HY := Lib.hid hY; have HYOK := Lib.hid hYOK; have HZ := Lib.hid hZ
    clear hS1 hrM hF hY hYOK hZ
    go_enter Try.func7, Try.ntmps7
    go_wp2_with fail
    refine Calls.to (awake_any w) ?_
    rintro e w1 rfl hb1
    go_wp2_with fail
    refine Calls.go hb1 (small_any xs _ _ (hv.mono hb1) (by omega) Hr.out) ?_
    rintro e w2 ⟨v1, rfl, hown1⟩ hb2' hb2
    have hx1 := hown1.isL (fun _ => rfl)
    clear hown1
    go_wp2_with fail
    refine Calls.go hb2 (spillsX_any xs _ 1 _ hx1) ?_
    rintro e w3 ⟨va, rfl, hownA⟩ hb3' hb3
    rw [HS1.out] at hownA ⊢
    have hA := hownA.isL eEv_len
    obtain ⟨aA, cA, rfl⟩ := hownA.isSlice
    clear hownA hx1
    go_wp2_with fail
    refine Calls.go hb3 (worst_any A _ mk _ hA) ?_
    rintro e w4 ⟨vw, cw, rfl, hW1⟩ hb4' hb4
    have hA := hA.mono hb4'
    obtain ⟨rfl, S, hSS, hIW⟩ : cw = 0 ∧ ∃ S, SortedOf (wR A) (iota A.length) S ∧ IsInts w4 vw (S.take mk) := by
      rcases hW1 with ⟨h, _⟩ | ⟨_, h, _⟩ | ⟨_, _, h, S, h1, h2⟩
      · rw [HRM.out] at h; cases h
      · omega
      · exact ⟨h, S, h1, by simpa using h2⟩
    clear hW1
    go_wp2_with fail
    refine Calls.go hb4 (worst_any A _ A.length _ hA) ?_
    rintro e w5 ⟨vs, cs, rfl, hW2⟩ hb5' hb5
    have hA := hA.mono hb5'
    have hIW := hIW.mono hb5'
    obtain ⟨hSl, hSm⟩ := sorted_mem hSS
    obtain ⟨rfl, hIS⟩ : cs = 0 ∧ IsInts w5 vs S := by
      rcases hW2 with ⟨h, _⟩ | ⟨_, h, _⟩ | ⟨_, _, h, S', h1, h2⟩
      · rw [HRM.out] at h; cases h
      · omega
      · rw [worst_is hSS h1] at h2
        rw [Int.toNat_natCast, List.take_of_length_le (by omega)] at h2
        exact ⟨h, h2⟩
    clear hW2
    obtain ⟨aS, cS, rfl, qS1, qS2, qS⟩ := hIS
    have hIS : IsInts w5 (.slice aS S.length cS) S := ⟨aS, cS, rfl, qS1, qS2, qS⟩
    obtain ⟨aW, cW, rfl, qW1, qW2, qW⟩ := hIW
    have hWl : (S.take mk).length = min mk S.length := by simp
    have hIW : IsInts w5 (.slice aW (S.take mk).length cW) (S.take mk) := ⟨aW, cW, rfl, qW1, qW2, qW⟩
    obtain ⟨aT, cT, qT, qT1, qT2, hrunT⟩ := sub_h undInts' szInt hIS (S.take mk).length (S.take mk).length rfl (by rw [hWl]; omega)
    have hTW : S.take (S.take mk).length = S.take mk := by
      rw [hWl]
      rcases Nat.le_total mk S.length with h | h
      · rw [Nat.min_eq_left h]
      · rw [Nat.min_eq_right h, List.take_of_length_le (Nat.le_refl _), List.take_of_length_le h]
    rw [hTW] at qT qT1 hrunT
    have hIT : IsInts w5 (.slice aT (S.take mk).length cT) (S.take mk) := ⟨aT, cT, rfl, qT1, qT2, qT⟩
    have t1 : ((S.length : Int) != A.length) = false := by simp [hSl]
    generalize S.take mk = W at *
    have hcase : W.length = mk ∧ mk ≤ A.length ∨ W.length = A.length ∧ A.length < mk := by
      rw [hWl, hSl]; omega
    have HSL := Lib.hid hSl; have HSM := Lib.hid hSm; have HSS := Lib.hid hSS
    clear hTW hWl hSm hSS hSl
    rcases hcase with ⟨rfl, hle⟩ | ⟨hwl, hlt⟩
    rotate_left
    · as_aux_lemma =>
      have t2 : ((W.length : Int) != A.length) = false := by simp [hwl]
      have HWL := Lib.hid hwl
      clear hwl
      go_wp2_with fail
      refine Calls.go hb5 (eqInts W W _ _ _ hIW hIT) ?_
      rintro e w6 rfl hb6' hb6
      clear hIW hIT qW qT qW1 qW2 qT1 qT2 hlt t2 HWL
      rw [decide_eq_true rfl]
      have hA := hA.mono hb6'
      have qS := qS.mono hb6'
      obtain ⟨aA', cA', heA, qA1, qA2, qA⟩ := hA
      simp only [Value.slice.injEq] at heA
      obtain ⟨rfl, _, rfl⟩ := heA
      clear hIS hrunT hb1 hb2 hb2' hb3 hb3' hb4 hb4' hb5 hb5' hb6'
      go_wp2_with (refine wpList_mk _ rfl _ _ 58 rfl w6.heap.size 4 _ 1 undBools infBool eB false rfl rfl _ _ A.length rfl rfl rfl rfl (by omega) (by omega) (Nat.le_refl _) ?_; intro w7 hown7 hb7' hlt7)
      have hb7 := hb6.trans (hb7'.mono hb6.size)
      have hlt6 := hb7'.size
      go_loopw [96] (fun s96 wr => ∃ (i : Nat) (sn : List Bool), s96 = .int .i64 i ∧ i ≤ S.length ∧ Own w6.heap.size 4 eB 1 wr (.slice (some ⟨w6.heap.size, 0, none⟩) A.length A.length) sn ∧ Below w6.heap.size w6 wr ∧
        Hid (sn.length = A.length) ∧ Hid (∀ j (h : j < sn.length), sn[j] = true → (j : Int) ∈ S.take i)) (fun i _ => S.length - (intOf i).toNat)
      case atStart => exact ⟨0, _, rfl, Nat.zero_le _, hown7, hb7', by simp [Hid], by intro j h hj; simp at hj⟩
      case round =>
        as_aux_lemma =>
        obtain ⟨i, sn, rfl, hi, hown, hb, hsl, hsn⟩ := hrel
        have hsz := hb.size
        by_cases hlt : i < S.length
        · obtain ⟨bS, offS, rfl, cS0⟩ := (qS.mono hb).int i hlt
          have hmem := HSM.out _ (List.getElem_mem hlt)
          obtain ⟨j, hj⟩ : ∃ j : Nat, S[i] = j := ⟨S[i].toNat, by omega⟩
          rw [hj] at cS0 hmem
          have hjA : j < A.length := by omega
          have hjn : j < sn.length := by have := hsl.out; omega
          obtain ⟨bA, offA, rfl, cA0⟩ : ∃ b off, aA = some ⟨b, off, none⟩ ∧ wr.cell? ⟨b, off + j * 4 + 2, none⟩ = some (.int .i64 A[j].Total) := by
            obtain ⟨b, off, e, _, _, c, _⟩ := (qA.mono hb).ev j hjA
            exact ⟨b, off, e, c⟩
          have hfalse : sn[j] = false := by
            cases h : sn[j] with
            | false => rfl
            | true =>
              exfalso
              have h1 := hsn.out j hjn h
              obtain ⟨k, hk, hkj⟩ := List.mem_iff_getElem.1 h1
              simp at hk
              rw [List.getElem_take] at hkj
              have h2 := sorted_ne HSS.out k i (by omega) hlt
              rw [hkj, hj] at h2
              exact wR_asymm A _ _ h2 h2
          have cn := hown.cellAt' eB_len j 0 hjn (by omega)
          have fn := hown.free j
          rw [hfalse] at cn
          simp at cn
          have HJ := Lib.hid hj
          have HN := Lib.hid hfalse
          have hrel2 : ∀ q : Nat, ∃ (i2 : Nat) (sn2 : List Bool), Value.int .i64 ((i : Int) + 1) = .int .i64 i2 ∧ i2 ≤ S.length ∧ Own w6.heap.size 4 eB 1 ((wr.drewN q).setCell ⟨w6.heap.size, j, none⟩ (.bool true)) (.slice (some ⟨w6.heap.size, 0, none⟩) A.length A.length) sn2 ∧ Below w6.heap.size w6 ((wr.drewN q).setCell ⟨w6.heap.size, j, none⟩ (.bool true)) ∧
              Hid (sn2.length = A.length) ∧ Hid (∀ j (h : j < sn2.length), sn2[j] = true → (j : Int) ∈ S.take i2) ∧ S.length - i2 < S.length - i := by
            intro q
            refine ⟨i + 1, sn.set j true, by go_num, by omega, ?_, (below_drewN hb q).setCell (Nat.le_refl _) _, ?_, seen_step S sn i j hlt hj hsn.out, by omega⟩
            · have := (hown.below (below_drewN (Below.refl _ _) q)).store eB_len j 0 hjn (by omega) (.bool true) true (by simp)
              simpa using this
            · show _ = _
              rw [List.length_set]; exact hsl.out
          have HREL2 := Lib.hid hrel2
          clear hj hfalse hrel2 hsn hsl hown
          have HTJ : Hid (totalAt A j = A[j].Total) := totalAt_eq A j hjA
          have g0 : decide ((j : Int) < 0) = false := by simp <;> omega
          have g1 : decide (A.length ≤ j) = false := by simp <;> omega
          by_cases hi0 : i = 0
          · have hi1 : ¬ 0 < i := by omega
            have g2 : decide (0 < i) = false := by simp <;> omega
            have g3 : decide ((0 : Int) < i) = false := by simp <;> omega
            clear hi0
            generalize A[j].Total = tj at *
            go_wp2_with fail
            dsimp only [List.append]
            go_quiet (fail)
            go_wp2_with fail
            go_roundw
            case measure => simp [intOf]; omega
            case rel =>
              obtain ⟨i2, sn2, e1, e2, e3, e4, e5, e6, e7⟩ := HREL2.out nq
              exact ⟨i2, sn2, e1, e2, e3, e4, e5, e6⟩
          · have hi1 : 0 < i := by omega
            have g2 : decide (0 < i) = true := by simp <;> omega
            have g3 : decide ((0 : Int) < i) = true := by simp <;> omega
            have hip : i - 1 < S.length := by omega
            have hpm := HSM.out _ (List.getElem_mem hip)
            obtain ⟨jp, hjp⟩ : ∃ jp : Nat, S[i - 1] = jp := ⟨S[i - 1].toNat, by omega⟩
            have cSp := (qS.mono hb).intAt (i - 1) hip
            have hw := sorted_ne HSS.out (i - 1) i (by omega) hlt
            rw [hjp] at cSp hpm hw
            rw [HJ.out] at hw
            have hjpA : jp < A.length := by omega
            have cAp := (qA.mono hb).evTotal jp hjpA
            unfold wR at hw
            rw [totalAt_eq A jp hjpA, totalAt_eq A j hjA] at hw
            clear hjp hi0
            generalize A[j].Total = tj at *
            generalize A[jp].Total = tp at *
            rcases hw with hw | ⟨hw, hw2⟩
            · have k1 : decide (tp < tj) = false := by simp; omega
              have k2 : (tp == tj) = false := by simp; omega
              go_wp2_with fail
              have w1' : IntKind.i64.wrap ((i : Int) - 1) = (i : Int) - 1 := IntWalk.i64_in _ (by omega)
              have w2' : ((i : Int) - 1).toNat = i - 1 := by omega
              have w3' : 0 ≤ (i : Int) - 1 := by omega
              have w4' : (i : Int) - 1 < S.length := by omega
              dsimp only [List.append]
              go_quiet (fail)
              clear w1' w2' w3' w4'
              go_wp2_with fail
              go_roundw
              case measure => simp [intOf]; omega
              case rel =>
                obtain ⟨i2, sn2, e1, e2, e3, e4, e5, e6, e7⟩ := HREL2.out nq
                exact ⟨i2, sn2, e1, e2, e3, e4, e5, e6⟩
            · subst hw
              have k1 : decide (tp < tp) = false := by simp
              have k2 : (tp == tp) = true := by simp
              have k3 : decide (j < jp) = false := by simp; omega
              go_wp2_with fail
              have w1' : IntKind.i64.wrap ((i : Int) - 1) = (i : Int) - 1 := IntWalk.i64_in _ (by omega)
              have w2' : ((i : Int) - 1).toNat = i - 1 := by omega
              have w3' : 0 ≤ (i : Int) - 1 := by omega
              have w4' : (i : Int) - 1 < S.length := by omega
              dsimp only [List.append]
              go_quiet (fail)
              clear w1' w2' w3' w4'
              go_wp2_with fail
              go_roundw
              case measure => simp [intOf]; omega
              case rel =>
                obtain ⟨i2, sn2, e1, e2, e3, e4, e5, e6, e7⟩ := HREL2.out nq
                exact ⟨i2, sn2, e1, e2, e3, e4, e5, e6⟩
        · have hbb := hb6.trans (hb.mono hb6.size)
          have hA : IsEvs wr (.slice aA A.length cA) A := ⟨aA, cA, rfl, qA1, qA2, qA.mono hb⟩
          clear hsn hsl hown HSS HSM qS qS1 qS2 hb7 hb7' hown7 hlt7 hlt6
          go_wp2_with fail
          refine Calls.go hbb (yearly_any A _ a2 (1 + a3) _ hA) ?_
          rintro e w8 ⟨vy, rfl, hownY⟩ hb8' hb8
          rw [HY.out] at hownY ⊢
          have hA := hA.mono hb8'
          obtain ⟨aA2, cA2, heA, _, _, qA8⟩ := hA
          simp only [Value.slice.injEq] at heA
          obtain ⟨rfl, _, rfl⟩ := heA
          have hY := hownY.isL ePr_len
          obtain ⟨aY, cY, rfl⟩ := hownY.isSlice
          obtain ⟨aY2, cY2, heY, qY1, qY2, qY⟩ := hY
          simp only [Value.slice.injEq] at heY
          obtain ⟨rfl, _, rfl⟩ := heY
          clear hownY hb8' hb hsz
          go_wp2_with fail
          go_loopw [21, 22, 185] (fun s21 s22 s185 wr => ∃ (i nx : Nat) (prev : Option Int), s185 = .int .i64 i ∧ i ≤ out.length ∧ s21 = .int .i64 nx ∧ s22 = .int .i64 nx ∧ nx ≤ A.length ∧ Below w8.heap.size w8 wr ∧
            Hid (YOK (fun i => (splitM (a2 + (1 + a3) * (A.getD i default).From)).2) A.length prev nx (out.drop i)) ∧ Hid (∀ (h : i - 1 < out.length), 0 < i → prev = some out[i - 1].1)) (fun _ _ i _ => out.length - (intOf i).toNat)
          case atStart => exact ⟨0, 0, none, rfl, Nat.zero_le _, rfl, rfl, Nat.zero_le _, Below.refl _ _, HYOK.out, by intro _ h; exact absurd h (Nat.lt_irrefl _)⟩
          case round =>
            as_aux_lemma =>
            obtain ⟨i, nx, prev, rfl, hi, rfl, rfl, hnx, hb, hyk, hpv⟩ := hrel
            have hsz := hb.size
            by_cases hlt : i < out.length
            · obtain ⟨bY, offY, rfl, cy1, cy2⟩ := (qY.mono hb).pr i hlt
              have hyk := hyk.out
              rw [List.drop_eq_getElem_cons hlt] at hyk
              have hpm : i - 1 < out.length := by omega
              have cyp : 0 < i → wr.cell? ⟨bY, offY + (i - 1) * 2, none⟩ = some (.int .i64 out[i - 1].1) := by
                intro _
                obtain ⟨b', off', e, c, _⟩ := (qY.mono hb).pr (i - 1) hpm
                simp only [Option.some.injEq, Addr.mk.injEq] at e
                obtain ⟨rfl, rfl, _⟩ := e
                exact c
              have hpv' := hpv.out hpm
              generalize out[i - 1] = yp at *
              generalize hrs : out.drop (i + 1) = rs at *
              have HRS := Lib.hid hrs
              clear hrs hpv
              generalize hyc : out[i] = yc at *
              obtain ⟨y, c⟩ := yc
              have HYC := Lib.hid hyc
              clear hyc
              obtain ⟨n, hcn, n1, n2, n3, n4, n5⟩ := hyk
              subst hcn
              obtain ⟨yp, yq⟩ := yp
              simp only at cy1 cy2 cyp hpv'
              have N4 := Lib.hid n4; have N5 := Lib.hid n5
              have hlt1 : 0 < i → yp < y := fun h => n3 yp (hpv' h)
              clear n3 n4 n5 hpv'
              have hE0 : ∀ x ∈ (A.drop nx).take (nx + n - nx), 0 ≤ x.From ∧ x.From ≤ 10000 ∧ splitM (a2 + (1 + a3) * x.From) = (0, y) := by
                intro x hx
                have hxA : x ∈ A := List.mem_of_mem_drop (List.mem_of_mem_take hx)
                obtain ⟨q, hq, rfl⟩ := List.mem_iff_getElem.1 hx
                simp only [List.length_take, List.length_drop] at hq
                have e1 : ((A.drop nx).take (nx + n - nx))[q]'(by simp; omega) = A[nx + q]'(by omega) := by simp
                rw [e1] at hxA ⊢
                obtain ⟨f1, f2⟩ := HF.out _ hxA
                refine ⟨f1, f2, ?_⟩
                have y1 := HZ.out _ hxA
                have y2 := N4.out (nx + q) (by omega) (by omega)
                simp only [List.getD, List.getElem?_eq_getElem (show nx + q < A.length by omega), Option.getD_some] at y2
                exact Prod.ext y1 y2
              have hEl0 : ((A.drop nx).take (nx + n - nx)).length = n := by simp; omega
              have hAr : IsEvs wr (.slice aA A.length cA) A := ⟨aA, cA, rfl, qA1, qA2, qA8.mono hb⟩
              obtain ⟨aE, cE, qE, qE1, qE2, hrunE⟩ := sub_lh undEvs' szEv hAr nx (nx + n) nx ((nx : Int) + n) rfl (by omega) (by omega) n2
              generalize (A.drop nx).take (nx + n - nx) = E at *
              have HE := Lib.hid hE0; have HEL := Lib.hid hEl0
              clear hE0 hEl0 hAr N4
              have hEle : E.length ≤ 200 := by have := HEL.out; omega
              have g0 : decide ((n : Int) < 1) = false := by simp; omega
              have g1 : decide (A.length < nx + n) = false := by simp; omega
              have hcase : (0 < i ∧ yp < y) ∨ ¬ 0 < i := by
                by_cases h : 0 < i
                · exact .inl ⟨h, hlt1 h⟩
                · exact .inr h
              clear hlt1
              have hdone : ∀ (nq : Nat), True := fun _ => trivial
              clear hdone
              rcases hcase with ⟨hi0, hlt1⟩ | hi0
              · have g2 : decide (y ≤ yp) = false := by simp; omega
                have g3 : decide (0 < i) = true := by simp <;> omega
                have g4 : decide ((0 : Int) < i) = true := by simp <;> omega
                have cyp := cyp hi0
                go_wp2_with fail
                have w1' : IntKind.i64.wrap ((i : Int) - 1) = (i : Int) - 1 := IntWalk.i64_in _ (by omega)
                have w5' : IntKind.i64.wrap ((nx : Int) + n) = (nx : Int) + n := IntWalk.i64_in _ (by omega)
                have w2' : ((i : Int) - 1).toNat = i - 1 := by omega
                have w3' : 0 ≤ (i : Int) - 1 := by omega
                have w4' : (i : Int) - 1 < out.length := by omega
                go_quiet (fail)
                clear w1' w2' w3' w4' w5'
                go_wp2_with fail
                have k0 : ((wr.alloc (.cells #[.int .i64 y, .int .i64 n] 62)).drewN nq).cell? ⟨wr.heap.size, 0, none⟩ = some (.int .i64 y) := by simp [go_sem]
                have k1 : ((wr.alloc (.cells #[.int .i64 y, .int .i64 n] 62)).drewN nq).cell? ⟨wr.heap.size, 1, none⟩ = some (.int .i64 n) := by simp [go_sem]
                have hbX : Below w8.heap.size w8 ((wr.alloc (.cells #[.int .i64 y, .int .i64 n] 62)).drewN nq) := below_drewN (hb.alloc hb.size _) _
                have qE24 := qE.mono (below_drewN ((Below.refl _ _).alloc (Nat.le_refl _) (.cells #[.int .i64 y, .int .i64 n] 62)) nq)
                have hz : wr.heap.size < ((wr.alloc (.cells #[.int .i64 y, .int .i64 n] 62)).drewN nq).heap.size := by simp
                generalize (wr.alloc (.cells #[.int .i64 y, .int .i64 n] 62)).drewN nq = W24 at *
                clear hrunE cy1 cy2 qE
                generalize wr.heap.size = BX at *
                go_loopw [225] (fun s225 wr => ∃ j : Nat, s225 = .int .i64 j ∧ j ≤ E.length ∧ Below W24.heap.size W24 wr) (fun i _ => E.length - (intOf i).toNat)
                case atStart => exact ⟨0, rfl, Nat.zero_le _, Below.refl _ _⟩
                case round =>
                  as_aux_lemma =>
                  obtain ⟨j, rfl, hj, hbi⟩ := hrel
                  have hszi := hbi.size
                  by_cases hjl : j < E.length
                  · obtain ⟨bE, offE, rfl, d1, d2, d3, d4⟩ := (qE24.mono hbi).ev j hjl
                    obtain ⟨f1, f2, f3⟩ := HE.out _ (List.getElem_mem hjl)
                    generalize E[j] = x at *
                    obtain ⟨x1, x2, x3, x4⟩ := x
                    simp only at d1 d2 d3 d4 f1 f2 f3
                    have m0 : 0 ≤ x1 * (1 + a3) := Int.mul_nonneg f1 (by omega)
                    have m1 : x1 * (1 + a3) ≤ 10000 * 65536 := Int.mul_le_mul f2 (by omega) (by omega) (by omega)
                    have hbB : Below W24.heap.size W24 (wr.alloc (.cells #[.int .i64 x1, .int .i64 x2, .int .i64 x3, .int .i64 x4] 33)) := hbi.alloc hszi _
                    have F3 := Lib.hid f3
                    clear f3
                    go_wp2_with fail
                    refine Calls.go hbB (split_any _ _) ?_
                    rintro e w10 ⟨mm, dd, sc, rfl⟩ hb10' hb10
                    rw [Int.mul_comm x1 (1 + a3), F3.out]
                    have e0 : w10.cell? ⟨BX, 0, none⟩ = some (.int .i64 y) := (hb10.cell (p := ⟨BX, 0, none⟩) hz).trans k0
                    have hsz10 := hb10.size
                    clear hb10' d1 d2 d3 d4 m0 m1 F3
                    go_wp2_with fail
                    go_roundw
                    case measure => simp [intOf]; omega
                    case rel => exact ⟨j + 1, by go_num, by omega, by repeat' (first | exact Below.refl _ _ | assumption | refine Below.more ?_ ?_ _ | refine Below.alloc ?_ ?_ _ | refine Below.drew ?_ | refine below_drewN ?_ _ | refine Below.setCell ?_ ?_ _ | exact Below.size (by assumption) | (simp [go_sem, size_more]; done) | (simp [go_sem, size_more]; omega))⟩
                  · have e0 : wr.cell? ⟨BX, 0, none⟩ = some (.int .i64 y) := (hbi.cell (p := ⟨BX, 0, none⟩) hz).trans k0
                    have e1 : wr.cell? ⟨BX, 1, none⟩ = some (.int .i64 n) := (hbi.cell (p := ⟨BX, 1, none⟩) hz).trans k1
                    go_wp2_with fail
                    go_roundw
                    case measure => simp [intOf]; omega
                    case rel => exact ⟨i + 1, nx + n, some y, by go_num, by omega, by go_num, by go_num, n2, hbX.trans (hbi.mono hbX.size), by rw [HRS.out]; exact N5.out, by intro h _; simp only [Nat.add_sub_cancel, HYC.out]⟩
              · have g3 : decide (0 < i) = false := by simp <;> omega
                have g4 : decide ((0 : Int) < i) = false := by simp <;> omega
                clear cyp
                go_wp2_with fail
                have w5' : IntKind.i64.wrap ((nx : Int) + n) = (nx : Int) + n := IntWalk.i64_in _ (by omega)
                go_quiet (fail)
                clear w5'
                go_wp2_with fail
                have k0 : ((wr.alloc (.cells #[.int .i64 y, .int .i64 n] 62)).drewN nq).cell? ⟨wr.heap.size, 0, none⟩ = some (.int .i64 y) := by simp [go_sem]
                have k1 : ((wr.alloc (.cells #[.int .i64 y, .int .i64 n] 62)).drewN nq).cell? ⟨wr.heap.size, 1, none⟩ = some (.int .i64 n) := by simp [go_sem]
                have hbX : Below w8.heap.size w8 ((wr.alloc (.cells #[.int .i64 y, .int .i64 n] 62)).drewN nq) := below_drewN (hb.alloc hb.size _) _
                have qE24 := qE.mono (below_drewN ((Below.refl _ _).alloc (Nat.le_refl _) (.cells #[.int .i64 y, .int .i64 n] 62)) nq)
                have hz : wr.heap.size < ((wr.alloc (.cells #[.int .i64 y, .int .i64 n] 62)).drewN nq).heap.size := by simp
                generalize (wr.alloc (.cells #[.int .i64 y, .int .i64 n] 62)).drewN nq = W24 at *
                clear hrunE cy1 cy2 qE
                generalize wr.heap.size = BX at *
                go_loopw [225] (fun s225 wr => ∃ j : Nat, s225 = .int .i64 j ∧ j ≤ E.length ∧ Below W24.heap.size W24 wr) (fun i _ => E.length - (intOf i).toNat)
                case atStart => exact ⟨0, rfl, Nat.zero_le _, Below.refl _ _⟩
                case round =>
                  as_aux_lemma =>
                  obtain ⟨j, rfl, hj, hbi⟩ := hrel
                  have hszi := hbi.size
                  by_cases hjl : j < E.length
                  · obtain ⟨bE, offE, rfl, d1, d2, d3, d4⟩ := (qE24.mono hbi).ev j hjl
                    obtain ⟨f1, f2, f3⟩ := HE.out _ (List.getElem_mem hjl)
                    generalize E[j] = x at *
                    obtain ⟨x1, x2, x3, x4⟩ := x
                    simp only at d1 d2 d3 d4 f1 f2 f3
                    have m0 : 0 ≤ x1 * (1 + a3) := Int.mul_nonneg f1 (by omega)
                    have m1 : x1 * (1 + a3) ≤ 10000 * 65536 := Int.mul_le_mul f2 (by omega) (by omega) (by omega)
                    have hbB : Below W24.heap.size W24 (wr.alloc (.cells #[.int .i64 x1, .int .i64 x2, .int .i64 x3, .int .i64 x4] 33)) := hbi.alloc hszi _
                    have F3 := Lib.hid f3
                    clear f3
                    go_wp2_with fail
                    refine Calls.go hbB (split_any _ _) ?_
                    rintro e w10 ⟨mm, dd, sc, rfl⟩ hb10' hb10
                    rw [Int.mul_comm x1 (1 + a3), F3.out]
                    have e0 : w10.cell? ⟨BX, 0, none⟩ = some (.int .i64 y) := (hb10.cell (p := ⟨BX, 0, none⟩) hz).trans k0
                    have hsz10 := hb10.size
                    clear hb10' d1 d2 d3 d4 m0 m1 F3
                    go_wp2_with fail
                    go_roundw
                    case measure => simp [intOf]; omega
                    case rel => exact ⟨j + 1, by go_num, by omega, by repeat' (first | exact Below.refl _ _ | assumption | refine Below.more ?_ ?_ _ | refine Below.alloc ?_ ?_ _ | refine Below.drew ?_ | refine below_drewN ?_ _ | refine Below.setCell ?_ ?_ _ | exact Below.size (by assumption) | (simp [go_sem, size_more]; done) | (simp [go_sem, size_more]; omega))⟩
                  · have e0 : wr.cell? ⟨BX, 0, none⟩ = some (.int .i64 y) := (hbi.cell (p := ⟨BX, 0, none⟩) hz).trans k0
                    have e1 : wr.cell? ⟨BX, 1, none⟩ = some (.int .i64 n) := (hbi.cell (p := ⟨BX, 1, none⟩) hz).trans k1
                    go_wp2_with fail
                    go_roundw
                    case measure => simp [intOf]; omega
                    case rel => exact ⟨i + 1, nx + n, some y, by go_num, by omega, by go_num, by go_num, n2, hbX.trans (hbi.mono hbX.size), by rw [HRS.out]; exact N5.out, by intro h _; simp only [Nat.add_sub_cancel, HYC.out]⟩
            · have hyk := hyk.out
              rw [List.drop_eq_nil_of_le (by omega)] at hyk
              simp only [YOK] at hyk
              subst hyk
              go_wp2_with fail
              go_ret
              exact ⟨rfl, hb8.trans (hb.mono hb8.size)⟩
    · as_aux_lemma =>
      go_wp2_with fail
      refine Calls.go hb5 (eqInts W W _ _ _ hIW hIT) ?_
      rintro e w6 rfl hb6' hb6
      clear hIW hIT qW qT qW1 qW2 qT1 qT2 hle
      rw [decide_eq_true rfl]
      have hA := hA.mono hb6'
      have qS := qS.mono hb6'
      obtain ⟨aA', cA', heA, qA1, qA2, qA⟩ := hA
      simp only [Value.slice.injEq] at heA
      obtain ⟨rfl, _, rfl⟩ := heA
      clear hIS hrunT hb1 hb2 hb2' hb3 hb3' hb4 hb4' hb5 hb5' hb6'
      go_wp2_with (refine wpList_mk _ rfl _ _ 58 rfl w6.heap.size 4 _ 1 undBools infBool eB false rfl rfl _ _ A.length rfl rfl rfl rfl (by omega) (by omega) (Nat.le_refl _) ?_; intro w7 hown7 hb7' hlt7)
      have hb7 := hb6.trans (hb7'.mono hb6.size)
      have hlt6 := hb7'.size
      go_loopw [96] (fun s96 wr => ∃ (i : Nat) (sn : List Bool), s96 = .int .i64 i ∧ i ≤ S.length ∧ Own w6.heap.size 4 eB 1 wr (.slice (some ⟨w6.heap.size, 0, none⟩) A.length A.length) sn ∧ Below w6.heap.size w6 wr ∧
        Hid (sn.length = A.length) ∧ Hid (∀ j (h : j < sn.length), sn[j] = true → (j : Int) ∈ S.take i)) (fun i _ => S.length - (intOf i).toNat)
      case atStart => exact ⟨0, _, rfl, Nat.zero_le _, hown7, hb7', by simp [Hid], by intro j h hj; simp at hj⟩
      case round =>
        as_aux_lemma =>
        obtain ⟨i, sn, rfl, hi, hown, hb, hsl, hsn⟩ := hrel
        have hsz := hb.size
        by_cases hlt : i < S.length
        · obtain ⟨bS, offS, rfl, cS0⟩ := (qS.mono hb).int i hlt
          have hmem := HSM.out _ (List.getElem_mem hlt)
          obtain ⟨j, hj⟩ : ∃ j : Nat, S[i] = j := ⟨S[i].toNat, by omega⟩
          rw [hj] at cS0 hmem
          have hjA : j < A.length := by omega
          have hjn : j < sn.length := by have := hsl.out; omega
          obtain ⟨bA, offA, rfl, cA0⟩ : ∃ b off, aA = some ⟨b, off, none⟩ ∧ wr.cell? ⟨b, off + j * 4 + 2, none⟩ = some (.int .i64 A[j].Total) := by
            obtain ⟨b, off, e, _, _, c, _⟩ := (qA.mono hb).ev j hjA
            exact ⟨b, off, e, c⟩
          have hfalse : sn[j] = false := by
            cases h : sn[j] with
            | false => rfl
            | true =>
              exfalso
              have h1 := hsn.out j hjn h
              obtain ⟨k, hk, hkj⟩ := List.mem_iff_getElem.1 h1
              simp at hk
              rw [List.getElem_take] at hkj
              have h2 := sorted_ne HSS.out k i (by omega) hlt
              rw [hkj, hj] at h2
              exact wR_asymm A _ _ h2 h2
          have cn := hown.cellAt' eB_len j 0 hjn (by omega)
          have fn := hown.free j
          rw [hfalse] at cn
          simp at cn
          have HJ := Lib.hid hj
          have HN := Lib.hid hfalse
          have hrel2 : ∀ q : Nat, ∃ (i2 : Nat) (sn2 : List Bool), Value.int .i64 ((i : Int) + 1) = .int .i64 i2 ∧ i2 ≤ S.length ∧ Own w6.heap.size 4 eB 1 ((wr.drewN q).setCell ⟨w6.heap.size, j, none⟩ (.bool true)) (.slice (some ⟨w6.heap.size, 0, none⟩) A.length A.length) sn2 ∧ Below w6.heap.size w6 ((wr.drewN q).setCell ⟨w6.heap.size, j, none⟩ (.bool true)) ∧
              Hid (sn2.length = A.length) ∧ Hid (∀ j (h : j < sn2.length), sn2[j] = true → (j : Int) ∈ S.take i2) ∧ S.length - i2 < S.length - i := by
            intro q
            refine ⟨i + 1, sn.set j true, by go_num, by omega, ?_, (below_drewN hb q).setCell (Nat.le_refl _) _, ?_, seen_step S sn i j hlt hj hsn.out, by omega⟩
            · have := (hown.below (below_drewN (Below.refl _ _) q)).store eB_len j 0 hjn (by omega) (.bool true) true (by simp)
              simpa using this
            · show _ = _
              rw [List.length_set]; exact hsl.out
          have HREL2 := Lib.hid hrel2
          clear hj hfalse hrel2 hsn hsl hown
          have HTJ : Hid (totalAt A j = A[j].Total) := totalAt_eq A j hjA
          have g0 : decide ((j : Int) < 0) = false := by simp <;> omega
          have g1 : decide (A.length ≤ j) = false := by simp <;> omega
          by_cases hi0 : i = 0
          · have hi1 : ¬ 0 < i := by omega
            have g2 : decide (0 < i) = false := by simp <;> omega
            have g3 : decide ((0 : Int) < i) = false := by simp <;> omega
            clear hi0
            generalize A[j].Total = tj at *
            go_wp2_with fail
            dsimp only [List.append]
            go_quiet (fail)
            go_wp2_with fail
            go_roundw
            case measure => simp [intOf]; omega
            case rel =>
              obtain ⟨i2, sn2, e1, e2, e3, e4, e5, e6, e7⟩ := HREL2.out nq
              exact ⟨i2, sn2, e1, e2, e3, e4, e5, e6⟩
          · have hi1 : 0 < i := by omega
            have g2 : decide (0 < i) = true := by simp <;> omega
            have g3 : decide ((0 : Int) < i) = true := by simp <;> omega
            have hip : i - 1 < S.length := by omega
            have hpm := HSM.out _ (List.getElem_mem hip)
            obtain ⟨jp, hjp⟩ : ∃ jp : Nat, S[i - 1] = jp := ⟨S[i - 1].toNat, by omega⟩
            have cSp := (qS.mono hb).intAt (i - 1) hip
            have hw := sorted_ne HSS.out (i - 1) i (by omega) hlt
            rw [hjp] at cSp hpm hw
            rw [HJ.out] at hw
            have hjpA : jp < A.length := by omega
            have cAp := (qA.mono hb).evTotal jp hjpA
            unfold wR at hw
            rw [totalAt_eq A jp hjpA, totalAt_eq A j hjA] at hw
            clear hjp hi0
            generalize A[j].Total = tj at *
            generalize A[jp].Total = tp at *
            rcases hw with hw | ⟨hw, hw2⟩
            · have k1 : decide (tp < tj) = false := by simp; omega
              have k2 : (tp == tj) = false := by simp; omega
              go_wp2_with fail
              have w1' : IntKind.i64.wrap ((i : Int) - 1) = (i : Int) - 1 := IntWalk.i64_in _ (by omega)
              have w2' : ((i : Int) - 1).toNat = i - 1 := by omega
              have w3' : 0 ≤ (i : Int) - 1 := by omega
              have w4' : (i : Int) - 1 < S.length := by omega
              dsimp only [List.append]
              go_quiet (fail)
              clear w1' w2' w3' w4'
              go_wp2_with fail
              go_roundw
              case measure => simp [intOf]; omega
              case rel =>
                obtain ⟨i2, sn2, e1, e2, e3, e4, e5, e6, e7⟩ := HREL2.out nq
                exact ⟨i2, sn2, e1, e2, e3, e4, e5, e6⟩
            · subst hw
              have k1 : decide (tp < tp) = false := by simp
              have k2 : (tp == tp) = true := by simp
              have k3 : decide (j < jp) = false := by simp; omega
              go_wp2_with fail
              have w1' : IntKind.i64.wrap ((i : Int) - 1) = (i : Int) - 1 := IntWalk.i64_in _ (by omega)
              have w2' : ((i : Int) - 1).toNat = i - 1 := by omega
              have w3' : 0 ≤ (i : Int) - 1 := by omega
              have w4' : (i : Int) - 1 < S.length := by omega
              dsimp only [List.append]
              go_quiet (fail)
              clear w1' w2' w3' w4'
              go_wp2_with fail
              go_roundw
              case measure => simp [intOf]; omega
              case rel =>
                obtain ⟨i2, sn2, e1, e2, e3, e4, e5, e6, e7⟩ := HREL2.out nq
                exact ⟨i2, sn2, e1, e2, e3, e4, e5, e6⟩
        · have hbb := hb6.trans (hb.mono hb6.size)
          have hA : IsEvs wr (.slice aA A.length cA) A := ⟨aA, cA, rfl, qA1, qA2, qA.mono hb⟩
          clear hsn hsl hown HSS HSM qS qS1 qS2 hb7 hb7' hown7 hlt7 hlt6
          go_wp2_with fail
          refine Calls.go hbb (yearly_any A _ a2 (1 + a3) _ hA) ?_
          rintro e w8 ⟨vy, rfl, hownY⟩ hb8' hb8
          rw [HY.out] at hownY ⊢
          have hA := hA.mono hb8'
          obtain ⟨aA2, cA2, heA, _, _, qA8⟩ := hA
          simp only [Value.slice.injEq] at heA
          obtain ⟨rfl, _, rfl⟩ := heA
          have hY := hownY.isL ePr_len
          obtain ⟨aY, cY, rfl⟩ := hownY.isSlice
          obtain ⟨aY2, cY2, heY, qY1, qY2, qY⟩ := hY
          simp only [Value.slice.injEq] at heY
          obtain ⟨rfl, _, rfl⟩ := heY
          clear hownY hb8' hb hsz
          go_wp2_with fail
          go_loopw [21, 22, 185] (fun s21 s22 s185 wr => ∃ (i nx : Nat) (prev : Option Int), s185 = .int .i64 i ∧ i ≤ out.length ∧ s21 = .int .i64 nx ∧ s22 = .int .i64 nx ∧ nx ≤ A.length ∧ Below w8.heap.size w8 wr ∧
            Hid (YOK (fun i => (splitM (a2 + (1 + a3) * (A.getD i default).From)).2) A.length prev nx (out.drop i)) ∧ Hid (∀ (h : i - 1 < out.length), 0 < i → prev = some out[i - 1].1)) (fun _ _ i _ => out.length - (intOf i).toNat)
          case atStart => exact ⟨0, 0, none, rfl, Nat.zero_le _, rfl, rfl, Nat.zero_le _, Below.refl _ _, HYOK.out, by intro _ h; exact absurd h (Nat.lt_irrefl _)⟩
          case round =>
            as_aux_lemma =>
            obtain ⟨i, nx, prev, rfl, hi, rfl, rfl, hnx, hb, hyk, hpv⟩ := hrel
            have hsz := hb.size
            by_cases hlt : i < out.length
            · obtain ⟨bY, offY, rfl, cy1, cy2⟩ := (qY.mono hb).pr i hlt
              have hyk := hyk.out
              rw [List.drop_eq_getElem_cons hlt] at hyk
              have hpm : i - 1 < out.length := by omega
              have cyp : 0 < i → wr.cell? ⟨bY, offY + (i - 1) * 2, none⟩ = some (.int .i64 out[i - 1].1) := by
                intro _
                obtain ⟨b', off', e, c, _⟩ := (qY.mono hb).pr (i - 1) hpm
                simp only [Option.some.injEq, Addr.mk.injEq] at e
                obtain ⟨rfl, rfl, _⟩ := e
                exact c
              have hpv' := hpv.out hpm
              generalize out[i - 1] = yp at *
              generalize hrs : out.drop (i + 1) = rs at *
              have HRS := Lib.hid hrs
              clear hrs hpv
              generalize hyc : out[i] = yc at *
              obtain ⟨y, c⟩ := yc
              have HYC := Lib.hid hyc
              clear hyc
              obtain ⟨n, hcn, n1, n2, n3, n4, n5⟩ := hyk
              subst hcn
              obtain ⟨yp, yq⟩ := yp
              simp only at cy1 cy2 cyp hpv'
              have N4 := Lib.hid n4; have N5 := Lib.hid n5
              have hlt1 : 0 < i → yp < y := fun h => n3 yp (hpv' h)
              clear n3 n4 n5 hpv'
              have hE0 : ∀ x ∈ (A.drop nx).take (nx + n - nx), 0 ≤ x.From ∧ x.From ≤ 10000 ∧ splitM (a2 + (1 + a3) * x.From) = (0, y) := by
                intro x hx
                have hxA : x ∈ A := List.mem_of_mem_drop (List.mem_of_mem_take hx)
                obtain ⟨q, hq, rfl⟩ := List.mem_iff_getElem.1 hx
                simp only [List.length_take, List.length_drop] at hq
                have e1 : ((A.drop nx).take (nx + n - nx))[q]'(by simp; omega) = A[nx + q]'(by omega) := by simp
                rw [e1] at hxA ⊢
                obtain ⟨f1, f2⟩ := HF.out _ hxA
                refine ⟨f1, f2, ?_⟩
                have y1 := HZ.out _ hxA
                have y2 := N4.out (nx + q) (by omega) (by omega)
                simp only [List.getD, List.getElem?_eq_getElem (show nx + q < A.length by omega), Option.getD_some] at y2
                exact Prod.ext y1 y2
              have hEl0 : ((A.drop nx).take (nx + n - nx)).length = n := by simp; omega
              have hAr : IsEvs wr (.slice aA A.length cA) A := ⟨aA, cA, rfl, qA1, qA2, qA8.mono hb⟩
              obtain ⟨aE, cE, qE, qE1, qE2, hrunE⟩ := sub_lh undEvs' szEv hAr nx (nx + n) nx ((nx : Int) + n) rfl (by omega) (by omega) n2
              generalize (A.drop nx).take (nx + n - nx) = E at *
              have HE := Lib.hid hE0; have HEL := Lib.hid hEl0
              clear hE0 hEl0 hAr N4
              have hEle : E.length ≤ 200 := by have := HEL.out; omega
              have g0 : decide ((n : Int) < 1) = false := by simp; omega
              have g1 : decide (A.length < nx + n) = false := by simp; omega
              have hcase : (0 < i ∧ yp < y) ∨ ¬ 0 < i := by
                by_cases h : 0 < i
                · exact .inl ⟨h, hlt1 h⟩
                · exact .inr h
              clear hlt1
              have hdone : ∀ (nq : Nat), True := fun _ => trivial
              clear hdone
              rcases hcase with ⟨hi0, hlt1⟩ | hi0
              · have g2 : decide (y ≤ yp) = false := by simp; omega
                have g3 : decide (0 < i) = true := by simp <;> omega
                have g4 : decide ((0 : Int) < i) = true := by simp <;> omega
                have cyp := cyp hi0
                go_wp2_with fail
                have w1' : IntKind.i64.wrap ((i : Int) - 1) = (i : Int) - 1 := IntWalk.i64_in _ (by omega)
                have w5' : IntKind.i64.wrap ((nx : Int) + n) = (nx : Int) + n := IntWalk.i64_in _ (by omega)
                have w2' : ((i : Int) - 1).toNat = i - 1 := by omega
                have w3' : 0 ≤ (i : Int) - 1 := by omega
                have w4' : (i : Int) - 1 < out.length := by omega
                go_quiet (fail)
                clear w1' w2' w3' w4' w5'
                go_wp2_with fail
                have k0 : ((wr.alloc (.cells #[.int .i64 y, .int .i64 n] 62)).drewN nq).cell? ⟨wr.heap.size, 0, none⟩ = some (.int .i64 y) := by simp [go_sem]
                have k1 : ((wr.alloc (.cells #[.int .i64 y, .int .i64 n] 62)).drewN nq).cell? ⟨wr.heap.size, 1, none⟩ = some (.int .i64 n) := by simp [go_sem]
                have hbX : Below w8.heap.size w8 ((wr.alloc (.cells #[.int .i64 y, .int .i64 n] 62)).drewN nq) := below_drewN (hb.alloc hb.size _) _
                have qE24 := qE.mono (below_drewN ((Below.refl _ _).alloc (Nat.le_refl _) (.cells #[.int .i64 y, .int .i64 n] 62)) nq)
                have hz : wr.heap.size < ((wr.alloc (.cells #[.int .i64 y, .int .i64 n] 62)).drewN nq).heap.size := by simp
                generalize (wr.alloc (.cells #[.int .i64 y, .int .i64 n] 62)).drewN nq = W24 at *
                clear hrunE cy1 cy2 qE
                generalize wr.heap.size = BX at *
                go_loopw [225] (fun s225 wr => ∃ j : Nat, s225 = .int .i64 j ∧ j ≤ E.length ∧ Below W24.heap.size W24 wr) (fun i _ => E.length - (intOf i).toNat)
                case atStart => exact ⟨0, rfl, Nat.zero_le _, Below.refl _ _⟩
                case round =>
                  as_aux_lemma =>
                  obtain ⟨j, rfl, hj, hbi⟩ := hrel
                  have hszi := hbi.size
                  by_cases hjl : j < E.length
                  · obtain ⟨bE, offE, rfl, d1, d2, d3, d4⟩ := (qE24.mono hbi).ev j hjl
                    obtain ⟨f1, f2, f3⟩ := HE.out _ (List.getElem_mem hjl)
                    generalize E[j] = x at *
                    obtain ⟨x1, x2, x3, x4⟩ := x
                    simp only at d1 d2 d3 d4 f1 f2 f3
                    have m0 : 0 ≤ x1 * (1 + a3) := Int.mul_nonneg f1 (by omega)
                    have m1 : x1 * (1 + a3) ≤ 10000 * 65536 := Int.mul_le_mul f2 (by omega) (by omega) (by omega)
                    have hbB : Below W24.heap.size W24 (wr.alloc (.cells #[.int .i64 x1, .int .i64 x2, .int .i64 x3, .int .i64 x4] 33)) := hbi.alloc hszi _
                    have F3 := Lib.hid f3
                    clear f3
                    go_wp2_with fail
                    refine Calls.go hbB (split_any _ _) ?_
                    rintro e w10 ⟨mm, dd, sc, rfl⟩ hb10' hb10
                    rw [Int.mul_comm x1 (1 + a3), F3.out]
                    have e0 : w10.cell? ⟨BX, 0, none⟩ = some (.int .i64 y) := (hb10.cell (p := ⟨BX, 0, none⟩) hz).trans k0
                    have hsz10 := hb10.size
                    clear hb10' d1 d2 d3 d4 m0 m1 F3
                    go_wp2_with fail
                    go_roundw
                    case measure => simp [intOf]; omega
                    case rel => exact ⟨j + 1, by go_num, by omega, by repeat' (first | exact Below.refl _ _ | assumption | refine Below.more ?_ ?_ _ | refine Below.alloc ?_ ?_ _ | refine Below.drew ?_ | refine below_drewN ?_ _ | refine Below.setCell ?_ ?_ _ | exact Below.size (by assumption) | (simp [go_sem, size_more]; done) | (simp [go_sem, size_more]; omega))⟩
                  · have e0 : wr.cell? ⟨BX, 0, none⟩ = some (.int .i64 y) := (hbi.cell (p := ⟨BX, 0, none⟩) hz).trans k0
                    have e1 : wr.cell? ⟨BX, 1, none⟩ = some (.int .i64 n) := (hbi.cell (p := ⟨BX, 1, none⟩) hz).trans k1
                    go_wp2_with fail
                    go_roundw
                    case measure => simp [intOf]; omega
                    case rel => exact ⟨i + 1, nx + n, some y, by go_num, by omega, by go_num, by go_num, n2, hbX.trans (hbi.mono hbX.size), by rw [HRS.out]; exact N5.out, by intro h _; simp only [Nat.add_sub_cancel, HYC.out]⟩
              · have g3 : decide (0 < i) = false := by simp <;> omega
                have g4 : decide ((0 : Int) < i) = false := by simp <;> omega
                clear cyp
                go_wp2_with fail
                have w5' : IntKind.i64.wrap ((nx : Int) + n) = (nx : Int) + n := IntWalk.i64_in _ (by omega)
                go_quiet (fail)
                clear w5'
                go_wp2_with fail
                have k0 : ((wr.alloc (.cells #[.int .i64 y, .int .i64 n] 62)).drewN nq).cell? ⟨wr.heap.size, 0, none⟩ = some (.int .i64 y) := by simp [go_sem]
                have k1 : ((wr.alloc (.cells #[.int .i64 y, .int .i64 n] 62)).drewN nq).cell? ⟨wr.heap.size, 1, none⟩ = some (.int .i64 n) := by simp [go_sem]
                have hbX : Below w8.heap.size w8 ((wr.alloc (.cells #[.int .i64 y, .int .i64 n] 62)).drewN nq) := below_drewN (hb.alloc hb.size _) _
                have qE24 := qE.mono (below_drewN ((Below.refl _ _).alloc (Nat.le_refl _) (.cells #[.int .i64 y, .int .i64 n] 62)) nq)
                have hz : wr.heap.size < ((wr.alloc (.cells #[.int .i64 y, .int .i64 n] 62)).drewN nq).heap.size := by simp
                generalize (wr.alloc (.cells #[.int .i64 y, .int .i64 n] 62)).drewN nq = W24 at *
                clear hrunE cy1 cy2 qE
                generalize wr.heap.size = BX at *
                go_loopw [225] (fun s225 wr => ∃ j : Nat, s225 = .int .i64 j ∧ j ≤ E.length ∧ Below W24.heap.size W24 wr) (fun i _ => E.length - (intOf i).toNat)
                case atStart => exact ⟨0, rfl, Nat.zero_le _, Below.refl _ _⟩
                case round =>
                  as_aux_lemma =>
                  obtain ⟨j, rfl, hj, hbi⟩ := hrel
                  have hszi := hbi.size
                  by_cases hjl : j < E.length
                  · obtain ⟨bE, offE, rfl, d1, d2, d3, d4⟩ := (qE24.mono hbi).ev j hjl
                    obtain ⟨f1, f2, f3⟩ := HE.out _ (List.getElem_mem hjl)
                    generalize E[j] = x at *
                    obtain ⟨x1, x2, x3, x4⟩ := x
                    simp only at d1 d2 d3 d4 f1 f2 f3
                    have m0 : 0 ≤ x1 * (1 + a3) := Int.mul_nonneg f1 (by omega)
                    have m1 : x1 * (1 + a3) ≤ 10000 * 65536 := Int.mul_le_mul f2 (by omega) (by omega) (by omega)
                    have hbB : Below W24.heap.size W24 (wr.alloc (.cells #[.int .i64 x1, .int .i64 x2, .int .i64 x3, .int .i64 x4] 33)) := hbi.alloc hszi _
                    have F3 := Lib.hid f3
                    clear f3
                    go_wp2_with fail
                    refine Calls.go hbB (split_any _ _) ?_
                    rintro e w10 ⟨mm, dd, sc, rfl⟩ hb10' hb10
                    rw [Int.mul_comm x1 (1 + a3), F3.out]
                    have e0 : w10.cell? ⟨BX, 0, none⟩ = some (.int .i64 y) := (hb10.cell (p := ⟨BX, 0, none⟩) hz).trans k0
                    have hsz10 := hb10.size
                    clear hb10' d1 d2 d3 d4 m0 m1 F3
                    go_wp2_with fail
                    go_roundw
                    case measure => simp [intOf]; omega
                    case rel => exact ⟨j + 1, by go_num, by omega, by repeat' (first | exact Below.refl _ _ | assumption | refine Below.more ?_ ?_ _ | refine Below.alloc ?_ ?_ _ | refine Below.drew ?_ | refine below_drewN ?_ _ | refine Below.setCell ?_ ?_ _ | exact Below.size (by assumption) | (simp [go_sem, size_more]; done) | (simp [go_sem, size_more]; omega))⟩
                  · have e0 : wr.cell? ⟨BX, 0, none⟩ = some (.int .i64 y) := (hbi.cell (p := ⟨BX, 0, none⟩) hz).trans k0
                    have e1 : wr.cell? ⟨BX, 1, none⟩ = some (.int .i64 n) := (hbi.cell (p := ⟨BX, 1, none⟩) hz).trans k1
                    go_wp2_with fail
                    go_roundw
                    case measure => simp [intOf]; omega
                    case rel => exact ⟨i + 1, nx + n, some y, by go_num, by omega, by go_num, by go_num, n2, hbX.trans (hbi.mono hbX.size), by rw [HRS.out]; exact N5.out, by intro h _; simp only [Nat.add_sub_cancel, HYC.out]⟩
            · have hyk := hyk.out
              rw [List.drop_eq_nil_of_le (by omega)] at hyk
              simp only [YOK] at hyk
              subst hyk
              go_wp2_with fail
              go_ret
              exact ⟨rfl, hb8.trans (hb.mono hb8.size)⟩

/-! ### The row -/
set_option maxRecDepth 100000 in
theorem lifted (os : Os) (started : os.Started) (H : Type) (enc : TypeId × Value → H) :
    ReturnsInHanded {} Try.checked os 7 .any (Rows.overflowRanksSpec.pre6 enc Try.prog Try.f7 Rows.overflowRanksRow.domain false) (Rows.overflowRanksSpec.post enc Try.prog Try.f7 false true false false) := by
  refine returnsInHanded_of_change (C := Try.checked) own started (by kernel_rfl) Try.func7
    (ChangeSpec.witness6 (enc := enc) (C := Try.checked) false ⟨#[], #[.slice none 0 0, .int .u8 0, .int .i32 0, .int .u16 0], []⟩ 8 (by kernel_rfl) (by kernel_rfl) (by kernel_rfl) (by kernel_rfl)) ?_
  intro W base args ds gs before hval0 hW hcnd _
  have hval : ∀ (j : Nat) t v, Try.f7.params[j]? = some t → args[j]? = some v → Value.okWide Try.prog W .any base t v := hval0
  have hW' := hW
  obtain ⟨p, q, hA0, hV, rfl, hfz, hnd⟩ := hW
  have hA : DataW.TrodAll enc Try.prog W 0 (fun _ => true) true Try.f7.params.toList args.toList ds p := hA0
  rw [Try.params7] at hA hval
  obtain ⟨v0, vs0, d0, ds0, p0, q0, hargs, rfl, rfl, h0, r0⟩ := trodAll_cons hA
  obtain ⟨v1, vs1, d1, ds1, p1, q1, rfl, rfl, rfl, h1, r1⟩ := trodAll_cons r0
  obtain ⟨v2, vs2, d2, ds2, p2, q2, rfl, rfl, rfl, h2, r2⟩ := trodAll_cons r1
  obtain ⟨v3, vs3, d3, ds3, p3, q3, rfl, rfl, rfl, h3, r3⟩ := trodAll_cons r2
  obtain ⟨rfl, rfl, rfl⟩ := trodAll_nil r3
  obtain rfl : args = #[v0, v1, v2, v3] := by cases args; simp_all
  obtain ⟨rfl, rfl⟩ := trodVars_none hV
  obtain ⟨a0, len0, cap0, rfl⟩ := okWide_slice Try.underlying35 (hval 0 35 v0 rfl rfl)
  have k0 := h0
  have lt0 : ∀ x ∈ p0, x.block < W.heap.size := by obtain ⟨m, hm⟩ := k0; exact DataW.trod_lt m _ _ _ hm
  obtain ⟨z0, w0⟩ : ∃ zs, IsRow .u32 W a0 len0 cap0 zs := by
    obtain ⟨fuel, hf⟩ := h0
    rcases open_ints Try.underlying35 Try.underlying36 (by kernel_rfl) hf with ⟨hcs, _⟩ | ⟨x, l, c, zs, hcs, _, hl, hm, hz, _, hcell, hwz⟩
    · simp [Value.cells] at hcs
      obtain ⟨rfl, rfl, rfl⟩ := hcs
      exact ⟨[], .inl ⟨rfl, rfl, rfl, rfl⟩⟩
    · simp [Value.cells] at hcs
      obtain ⟨rfl, rfl, rfl⟩ := hcs
      exact ⟨zs, .inr ⟨_, rfl, hl, hm, by simpa using hz, hcell, hwz⟩⟩
  obtain ⟨a1, rfl, rfl, rfl, w1⟩ := open_int Try.underlying5 (hval 1 5 v1 rfl rfl) h1
  obtain ⟨a2, rfl, rfl, rfl, w2⟩ := open_int Try.underlying21 (hval 2 21 v2 rfl rfl) h2
  obtain ⟨a3, rfl, rfl, rfl, w3⟩ := open_int Try.underlying54 (hval 3 54 v3 rfl rfl) h3
  clear hA0 hval0
  refine (walk a0 len0 cap0 z0 a1 a2 a3 W w0 w1 w2 w3).mono fun e W' ⟨he, bel⟩ => ?_
  subst he
  exact ⟨_, rfl, _, _, _, [], _, [], hW', trodAll_mk1 (shut_bool Try.underlying4 _), (trodAll_cons_mk (Below.trod laidOut (by kernel_rfl) (of_decide_eq_true (by kernel_rfl)) k0 bel lt0) (trodAll_cons_mk (shut_int Try.underlying5 w1) (trodAll_cons_mk (shut_int Try.underlying21 w2) (trodAll_cons_mk (shut_int Try.underlying54 w3) trodAll_mk0)))), rfl, bel.frame _, fun h => by cases h⟩

theorem over : Rows.overflowRanksRow.holds Try.pinned (OpenSpec.ofChange Rows.overflowRanksSpec) :=
  OpenClaim.holds_of_wide 7 Try.f7 rfl rfl rfl rfl rfl rfl rfl ⟨rfl, rfl, rfl, rfl, rfl⟩ rfl rfl rfl rfl rfl (by kernel_rfl) Try.func7 (by kernel_rfl)
    (of_decide_eq_true (by kernel_rfl)) (by unfold Func.isWrapper; first | (rw [if_pos (by decide +kernel)]; kernel_rfl) | (rw [if_neg (by decide +kernel)]; exact ⟨rfl, rfl⟩))
    (fun os started H enc _ => lifted os started H enc)

end Go.Proofs.Ytbkihndidbmhoaa.overflowRanks
namespace Go.Proofs.Ytbkihndidbmhoaa
/-- The statement. -/
theorem overflowRanks_holds : Rows.OverflowRanksSaid := overflowRanks.over
#print axioms overflowRanks_holds
end Go.Proofs.Ytbkihndidbmhoaa
