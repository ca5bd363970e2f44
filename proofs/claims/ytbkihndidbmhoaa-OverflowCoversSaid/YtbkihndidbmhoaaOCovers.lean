/- The law OverflowCovers returns true for every list of volumes below 2^32 and every dry time, and leaves its arguments as they were. Conditions: none beyond the row's own. -/
import Derived.Test.YtbkihndidbmhoaaRows
import Derived.WalkKit
import Derived.ProofKit
import Derived.OpenShut
import Derived.ShutString
import Derived.ChangeOld
import Derived.Below
import Derived.Test.YtbkihndidbmhoaaOv9
import Derived.Test.YtbkihndidbmhoaaLaw5
import Derived.Test.YtbkihndidbmhoaaRowk
namespace Go.Proofs.Ytbkihndidbmhoaa.overflowCovers
open Go.ChangeShapes Go.WideShapes Go.ChangeAt Go.RowKit
open Go.ChangeMaps (open_string shut_string)
set_option linter.unusedVariables false

theorem own : ownKnob Try.prog.godebug = none := by kernel_rfl
theorem laidOut : laidOutB Try.prog = true := by kernel_rfl

set_option maxRecDepth 100000 in
set_option maxHeartbeats 4000000 in
theorem walk (a0 : Option Addr) (len0 cap0 : Nat) (z0 : List Int) (a1 : Int) (w : World) (w0 : IsRow .u32 w a0 len0 cap0 z0) (w1 : (Lit.int .u8 a1).wf = true) :
    Calls Try.prog 5 #[.slice a0 len0 cap0, .int .u8 a1] w fun e w' => e = .returned (.bool true) ∧ Below w.heap.size w w' := by
  have hv : IsU32s w (.slice a0 len0 cap0) (z0.take len0) := w0.list
  have hr : ∀ x ∈ z0.take len0, 0 ≤ x ∧ x ≤ 4294967295 := fun x hx => fits_u32 (w0.fits x hx)
  have b1 := fits_u8 w1
  generalize z0.take len0 = xs at *
  obtain ⟨a, cap, he, hcap, hbig, hs⟩ := hv
  simp only [Value.slice.injEq] at he
  obtain ⟨rfl, rfl, rfl⟩ := he
  have hv : IsU32s w (.slice a0 xs.length cap0) xs := ⟨a0, cap0, rfl, hcap, hbig, hs⟩
  clear w0 w1 hs
  by_cases hl : 200 < xs.length
  · go_enter Try.func5, Try.ntmps5
    go_wp2_with fail
    refine Calls.to (awake_any w) ?_
    rintro e w1 rfl hb1
    go_wp2_with fail
    go_ret
    exact ⟨rfl, hb1⟩
  · have Hr := Lib.hid hr
    clear hr
    obtain ⟨d, hd⟩ : ∃ d, 1 + a1 % 20 = d := ⟨_, rfl⟩
    have d1 : 1 ≤ d := by omega
    have d2 : d ≤ 20 := by omega
    obtain ⟨A, S, mm, hS1, hcov, hsum, hcnt, hSb, hpos, hmm, hcount⟩ := covers_all d xs (by omega) Hr.out d1
    have HS1 := Lib.hid hS1; have HCV := Lib.hid hcov; have HSM := Lib.hid hsum; have HP := Lib.hid hpos; have HCT := Lib.hid hcount
    clear hS1 hcov hsum hpos hcount
    have S0 : 0 ≤ S := by rw [← HSM.out]; exact lsumE_nonneg A HP.out
    have t1 : decide (xs.length < A.length) = false := by simp; omega
    have hd' := Lib.hid hd
    go_enter Try.func5, Try.ntmps5
    go_wp2_with fail
    refine Calls.to (awake_any w) ?_
    rintro e w1 rfl hb1
    go_wp2_with fail
    refine Calls.to (small_any xs _ _ (hv.mono hb1) (by omega) Hr.out) ?_
    rintro e w2 ⟨v1, rfl, hown1⟩ hb2
    have hbb2 := hb1.trans (hb2.mono hb1.size)
    have hx1 := hown1.isL (fun _ => rfl)
    obtain ⟨av, cv, rfl⟩ := hown1.isSlice
    clear hown1
    go_wp2_with fail
    refine Calls.to (spillsX_any xs _ d _ hx1) ?_
    rintro e w3 ⟨va, rfl, hownA⟩ hb3
    rw [HS1.out] at hownA ⊢
    have hbb3 := hbb2.trans (hb3.mono hbb2.size)
    have hx1 := hx1.mono hb3
    have hA := hownA.isL eEv_len
    clear hownA
    obtain ⟨aA, cA, rfl, qA1, qA2, qA⟩ := hA
    obtain ⟨av', cv', hve, qx1, qx2, qx⟩ := hx1
    simp only [Value.slice.injEq] at hve
    obtain ⟨rfl, _, rfl⟩ := hve
    clear hd
    go_wp2_with fail
    go_loopw [9, 10, 11, 57] (fun s9 s10 s11 s57 wr => ∃ (k p : Nat) (sm en : Int), k ≤ A.length ∧ s57 = .int .i64 k ∧ s9 = .int .i64 sm ∧ s10 = .int .i64 p ∧ s11 = .int .i64 en ∧ p ≤ xs.length ∧ 0 ≤ sm ∧ -20 ≤ en ∧ en ≤ 200 ∧ Below w3.heap.size w3 wr ∧
        Hid (cover d xs p en (A.drop k)) ∧ Hid (sm + lsumE (A.drop k) = S)) (fun _ _ _ i _ => A.length - (intOf i).toNat)
    case atStart => exact ⟨0, 0, 0, -d, Nat.zero_le _, rfl, rfl, rfl, rfl, Nat.zero_le _, by omega, by omega, by omega, Below.refl _ _, HCV.out, by show (0 : Int) + lsumE A = S; rw [HSM.out]; omega⟩
    case round =>
      obtain ⟨k, p, sm, en, hk, rfl, rfl, rfl, rfl, hp, hsm, he1, he2, hb, hc, hm⟩ := hrel
      have hsz := hb.size
      by_cases hlt : k < A.length
      · obtain ⟨bA, offA, rfl, c1, c2, c3, c4⟩ := (qA.mono hb).ev k hlt
        have hdrop : A.drop k = A[k] :: A.drop (k + 1) := List.drop_eq_getElem_cons hlt
        have hc := hc.out
        have hm := hm.out
        rw [hdrop] at hc hm
        obtain ⟨⟨f, t, he⟩, hc'⟩ := hc
        have hrest : 0 ≤ lsumE (A.drop (k + 1)) := lsumE_nonneg _ (fun x hx => HP.out x (List.mem_of_mem_drop hx))
        obtain ⟨rest, hrs⟩ : ∃ rest, A.drop (k + 1) = rest := ⟨_, rfl⟩
        rw [hrs] at hc' hm hrest
        have HRS := Lib.hid hrs
        clear hrs
        generalize A[k] = x at *
        obtain ⟨x1, x2, x3, x4⟩ := x
        simp only [lsumE] at hm
        have e1 := he.f1; have e2 := he.t1
        simp only at e1 e2 c1 c2 c3 c4 hc'
        subst e1; subst e2
        obtain ⟨t', rfl⟩ : ∃ t', t = t' + 1 := ⟨t - 1, by have := he.ft; omega⟩
        have g1 := he.pf; have g2 := he.tl; have g3 := he.ft; have g4 := he.df; have g5 := he.nf; have g6 := he.nt
        have hlf : f < xs.length := by omega
        have hlt' : t' < xs.length := by omega
        have qxr := qx.mono hb
        have hvx : IsInts wr (.slice av xs.length cv) xs := ⟨_, cv, rfl, qx1, qx2, qxr⟩
        obtain ⟨aS1, cS1, qS1, qS11, qS12, hrun1⟩ := sub_lh undInts' szInt hvx p f p f rfl rfl g1 (by omega)
        obtain ⟨aS2, cS2, qS2, qS21, qS22, hrun2⟩ := sub_lh undInts' szInt hvx f (t' + 1) f (t' + 1) rfl (by omega) (by omega) g2
        clear hvx
        obtain ⟨bx, offx, rfl, cf⟩ := qxr.int f hlf
        have ct := qxr.intAt t' hlt'
        clear qxr
        have Z1 := he.zs
        have ROK := he.ok
        have HT := he.tot
        have HK := he.pk
        have HY : ∀ n ∈ seg xs f (t' + 1), 0 ≤ n ∧ n ≤ 4294967295 := fun n hn => Hr.out n (mem_seg hn)
        have HL := seg_len xs f (t' + 1) g2
        clear he
        simp only at HT HK
        rw [show xs.getD f 0 = xs[f] from by simp [List.getD, List.getElem?_eq_getElem hlf]] at g5
        rw [Nat.add_sub_cancel, show xs.getD t' 0 = xs[t'] from by simp [List.getD, List.getElem?_eq_getElem hlt']] at g6
        unfold seg at *
        generalize (xs.drop p).take (f - p) = ys1 at *
        generalize (xs.drop f).take (t' + 1 - f) = ys2 at *
        generalize xs[f] = yf at *
        generalize xs[t'] = yt at *
        have hL2 : ys2.length ≤ 200 := by omega
        have Z1 := Lib.hid Z1; have ROK := Lib.hid ROK; have HT := Lib.hid HT; have HK := Lib.hid HK; have HY := Lib.hid HY
        have hc2 : cover d xs (t' + 1) ((t' : Int) + 1) rest := by simpa using hc'
        have HC := Lib.hid hc2
        have HM := Lib.hid hm
        have x3b : 0 ≤ x3 := by rw [HT.out]; exact lsum_nonneg _ (fun n hn => (HY.out n hn).1)
        have smb : sm + x3 ≤ 858993459000 := by omega
        clear hc2 hc' hc hm HL hdrop
        have k1 : decide (f < p) = false := by simp; omega
        have k2 : decide (xs.length < t' + 1) = false := by simp; omega
        have k3 : decide (t' + 1 ≤ f) = false := by simp; omega
        have k4 : decide ((f : Int) - en < d) = false := by simp; omega
        have k5 : (yf == 0) = false := by simp; omega
        have k6 : (yt == 0) = false := by simp; omega
        go_wp2_with fail
        go_loop [110] (fun i => ∃ j : Nat, j ≤ ys1.length ∧ i = .int .i64 j) (fun i => ys1.length - (intOf i).toNat)
        case atStart => exact ⟨0, Nat.zero_le _, rfl⟩
        case round =>
          obtain ⟨j, hj, rfl⟩ := hrel
          by_cases hjl : j < ys1.length
          · obtain ⟨b1', o1', rfl, e1⟩ := qS1.int j hjl
            rw [Z1.out _ (List.getElem_mem hjl)] at e1
            go_wp2_with fail
            go_round
            case rel => exact ⟨j + 1, by omega, by go_num⟩
            case measure => simp [intOf]; omega
          · go_wp2_with fail
            go_loop [16, 17, 18, 124] (fun s16 s17 s18 i => ∃ (j : Nat) (z tt pk : Int), j ≤ ys2.length ∧ i = .int .i64 j ∧ s16 = .int .i64 z ∧ s17 = .int .i64 tt ∧ s18 = .int .i64 pk ∧ 0 ≤ z ∧ z ≤ j ∧ 0 ≤ tt ∧ tt ≤ 4294967295 * j ∧
              Hid (runOK d z (ys2.drop j)) ∧ Hid (tt + lsum (ys2.drop j) = x3) ∧ Hid (lmax pk (ys2.drop j) = x4)) (fun _ _ _ i => ys2.length - (intOf i).toNat)
            case atStart => exact ⟨0, 0, 0, 0, Nat.zero_le _, rfl, rfl, rfl, rfl, by omega, by omega, by omega, by omega, ROK.out, by show (0 : Int) + lsum ys2 = x3; rw [HT.out]; omega, HK.out.symm⟩
            case round =>
              obtain ⟨j2, z, tt, pk, hj2, rfl, rfl, rfl, rfl, z0, z1, tt0, tt1, h1, h2, h3⟩ := hrel
              by_cases hjl2 : j2 < ys2.length
              · obtain ⟨b2', o2', rfl, e2⟩ := qS2.int j2 hjl2
                have hd2 : Hid (ys2.drop j2 = ys2[j2] :: ys2.drop (j2 + 1)) := List.drop_eq_getElem_cons hjl2
                obtain ⟨y0, y1⟩ := HY.out _ (List.getElem_mem hjl2)
                generalize ys2[j2] = y at *
                have r1 := h1.out
                rw [hd2.out] at r1
                obtain ⟨r1, r2⟩ := r1
                have r3 := h2.out
                rw [hd2.out, lsum_cons] at r3
                have r4 := h3.out
                rw [hd2.out, lmax] at r4
                clear h1 h2 h3
                by_cases hy : 0 < y <;> by_cases hpk : pk < y <;> simp only [hy, hpk, if_true, if_false] at r1 r2 r4
                all_goals
                  have R2 := Lib.hid r2; have R3 := Lib.hid r3; have R4 := Lib.hid r4
                  clear r2 r3 r4
                  go_wp2_with fail
                  go_round
                  case measure => simp [intOf]; omega
                  case rel => exact ⟨j2 + 1, _, _, _, by omega, by go_num, rfl, rfl, rfl, by omega, by omega, by omega, by omega, R2.out, by have := R3.out; show _ = _; omega, R4.out⟩
              · have r3 := h2.out
                have r4 := h3.out
                rw [List.drop_eq_nil_of_le (by omega)] at r3 r4
                simp only [lsum, lmax, List.foldr_nil, Int.add_zero] at r3 r4
                subst r3; subst r4
                go_wp2_with fail
                go_quiet (fail)
                go_wp2_with fail
                go_roundw
                case measure => simp [intOf]; omega
                case rel => exact ⟨k + 1, t' + 1, _, (t' : Int) + 1, by omega, by go_num, rfl, by go_num, rfl, by omega, by omega, by omega, by omega, by repeat' (first | exact Below.refl _ _ | assumption | refine Below.more ?_ ?_ _ | refine Below.alloc ?_ ?_ _ | refine Below.drew ?_ | refine below_drewN ?_ _ | refine Below.setCell ?_ ?_ _ | exact Below.size (by assumption) | (simp [go_sem, size_more]; done) | (simp [go_sem, size_more]; omega)), by rw [HRS.out]; exact HC.out, by have := HM.out; rw [HRS.out]; show _ = _; omega⟩
      · have hnil : A.drop k = [] := List.drop_eq_nil_of_le (by omega)
        have hc := hc.out
        have hm := hm.out
        rw [hnil] at hc hm
        simp only [lsumE, Int.add_zero, cover] at hc hm
        subst hm
        have qxr := qx.mono hb
        have hvx : IsInts wr (.slice av xs.length cv) xs := ⟨_, cv, rfl, qx1, qx2, qxr⟩
        obtain ⟨aS1, cS1, qS1, qS11, qS12, hrun1⟩ := sub_l undInts' szInt hvx p p rfl (by omega)
        clear hvx
        have hA : IsEvs wr (.slice aA A.length cA) A := ⟨aA, cA, rfl, qA1, qA2, qA.mono hb⟩
        have hbb := hbb3.trans (hb.mono hbb3.size)
        generalize xs.drop p = ys1 at *
        have Z1 := Lib.hid hc
        clear hc
        have m1 : decide (mm ≤ sm) = true := by simpa using hmm
        go_wp2_with fail
        go_loop [164] (fun i => ∃ j : Nat, j ≤ ys1.length ∧ i = .int .i64 j) (fun i => ys1.length - (intOf i).toNat)
        case atStart => exact ⟨0, Nat.zero_le _, rfl⟩
        case round =>
          obtain ⟨j, hj, rfl⟩ := hrel
          by_cases hjl : j < ys1.length
          · obtain ⟨b1', o1', rfl, e1⟩ := qS1.int j hjl
            rw [Z1.out _ (List.getElem_mem hjl)] at e1
            go_wp2_with fail
            go_round
            case rel => exact ⟨j + 1, by omega, by go_num⟩
            case measure => simp [intOf]; omega
          · go_wp2_with fail
            refine Calls.to (count_any A _ _ hA) ?_
            intro e w5 he hb5
            have hce := HCT.out e he
            subst hce
            go_wp2_with fail
            go_ret
            exact ⟨rfl, hbb.trans (hb5.mono hbb.size)⟩

/-! ### The row -/
set_option maxRecDepth 100000 in
theorem lifted (os : Os) (started : os.Started) (H : Type) (enc : TypeId × Value → H) :
    ReturnsInHanded {} Try.checked os 5 .any (Rows.overflowCoversSpec.pre6 enc Try.prog Try.f5 Rows.overflowCoversRow.domain false) (Rows.overflowCoversSpec.post enc Try.prog Try.f5 false true false false) := by
  refine returnsInHanded_of_change (C := Try.checked) own started (by kernel_rfl) Try.func5
    (ChangeSpec.witness6 (enc := enc) (C := Try.checked) false ⟨#[], #[.slice none 0 0, .int .u8 0], []⟩ 8 (by kernel_rfl) (by kernel_rfl) (by kernel_rfl) (by kernel_rfl)) ?_
  intro W base args ds gs before hval0 hW hcnd _
  have hval : ∀ (j : Nat) t v, Try.f5.params[j]? = some t → args[j]? = some v → Value.okWide Try.prog W .any base t v := hval0
  have hW' := hW
  obtain ⟨p, q, hA0, hV, rfl, hfz, hnd⟩ := hW
  have hA : DataW.TrodAll enc Try.prog W 0 (fun _ => true) true Try.f5.params.toList args.toList ds p := hA0
  rw [Try.params5] at hA hval
  obtain ⟨v0, vs0, d0, ds0, p0, q0, hargs, rfl, rfl, h0, r0⟩ := trodAll_cons hA
  obtain ⟨v1, vs1, d1, ds1, p1, q1, rfl, rfl, rfl, h1, r1⟩ := trodAll_cons r0
  obtain ⟨rfl, rfl, rfl⟩ := trodAll_nil r1
  obtain rfl : args = #[v0, v1] := by cases args; simp_all
  obtain ⟨rfl, rfl⟩ := trodVars_none hV
  obtain ⟨a0, len0, cap0, rfl⟩ := okWide_slice Try.underlying35 (hval 0 35 v0 rfl rfl)
  have k0 := h0
  have lt0 : ∀ x ∈ p0, x.block < W.heap.size := by obtain ⟨m, hm⟩ := k0; exact DataW.trod_lt m _ _ _ hm
  obtain ⟨z0, w0⟩ : ∃ zs, IsRow .u32 W a0 len0 cap0 zs := by
    obtain ⟨fuel, hf⟩ := h0
    rcases open_ints Try.underlying35 Try.underlying36 (by kernel_rfl) hf with ⟨hcs, _⟩ | ⟨x, l, c, zs, hcs, _, hl, hm, hz, _, hcell, hwz⟩
    · simp [Value.cells] at hcs
      obtain ⟨rfl, rfl, rfl⟩ := hcs
      exact ⟨[], .inl ⟨rfl, rfl, rfl, rfl⟩⟩
    · simp [Value.cells] at hcs
      obtain ⟨rfl, rfl, rfl⟩ := hcs
      exact ⟨zs, .inr ⟨_, rfl, hl, hm, by simpa using hz, hcell, hwz⟩⟩
  obtain ⟨a1, rfl, rfl, rfl, w1⟩ := open_int Try.underlying5 (hval 1 5 v1 rfl rfl) h1
  clear hA0 hval0
  refine (walk a0 len0 cap0 z0 a1 W w0 w1).mono fun e W' ⟨he, bel⟩ => ?_
  subst he
  exact ⟨_, rfl, _, _, _, [], _, [], hW', trodAll_mk1 (shut_bool Try.underlying4 _), (trodAll_cons_mk (Below.trod laidOut (by kernel_rfl) (of_decide_eq_true (by kernel_rfl)) k0 bel lt0) (trodAll_cons_mk (shut_int Try.underlying5 w1) trodAll_mk0)), rfl, bel.frame _, fun h => by cases h⟩

theorem over : Rows.overflowCoversRow.holds Try.pinned (OpenSpec.ofChange Rows.overflowCoversSpec) :=
  OpenClaim.holds_of_wide 5 Try.f5 rfl rfl rfl rfl rfl rfl rfl ⟨rfl, rfl, rfl, rfl, rfl⟩ rfl rfl rfl rfl rfl (by kernel_rfl) Try.func5 (by kernel_rfl)
    (of_decide_eq_true (by kernel_rfl)) (by unfold Func.isWrapper; first | (rw [if_pos (by decide +kernel)]; kernel_rfl) | (rw [if_neg (by decide +kernel)]; exact ⟨rfl, rfl⟩))
    (fun os started H enc _ => lifted os started H enc)

end Go.Proofs.Ytbkihndidbmhoaa.overflowCovers
namespace Go.Proofs.Ytbkihndidbmhoaa
/-- The statement. -/
theorem overflowCovers_holds : Rows.OverflowCoversSaid := overflowCovers.over
#print axioms overflowCovers_holds
end Go.Proofs.Ytbkihndidbmhoaa
