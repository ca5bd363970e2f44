/- Yearly. Conditions: the numbers are int's own. -/
import Derived.Test.YtbkihndidbmhoaaMClk
import Derived.Test.YtbkihndidbmhoaaYrl
namespace Go.Proofs.Ytbkihndidbmhoaa
open Go.RowKit
set_option linter.unusedVariables false
set_option linter.unusedSimpArgs false

abbrev ePr (p : Int × Int) : List Value := [.int .i64 p.1, .int .i64 p.2]
theorem ePr_len (p : Int × Int) : (ePr p).length = 2 := rfl
theorem undPrs : Try.prog.underlying 59 = some (.slice 62) := by kernel_rfl
theorem infPr : (Try.prog.info? 62).map (fun i => (i.zero, i.size, i.bytes)) = some (some (.agg #[.int .i64 0, .int .i64 0]), 2, 16) := by kernel_rfl

set_option maxRecDepth 100000 in
set_option maxHeartbeats 4000000 in
theorem yearly_any (xs : List Ev) (v : Value) (t s : Int) (w : World) (hv : IsEvs w v xs) :
    Calls Try.prog 27 #[v, .int .i64 t, .int .i64 s] w fun e w' => (∃ v', e = .returned (.tuple #[v', .int .i64 (yearlyM xs t s).2]) ∧ Own w.heap.size 62 ePr 2 w' v' (yearlyM xs t s).1) ∧ Below w.heap.size w w' := by
  have hv' := hv
  obtain ⟨a, cap, rfl, hcap, hbig, hs⟩ := hv
  cases hr : rightM xs
  · have hR : yearlyM xs t s = ([], 1) := by simp [yearlyM, hr]
    have HR := Lib.hid hR; have HRT := Lib.hid hr
    clear hR hr
    go_enter Try.func27, Try.ntmps27
    go_wp2_with fail
    refine Calls.to (right_any xs _ _ hv') ?_
    rintro e w1 rfl hb1
    rw [HRT.out]
    go_wp2_with fail
    go_ret2
    rw [HR.out]
    exact ⟨⟨_, rfl, World.ownsRow_nil _ _ _ _⟩, hb1⟩
  · by_cases hbad : t < -68719476736 ∨ 68719476736 < t ∨ s < 1 ∨ 86400 < s
    · have hR : yearlyM xs t s = ([], 2) := by simp only [yearlyM, hr]; rw [if_neg (by simp), if_pos hbad]
      have HR := Lib.hid hR; have HRT := Lib.hid hr
      clear hR hr
      by_cases h1 : t < -68719476736
      · clear hbad
        go_enter Try.func27, Try.ntmps27
        go_wp2_with fail
        refine Calls.to (right_any xs _ _ hv') ?_
        rintro e w1 rfl hb1
        rw [HRT.out]
        go_wp2_with fail
        go_ret2
        rw [HR.out]
        exact ⟨⟨_, rfl, World.ownsRow_nil _ _ _ _⟩, hb1⟩
      · by_cases h2 : 68719476736 < t
        · clear hbad
          go_enter Try.func27, Try.ntmps27
          go_wp2_with fail
          refine Calls.to (right_any xs _ _ hv') ?_
          rintro e w1 rfl hb1
          rw [HRT.out]
          go_wp2_with fail
          go_ret2
          rw [HR.out]
          exact ⟨⟨_, rfl, World.ownsRow_nil _ _ _ _⟩, hb1⟩
        · by_cases h3 : s < 1
          · clear hbad
            go_enter Try.func27, Try.ntmps27
            go_wp2_with fail
            refine Calls.to (right_any xs _ _ hv') ?_
            rintro e w1 rfl hb1
            rw [HRT.out]
            go_wp2_with fail
            go_ret2
            rw [HR.out]
            exact ⟨⟨_, rfl, World.ownsRow_nil _ _ _ _⟩, hb1⟩
          · have h4 : 86400 < s := by omega
            clear hbad
            go_enter Try.func27, Try.ntmps27
            go_wp2_with fail
            refine Calls.to (right_any xs _ _ hv') ?_
            rintro e w1 rfl hb1
            rw [HRT.out]
            go_wp2_with fail
            go_ret2
            rw [HR.out]
            exact ⟨⟨_, rfl, World.ownsRow_nil _ _ _ _⟩, hb1⟩
    · have hR : yearlyM xs t s = yearlyGo (fun F => splitM (t + s * F)) xs [] := by simp only [yearlyM, hr]; rw [if_neg (by simp), if_neg hbad]
      have HR := Lib.hid hR; have HRT := Lib.hid hr
      have HF := Lib.hid (right_from' hr)
      have hlen : xs.length ≤ 10000 := by
        unfold rightM at hr
        split at hr
        · cases hr
        · omega
      have b1 : -68719476736 ≤ t := by omega
      have b2 : t ≤ 68719476736 := by omega
      have b3 : 1 ≤ s := by omega
      have b4 : s ≤ 86400 := by omega
      clear hR hr hbad
      go_enter Try.func27, Try.ntmps27
      go_wp2_with fail
      refine Calls.to (right_any xs _ _ hv') ?_
      rintro e w1 rfl hb1
      rw [HRT.out]
      go_wp2_with fail
      go_loopw [8, 36] (fun s8 s36 wr => ∃ (k : Nat) (out : List (Int × Int)), k ≤ xs.length ∧ s36 = .int .i64 k ∧ out.length ≤ k ∧ Own w.heap.size 62 ePr 2 wr s8 out ∧ Below w.heap.size w wr ∧
        Hid (yearlyM xs t s = yearlyGo (fun F => splitM (t + s * F)) (xs.drop k) out)) (fun _ i _ => xs.length - (intOf i).toNat)
      case atStart => exact ⟨0, [], Nat.zero_le _, rfl, by simp, World.ownsRow_nil _ _ _ _, hb1, HR.out⟩
      case round =>
        obtain ⟨k, out, hk, rfl, hol, hown, hb, hm⟩ := hrel
        have hsz := hb.size
        by_cases hlt : k < xs.length
        · obtain ⟨b, off, rfl, c1, c2, c3, c4⟩ := (hs.mono hb).ev k hlt
          have hdrop : Hid (xs.drop k = xs[k] :: xs.drop (k + 1)) := List.drop_eq_getElem_cons hlt
          obtain ⟨f1, f2⟩ := HF.out _ (List.getElem_mem hlt)
          clear hs
          generalize xs[k] = x at *
          obtain ⟨x1, x2, x3, x4⟩ := x
          simp only at c1 c2 c3 c4 f1 f2
          have m0 : 0 ≤ s * x1 := Int.mul_nonneg (by omega) f1
          have m1 : s * x1 ≤ 86400 * 10000 := Int.mul_le_mul b4 f2 f1 (by omega)
          have hstep : Hid (yearlyM xs t s = if (splitM (t + s * x1)).1 ≠ 0 then ([], (splitM (t + s * x1)).1) else yearlyGo (fun F => splitM (t + s * F)) (xs.drop (k + 1)) (yStep out (splitM (t + s * x1)).2)) := by
            show _ = _
            rw [hm.out, hdrop.out, yearlyGo]
          go_wp2_with fail
          refine Calls.to (split_any _ _) ?_
          rintro e w2 ⟨m, d, sc, rfl⟩ hb2
          generalize splitM (t + s * x1) = cy at *
          obtain ⟨code, y⟩ := cy
          simp only at hstep ⊢
          have hbx : Below wr.heap.size wr w2 := by
            refine Below.trans ?_ (hb2.mono (by simp))
            repeat' (first | exact Below.refl _ _ | assumption | refine Below.more ?_ ?_ _ | refine Below.alloc ?_ ?_ _ | refine Below.drew ?_ | refine below_drewN ?_ _ | refine Below.setCell ?_ ?_ _ | exact Below.size (by assumption) | (simp [go_sem, size_more]; done) | (simp [go_sem, size_more]; omega))
          have hown2 := hown.below hbx
          have hbb2 := hb.trans (hbx.mono hb.size)
          have hszx := hbx.size
          clear hb2 hown hbx c1 c2 c3 c4 hm hb
          by_cases hc : code = 0
          · subst hc
            have hst2 : Hid (yearlyM xs t s = yearlyGo (fun F => splitM (t + s * F)) (xs.drop (k + 1)) (yStep out y)) := by
              show _ = _
              rw [hstep.out, if_neg (by simp)]
            clear hstep
            have hlo : out.length < 2147483648 := by omega
            by_cases hne : out.length = 0
            · have hyS : yStep out y = out ++ [(y, 1)] := by
                rw [List.eq_nil_of_length_eq_zero hne, yStep_nil]; rfl
              have HY := Lib.hid hyS
              have n0 : ((out.length : Int) == 0) = true := by rw [hne]; rfl
              have HNE := Lib.hid hne
              clear hyS hne
              obtain ⟨a8, c8, rfl⟩ := hown2.isSlice
              go_wp2_with fail
              go_quiet (fail)
              go_wp2_with (at_builtin; go_must (refine wpList_pushB rfl _ _ 59 rfl 62 _ 2 16 undPrs infPr rfl (by decide) (y, 0) ePr_len (by simp [Value.oneCell']) _ out rfl (hown2.below (below_drewN ((Below.refl _ _).alloc (Nat.le_refl _) _) _)) _ rfl (by simp) hlo (by decide) (by simp; omega) _ rfl ?_); intro g3 cap3 w3 hown3 hbg3 hgl3 hb3 hc31 hc32)
              have hbb3 : Below w.heap.size w w3 := (below_drewN (hbb2.alloc hbb2.size _) _).trans hb3
              have k0 := hown3.cellAt' ePr_len out.length 0 (by simp) (by omega)
              have k1 := hown3.cellAt' ePr_len out.length 1 (by simp) (by omega)
              have f1 := hown3.free (out.length * 2 + 1)
              simp at k0 k1
              clear hown2 hbb2 hb3
              go_region
              go_wp2_with fail
              go_roundw
              case measure => simp [intOf]; omega
              case rel =>
                refine ⟨k + 1, yStep out y, by omega, by go_num, ?_, ?_, ?_, hst2.out⟩
                · rw [HY.out]; simp; omega
                · have := (hown3.store ePr_len out.length 1 (by simp) (by omega) (.int .i64 1) (y, 1) (by simp)).below ((Below.refl _ _).drew)
                  rw [HY.out]
                  simpa using this
                · repeat' (first | exact Below.refl _ _ | assumption | refine Below.more ?_ ?_ _ | refine Below.alloc ?_ ?_ _ | refine Below.drew ?_ | refine below_drewN ?_ _ | refine Below.setCell ?_ ?_ _ | exact Below.size (by assumption) | (simp [go_sem, size_more]; done) | (simp [go_sem, size_more]; omega))
            · have n0 : ((out.length : Int) == 0) = false := by rw [beq_eq_false_iff_ne]; omega
              obtain ⟨n, hn⟩ : ∃ n, out.length = n + 1 := ⟨out.length - 1, by omega⟩
              obtain ⟨g, cap2, rfl, hbg, hgl, hc1, hc2⟩ := hown2.place (by omega)
              have hnl : n < out.length := by omega
              obtain ⟨E, hE⟩ : ∃ E, Hid (out[n]'hnl = E) := ⟨out[n]'hnl, rfl⟩
              have c0 := hown2.cellAt' ePr_len n 0 (by omega) (by omega)
              have c1 := hown2.cellAt' ePr_len n 1 (by omega) (by omega)
              rw [hE.out] at c0 c1
              have f1 := hown2.free (n * 2 + 1)
              simp at c0 c1
              have hlast : Hid (out.getD (out.length - 1) (0, 0) = E) := by
                show _ = _
                rw [hn, Nat.add_sub_cancel]
                simp [List.getD, List.getElem?_eq_getElem hnl, hE.out]
              obtain ⟨z, c⟩ := E
              simp only at c0 c1
              have i1 : (0 : Int) ≤ n := by omega
              have i2 : (n : Int) < out.length := by omega
              have hk9 : IntKind.i64.wrap ((out.length : Int) - 1) = (n : Int) := by rw [IntWalk.i64_in _ (by omega)]; omega
              by_cases hzy : z = y
              · subst hzy
                have zb : (z != z) = false := by simp
                have hyS : yStep out z = out.set n (z, wrap64 (c + 1)) := by
                  unfold yStep
                  rw [if_neg (by rw [hlast.out]; rintro (h | h); · omega
                                 · exact h rfl)]
                  dsimp only
                  rw [hlast.out, hn, Nat.add_sub_cancel]
                have HY := Lib.hid hyS
                have HN := Lib.hid hn
                have hok : n + 1 ≤ k := by omega
                clear hyS hn
                go_wp2_with fail
                go_quiet (fail)
                go_wp2_with fail
                go_region
                go_wp2_with fail
                go_roundw
                case measure => simp [intOf]; omega
                case rel =>
                  refine ⟨k + 1, yStep out z, by omega, by go_num, ?_, ?_, ?_, hst2.out⟩
                  · rw [HY.out]; simp [HN.out]; omega
                  · rw [HY.out]
                    exact (hown2.below (below_drewN ((Below.refl _ _).alloc (Nat.le_refl _) _) _)).store ePr_len n 1 hnl (by omega) (.int .i64 (wrap64 (c + 1))) (z, wrap64 (c + 1)) (by rw [hE.out]; rfl)
                  · repeat' (first | exact Below.refl _ _ | assumption | refine Below.more ?_ ?_ _ | refine Below.alloc ?_ ?_ _ | refine Below.drew ?_ | refine below_drewN ?_ _ | refine Below.setCell ?_ ?_ _ | exact Below.size (by assumption) | (simp [go_sem, size_more]; done) | (simp [go_sem, size_more]; omega))
              · have zb : (z != y) = true := by simpa using hzy
                have hyS : yStep out y = out ++ [(y, 1)] := by
                  have hw1 : wrap64 1 = 1 := IntWalk.wrap64_in _ (by omega)
                  unfold yStep
                  rw [if_pos (.inr (by rw [hlast.out]; exact hzy))]
                  simp [hw1]
                have HY := Lib.hid hyS
                have HN := Lib.hid hn
                clear hyS hzy hn
                go_wp2_with fail
                go_quiet (fail)
                go_wp2_with (at_builtin; go_must (refine wpList_pushB rfl _ _ 59 rfl 62 _ 2 16 undPrs infPr rfl (by decide) (y, 0) ePr_len (by simp [Value.oneCell']) _ out rfl (hown2.below (below_drewN ((Below.refl _ _).alloc (Nat.le_refl _) _) _)) _ rfl (by simp) hlo (by decide) (by simp; omega) _ rfl ?_); intro g3 cap3 w3 hown3 hbg3 hgl3 hb3 hc31 hc32)
                have hbb3 : Below w.heap.size w w3 := (below_drewN (hbb2.alloc hbb2.size _) _).trans hb3
                have k0 := hown3.cellAt' ePr_len out.length 0 (by simp) (by omega)
                have k1 := hown3.cellAt' ePr_len out.length 1 (by simp) (by omega)
                have f1 := hown3.free (out.length * 2 + 1)
                simp at k0 k1
                clear hown2 hbb2 hb3
                go_region
                go_wp2_with fail
                go_roundw
                case measure => simp [intOf]; omega
                case rel =>
                  refine ⟨k + 1, yStep out y, by omega, by go_num, ?_, ?_, ?_, hst2.out⟩
                  · rw [HY.out]; simp; omega
                  · have := (hown3.store ePr_len out.length 1 (by simp) (by omega) (.int .i64 1) (y, 1) (by simp)).below ((Below.refl _ _).drew)
                    rw [HY.out]
                    simpa using this
                  · repeat' (first | exact Below.refl _ _ | assumption | refine Below.more ?_ ?_ _ | refine Below.alloc ?_ ?_ _ | refine Below.drew ?_ | refine below_drewN ?_ _ | refine Below.setCell ?_ ?_ _ | exact Below.size (by assumption) | (simp [go_sem, size_more]; done) | (simp [go_sem, size_more]; omega))
          · have hcb : (code != 0) = true := by simpa using hc
            have HC := Lib.hid hc
            clear hc
            go_wp2_with fail
            go_ret2
            rw [hstep.out, if_pos HC.out]
            exact ⟨⟨_, rfl, World.ownsRow_nil _ _ _ _⟩, by repeat' (first | exact Below.refl _ _ | assumption | refine Below.more ?_ ?_ _ | refine Below.alloc ?_ ?_ _ | refine Below.drew ?_ | refine below_drewN ?_ _ | refine Below.setCell ?_ ?_ _ | exact Below.size (by assumption) | (simp [go_sem, size_more]; done) | (simp [go_sem, size_more]; omega))⟩
        · go_wp2_with fail
          go_ret2
          have h2 := hm.out
          rw [List.drop_eq_nil_of_le (by omega), yearlyGo] at h2
          rw [h2]
          exact ⟨⟨_, rfl, hown⟩, hb⟩

end Go.Proofs.Ytbkihndidbmhoaa
