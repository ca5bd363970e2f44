/- storage.Widened. Conditions: the table reads as data. | The examples of the chapter on storage hold: awake returns true. Conditions: none. -/
import Derived.Test.YtjgfgbiohbgcaaaGreatMsw
import Derived.Test.YtjgfgbiohbgcaaaGreatMts
import Derived.Test.YtjgfgbiohbgcaaaGreatInk
import Derived.Test.YtjgfgbiohbgcaaaGreatMtl
namespace Go.Proofs.YtjgfgbiohbgcaaaGreat
open Go.RowKit
set_option linter.unusedVariables false
set_option linter.unusedSimpArgs false

set_option maxRecDepth 100000 in
set_option maxHeartbeats 8000000 in
theorem widened_any (xs : List Kn) (depth area : Int) (v : Value) (w : World) (hv : IsKns w v xs) : Calls Tryz.prog 36 #[v, .int .i64 depth, .int .i64 area] w fun e w' =>
    (∃ v', e = .returned (.tuple #[v', .int .i64 (widM xs depth area).2]) ∧ Own w.heap.size 71 eKn 2 w' v' (widM xs depth area).1) ∧ Below w.heap.size w w' := by
  have hsh := sshape_any xs v w hv
  have HV := Lib.hid hv
  have hfd0 : ∀ (a b : Int) (w : World), (Instr.field 71 (.agg #[.int .i64 a, .int .i64 b]) 0).run Tryz.prog w = .ok (.int .i64 a) w := fun _ _ _ => by kernel_rfl
  obtain ⟨⟨R, E⟩, hres⟩ : ∃ r, widM xs depth area = r := ⟨_, rfl⟩
  rw [hres]
  have HRES := Lib.hid hres
  clear hres
  obtain ⟨a, cap, rfl, hcap, hbig, hs⟩ := hv
  cases h1 : shB xs
  · have h3 := HRES.out.symm.trans (show widM xs depth area = ([], 1) from by simp only [widM, h1, if_true])
    simp only [Prod.mk.injEq] at h3
    obtain ⟨rfl, rfl⟩ := h3
    rw [h1] at hsh
    clear h1 hs
    go_enter Tryz.func36, Tryz.ntmps36
    go_wp2_with fail
    refine Calls.to hsh ?_
    rintro e w1 rfl hb1
    go_wp2_with fail
    go_ret2
    exact ⟨⟨_, rfl, World.ownsRow_nil _ _ _ _⟩, hb1⟩
  rw [h1] at hsh
  obtain ⟨ht, hl0, e1, e2, e3, e4, e5, e6⟩ := shB_parts h1
  have hlen := tabB_len ht
  have hla := fun W (hW : IsKns W (.slice a xs.length cap) xs) => slast_any xs _ W hW hlen.1
  obtain ⟨⟨lx, ly⟩, hlk⟩ : ∃ K, lastK xs = K := ⟨_, rfl⟩
  have HLK := Lib.hid hlk
  rw [hlk] at hla e4 e5
  simp only [vKn] at hla e4 e5
  have hw1 := fun W => swithin_any depth 0 lx W
  have hw2 := fun W => swithin_any area 0 1099511627776 W
  cases hd : btwB depth 0 lx
  · have h3 := HRES.out.symm.trans (show widM xs depth area = ([], 2) from by simp [widM, h1, hlk, hd])
    simp only [Prod.mk.injEq] at h3
    obtain ⟨rfl, rfl⟩ := h3
    rw [hd] at hw1
    clear h1 hs e1 e2 e3 e4 e5 e6 hlk
    go_enter Tryz.func36, Tryz.ntmps36
    go_wp2_with fail
    refine Calls.to hsh ?_
    rintro e w1 rfl hb1
    go_wp2_with fail
    refine Calls.go hb1 (hla _ (HV.out.mono hb1)) ?_
    rintro e w2 rfl _ hb2
    go_wp2_with fail
    refine (hw1 _).mono ?_
    rintro _ _ ⟨rfl, rfl⟩
    go_wp2_with fail
    go_ret2
    exact ⟨⟨_, rfl, World.ownsRow_nil _ _ _ _⟩, hb2⟩
  rw [hd] at hw1
  cases ha : btwB area 0 1099511627776
  · have h3 := HRES.out.symm.trans (show widM xs depth area = ([], 2) from by simp [widM, h1, hlk, hd, ha])
    simp only [Prod.mk.injEq] at h3
    obtain ⟨rfl, rfl⟩ := h3
    rw [ha] at hw2
    clear h1 hs e1 e2 e3 e4 e5 e6 hlk
    go_enter Tryz.func36, Tryz.ntmps36
    go_wp2_with fail
    refine Calls.to hsh ?_
    rintro e w1 rfl hb1
    go_wp2_with fail
    refine Calls.go hb1 (hla _ (HV.out.mono hb1)) ?_
    rintro e w2 rfl _ hb2
    go_wp2_with fail
    refine (hw1 _).mono ?_
    rintro _ _ ⟨rfl, rfl⟩
    go_wp2_with fail
    refine (hw2 _).mono ?_
    rintro _ _ ⟨rfl, rfl⟩
    go_wp2_with fail
    go_ret2
    exact ⟨⟨_, rfl, World.ownsRow_nil _ _ _ _⟩, hb2⟩
  rw [ha] at hw2
  have hM : widM xs depth area = if 100 < (insL xs depth).length then ([], 4) else if ((insL xs depth).map (widK area depth)).any bigB = true then ([], 5) else ((insL xs depth).map (widK area depth), 0) := by
    unfold widM widL; rw [h1, hlk, hd, ha]; simp
  have HM := Lib.hid (HRES.out.symm.trans hM)
  simp only [btwB, Bool.and_eq_true, decide_eq_true_eq] at hd ha
  have hdl : depth ≤ (lastK xs).X := by rw [hlk]; exact hd.2
  have hcnt := shB_cnt h1 hdl
  have hll := insL_len xs depth
  have hpre := fun j hj hji => insL_pre h1 depth j hj hji
  have hpost := fun j hj hji => insL_post h1 hdl j hj hji
  have hfl := fun W (hW : IsKns W (.slice a xs.length cap) xs) => tfloor_any xs depth _ W hW ht
  have hcl := fun W (hW : IsKns W (.slice a xs.length cap) xs) => cloneKn_any xs _ W hW (Nat.le_trans hlen.2 (by decide))
  have hbs := fun v W (hW : IsKns W v xs) => bsearchW_any xs depth v W hW ht (by omega) (by omega)
  have hins : insL xs depth = if hitX xs depth = true then xs else xs.take (cntX xs depth) ++ ⟨depth, tabV xs depth⟩ :: xs.drop (cntX xs depth) := rfl
  have HAD := Lib.hid (show 0 ≤ depth ∧ depth ≤ 4194304 ∧ 0 ≤ area ∧ area ≤ 1099511627776 by omega)
  have HCNT := Lib.hid hcnt
  have HLEN : Hid (xs.length ≤ 100) := hlen.2
  have HPRE := Lib.hid hpre
  have HPOST := Lib.hid hpost
  have HLL := Lib.hid hll
  have HINS := Lib.hid hins
  clear h1 hs e1 e2 e3 e4 e5 e6 hlk hM hd ha hdl hcnt hll hpre hpost hins ht hl0 hlen HRES
  generalize insL xs depth = L at *
  generalize cntX xs depth = i at *
  generalize tabV xs depth = tv at *
  generalize hitX xs depth = ht at *
  go_enter Tryz.func36, Tryz.ntmps36
  go_wp2_with fail
  refine Calls.to hsh ?_
  rintro e w1 rfl hb1
  go_wp2_with fail
  refine Calls.go hb1 (hla _ (HV.out.mono hb1)) ?_
  rintro e w2 rfl hb2' hb2
  have HV2 := Lib.hid ((HV.out.mono hb1).mono hb2')
  go_wp2_with fail
  refine (hw1 _).mono ?_
  rintro _ _ ⟨rfl, rfl⟩
  go_wp2_with fail
  refine (hw2 _).mono ?_
  rintro _ _ ⟨rfl, rfl⟩
  clear hw1 hw2 hla hsh hb1 hb2'
  go_wp2_with fail
  refine Calls.go hb2 (hfl _ HV2.out) ?_
  rintro e w3 rfl hb3' hb3
  have HV3 := Lib.hid (HV2.out.mono hb3')
  clear hfl hb3' hb2
  go_wp2_with fail
  refine Calls.go hb3 (hcl _ HV3.out) ?_
  rintro e w4 ⟨v4, rfl, hown4⟩ hb4' hb4
  have hown := hown4.base hb3.size
  clear hcl hown4 hb4' hb3
  go_wp2_with fail
  refine Calls.go hb4 (hbs _ _ (hown.isL eKn_len)) ?_
  rintro e w5 rfl hb5' hb5
  have hown := hown.below hb5'
  clear hb5' hb4 hbs
  have hi0 : i < xs.length := HCNT.out
  obtain ⟨g, c, rfl, hg5, hg5w, hc5, hc5'⟩ := hown.place (by omega)
  have x0 : ∀ k : Nat, k < 1000 → IntKind.i64.wrap ((k : Int) + 1) = (k : Int) + 1 := fun k hk => IntWalk.i64_in _ (by omega)
  cases ht
  · have hL : L = xs.take i ++ ⟨depth, tv⟩ :: xs.drop i := HINS.out.trans (if_neg (by simp))
    have HL := Lib.hid hL
    clear hL
    have hcal := fun W h => insK_any w.heap.size i xs ⟨depth, tv⟩ (.slice (some ⟨g, 0, none⟩) xs.length c) w5.heap.size 1 (W : World) h hi0 HLEN.out
    go_wp2_with fail
    refine Calls.mono (hcal _ (hown.below (alloc_below w5 _)) (heap_alloc_new w5 _) (fun g' n' c' e => by simp only [Value.slice.injEq, Option.some.injEq, Addr.mk.injEq] at e; omega) (Nat.le_trans hb5.size (by simp))) ?_
    rintro e w6 ⟨⟨v6, rfl, hown6⟩, hb6⟩
    rw [← HL.out] at hown6
    have hb6 := (hb5.alloc hb5.size _).trans hb6
    clear hcal hown hb5
    obtain ⟨g, c, rfl, hgb, hgw, hc1, hc2⟩ := hown6.place (by have := HLL.out; omega)
    have hown := hown6
    clear HINS HV HV2 HV3 hfd0
    have HIL := Lib.hid (show i ≤ L.length by have := HLL.out; omega)
    by_cases hbg : 100 < L.length
    · have h3 := HM.out.trans (if_pos hbg)
      simp only [Prod.mk.injEq] at h3
      obtain ⟨rfl, rfl⟩ := h3
      have u := decide_eq_true (show (100 : Int) < (L.length : Int) by omega)
      clear hbg
      go_wp2_with fail
      go_ret2
      exact ⟨⟨_, rfl, World.ownsRow_nil _ _ _ _⟩, hb6⟩
    have HM2 := Lib.hid (HM.out.trans (if_neg hbg))
    have HL100 := Lib.hid (show L.length ≤ 100 by omega)
    have u := decide_eq_false (show ¬ (100 : Int) < (L.length : Int) by omega)
    have hst : Own w.heap.size 71 eKn 2 w6 (.slice (some ⟨g, 0, none⟩) L.length c) (widR L area depth i) := by
      rw [widR_start (fun j hj hji => (HPRE.out j hj hji).1)]; exact hown
    clear hbg HM
    go_wp2_with fail
    go_loopw [13] (fun s13 wr => ∃ k : Nat, i ≤ k ∧ k ≤ L.length ∧ s13 = .int .i64 k ∧ Own w.heap.size 71 eKn 2 wr (.slice (some ⟨g, 0, none⟩) L.length c) (widR L area depth k) ∧ Below w.heap.size w wr ∧ Hid (∀ j (hj : j < L.length), j < k → bigB (widK area depth L[j]) = false)) (fun s _ => L.length - (intOf s).toNat)
    case atStart =>
      refine ⟨i, Nat.le_refl _, HIL.out, rfl, hst, hb6, ?_⟩
      intro j hj hji
      have := HPRE.out j hj hji
      unfold bigB widK
      rw [if_neg (by omega)]
      exact decide_eq_false (by omega)
    case round =>
      as_aux_lemma =>
      obtain ⟨k, hik, hk, rfl, hown, hb, hnb⟩ := hrel
      clear hst
      by_cases hlt : k < L.length
      · have hwl := widR_len L area depth k (by omega)
        have hyr := widR_at L area depth k hlt
        have d1 := hown.cellAt' eKn_len k 0 (by rw [hwl]; exact hlt) (by decide)
        have d2 := hown.cellAt' eKn_len k 1 (by rw [hwl]; exact hlt) (by decide)
        have hpo := HPOST.out k hlt hik
        have hstep := widR_step L area depth k hlt
        have hbk : ∀ m, m ≤ k → bigB (widK area depth L[k]) = false → (∀ j (hj : j < L.length), j < k + 1 → bigB (widK area depth L[j]) = false) := by
          intro m _ hh j hj hjk
          rcases Nat.lt_or_eq_of_le (Nat.le_of_lt_succ hjk) with q | q
          · exact hnb.out j hj q
          · subst q; exact hh
        have hany : bigB (widK area depth L[k]) = true → (L.map (widK area depth)).any bigB = true := by
          intro hh
          rw [List.any_eq_true]
          exact ⟨_, List.mem_map.2 ⟨L[k], List.getElem_mem hlt, rfl⟩, hh⟩
        rw [hyr] at d1 d2
        obtain ⟨⟨yx, yy⟩, hy⟩ : ∃ K, L[k] = K := ⟨_, rfl⟩
        rw [hy] at d1 d2 hpo hstep hbk hany
        simp only [eKn, List.getD_cons_zero, List.getD_cons_succ, Nat.add_zero] at d1 d2 hpo
        obtain ⟨a1, a2, a3, a4⟩ := HAD.out
        obtain ⟨D, hD⟩ : ∃ D, yx - depth = D := ⟨_, rfl⟩
        have hD0 : 0 ≤ D ∧ D ≤ 4194304 := by omega
        have m1 : 0 ≤ area * D := Int.mul_nonneg a3 hD0.1
        have m2 : area * D ≤ 1099511627776 * 4194304 := Int.mul_le_mul a4 hD0.2 hD0.1 (by decide)
        obtain ⟨q, hq⟩ : ∃ q, area * D / 1000 = q := ⟨_, rfl⟩
        have hq0 : 0 ≤ q ∧ q ≤ 4611686018427388 := by rw [← hq]; generalize area * D = V at *; omega
        have x1 : IntKind.i64.wrap (yx - depth) = D := by rw [hD]; exact IntWalk.i64_in _ (by omega)
        have x2 : IntKind.i64.wrap (area * D) = area * D := IntWalk.i64_in _ (by generalize area * D = V at *; omega)
        have x3 : IntKind.i64.wrap ((area * D).tdiv 1000) = q := by rw [Int.tdiv_eq_ediv_of_nonneg m1, hq]; exact IntWalk.i64_in _ (by omega)
        have x4 : IntKind.i64.wrap (yy + q) = yy + q := IntWalk.i64_in _ (by omega)
        have hwk : widK area depth ⟨yx, yy⟩ = ⟨yx, yy + q⟩ := by
          unfold widK
          simp only
          by_cases hz : depth < yx
          · rw [if_pos hz, hD, hq]
          · have hD' : D = 0 := by omega
            rw [if_neg hz]
            have : q = 0 := by rw [← hq, hD']; simp
            rw [this, Int.add_zero]
        rw [hwk] at hstep hbk hany
        have hov : ∀ xq, Own w.heap.size 71 eKn 2 ((more wr xq).setCell ⟨g, k * 2 + 1, none⟩ (.int .i64 (yy + q))) (.slice (some ⟨g, 0, none⟩) L.length c) (widR L area depth (k + 1)) := by
          intro xq
          rw [← hstep]
          refine (hown.below (below_more wr xq)).store eKn_len k 1 (by rw [hwl]; exact hlt) (by decide) (.int .i64 (yy + q)) ⟨yx, yy + q⟩ ?_
          rw [hyr, hy]; rfl
        have hfr : ∀ xq, (more wr xq).frozen? ⟨g, k * 2 + 1, none⟩ = false := fun xq => (hown.below (below_more wr xq)).free (k * 2 + 1)
        have y1 : IntKind.i64.wrap ((k : Int) + 1) = (k : Int) + 1 := x0 k (by have := HL100.out; omega)
        have i1 : (0 : Int) ≤ k := by omega
        have i2 : (k : Int) < L.length := by omega
        have hl1 := lt_of_isSome (a := ⟨g, k * 2 + 1, none⟩) (w := wr) (by rw [d2]; rfl)
        have hget : ∀ h, (widR L area depth (k + 1))[k]'h = ⟨yx, yy + q⟩ := by
          intro h; simp only [← hstep, List.getElem_set_self]
        have hwl2 := widR_len L area depth (k + 1) (by omega)
        clear hyr hstep m1 m2 hq hD hD0 a1 a2 a3 a4 hwk hy hpo hq0
        go_wp2_with fail
        refine wp_region_more_tail 18 (by kernel_rfl) (by kernel_rfl) ?_
        simp only [List.take_succ_cons, List.take_zero]
        repeat (go_big_quiet_step (fail))
        refine wpQuiet_nil ?_
        intro _ hwq
        obtain ⟨xq, hwq⟩ := hwq
        subst hwq
        have hov := hov xq
        have hfr := hfr xq
        have d3 := (below_more wr xq).cell (p := ⟨g, k * 2 + 1, none⟩) hl1 |>.trans d2
        have hbm := hb.trans ((below_more wr xq).mono hb.size)
        have hbs : Below w.heap.size w ((more wr xq).setCell ⟨g, k * 2 + 1, none⟩ (.int .i64 (yy + q))) := by repeat' (first | exact Below.refl _ _ | assumption | refine Below.more ?_ ?_ _ | refine Below.alloc ?_ ?_ _ | refine Below.drew ?_ | refine below_drewN ?_ _ | refine Below.setCell ?_ ?_ _ | exact Below.size (by assumption) | (simp [go_sem, size_more]; done) | (simp [go_sem, size_more]; omega))
        clear d1 d2
        refine wpAny_ready (rs := [18]) (by kernel_rfl) (by simp) ?_
        refine AllReady.cons rfl (fun K hK => ?_) AllReady.nil
        go_simp
        refine hK _ _ ?_
        clear hK K
        refine wpAny_done (by kernel_rfl) ?_ _
        have d4 := hov.cellAt' eKn_len k 1 (by rw [hwl2]; exact hlt) (by decide)
        rw [hget] at d4
        simp only [eKn, List.getD_cons_zero, List.getD_cons_succ] at d4
        clear d3 hfr hbm hget hl1
        generalize ((more wr xq).setCell ⟨g, k * 2 + 1, none⟩ (.int .i64 (yy + q))) = W2 at *
        cases hbg2 : decide ((1125899906842624 : Int) < yy + q)
        · go_wp2_with fail
          go_roundw
          case measure => simp [intOf]; omega
          case rel => exact ⟨k + 1, by omega, by omega, by go_num, hov, hbs, hbk k (Nat.le_refl _) hbg2⟩
        · have h3 := HM2.out.trans (if_pos (hany hbg2))
          simp only [Prod.mk.injEq] at h3
          obtain ⟨rfl, rfl⟩ := h3
          clear hany hbk
          go_wp2_with fail
          go_ret2
          exact ⟨⟨_, rfl, World.ownsRow_nil _ _ _ _⟩, hbs⟩
      · obtain rfl : k = L.length := by omega
        have hnone : ¬ (L.map (widK area depth)).any bigB = true := by
          intro hh
          rw [List.any_eq_true] at hh
          obtain ⟨y, hy1, hy2⟩ := hh
          obtain ⟨z, hz1, rfl⟩ := List.mem_map.1 hy1
          obtain ⟨j, hj, rfl⟩ := List.getElem_of_mem hz1
          rw [hnb.out j hj hj] at hy2
          cases hy2
        have h3 := HM2.out.trans (if_neg hnone)
        simp only [Prod.mk.injEq] at h3
        obtain ⟨rfl, rfl⟩ := h3
        rw [widR_end] at hown
        clear hnone
        go_wp2_with fail
        go_ret2
        exact ⟨⟨_, rfl, hown⟩, hb⟩
  · have hL : L = xs := HINS.out.trans (if_pos rfl)
    subst hL
    have hb6 := hb5
    have hgb := hg5
    clear hb5
    clear HINS HV HV2 HV3 hfd0
    have HIL := Lib.hid (show i ≤ L.length by have := HLL.out; omega)
    by_cases hbg : 100 < L.length
    · have h3 := HM.out.trans (if_pos hbg)
      simp only [Prod.mk.injEq] at h3
      obtain ⟨rfl, rfl⟩ := h3
      have u := decide_eq_true (show (100 : Int) < (L.length : Int) by omega)
      clear hbg
      go_wp2_with fail
      go_ret2
      exact ⟨⟨_, rfl, World.ownsRow_nil _ _ _ _⟩, hb6⟩
    have HM2 := Lib.hid (HM.out.trans (if_neg hbg))
    have HL100 := Lib.hid (show L.length ≤ 100 by omega)
    have u := decide_eq_false (show ¬ (100 : Int) < (L.length : Int) by omega)
    have hst : Own w.heap.size 71 eKn 2 w5 (.slice (some ⟨g, 0, none⟩) L.length c) (widR L area depth i) := by
      rw [widR_start (fun j hj hji => (HPRE.out j hj hji).1)]; exact hown
    clear hbg HM
    go_wp2_with fail
    go_loopw [13] (fun s13 wr => ∃ k : Nat, i ≤ k ∧ k ≤ L.length ∧ s13 = .int .i64 k ∧ Own w.heap.size 71 eKn 2 wr (.slice (some ⟨g, 0, none⟩) L.length c) (widR L area depth k) ∧ Below w.heap.size w wr ∧ Hid (∀ j (hj : j < L.length), j < k → bigB (widK area depth L[j]) = false)) (fun s _ => L.length - (intOf s).toNat)
    case atStart =>
      refine ⟨i, Nat.le_refl _, HIL.out, rfl, hst, hb6, ?_⟩
      intro j hj hji
      have := HPRE.out j hj hji
      unfold bigB widK
      rw [if_neg (by omega)]
      exact decide_eq_false (by omega)
    case round =>
      as_aux_lemma =>
      obtain ⟨k, hik, hk, rfl, hown, hb, hnb⟩ := hrel
      clear hst
      by_cases hlt : k < L.length
      · have hwl := widR_len L area depth k (by omega)
        have hyr := widR_at L area depth k hlt
        have d1 := hown.cellAt' eKn_len k 0 (by rw [hwl]; exact hlt) (by decide)
        have d2 := hown.cellAt' eKn_len k 1 (by rw [hwl]; exact hlt) (by decide)
        have hpo := HPOST.out k hlt hik
        have hstep := widR_step L area depth k hlt
        have hbk : ∀ m, m ≤ k → bigB (widK area depth L[k]) = false → (∀ j (hj : j < L.length), j < k + 1 → bigB (widK area depth L[j]) = false) := by
          intro m _ hh j hj hjk
          rcases Nat.lt_or_eq_of_le (Nat.le_of_lt_succ hjk) with q | q
          · exact hnb.out j hj q
          · subst q; exact hh
        have hany : bigB (widK area depth L[k]) = true → (L.map (widK area depth)).any bigB = true := by
          intro hh
          rw [List.any_eq_true]
          exact ⟨_, List.mem_map.2 ⟨L[k], List.getElem_mem hlt, rfl⟩, hh⟩
        rw [hyr] at d1 d2
        obtain ⟨⟨yx, yy⟩, hy⟩ : ∃ K, L[k] = K := ⟨_, rfl⟩
        rw [hy] at d1 d2 hpo hstep hbk hany
        simp only [eKn, List.getD_cons_zero, List.getD_cons_succ, Nat.add_zero] at d1 d2 hpo
        obtain ⟨a1, a2, a3, a4⟩ := HAD.out
        obtain ⟨D, hD⟩ : ∃ D, yx - depth = D := ⟨_, rfl⟩
        have hD0 : 0 ≤ D ∧ D ≤ 4194304 := by omega
        have m1 : 0 ≤ area * D := Int.mul_nonneg a3 hD0.1
        have m2 : area * D ≤ 1099511627776 * 4194304 := Int.mul_le_mul a4 hD0.2 hD0.1 (by decide)
        obtain ⟨q, hq⟩ : ∃ q, area * D / 1000 = q := ⟨_, rfl⟩
        have hq0 : 0 ≤ q ∧ q ≤ 4611686018427388 := by rw [← hq]; generalize area * D = V at *; omega
        have x1 : IntKind.i64.wrap (yx - depth) = D := by rw [hD]; exact IntWalk.i64_in _ (by omega)
        have x2 : IntKind.i64.wrap (area * D) = area * D := IntWalk.i64_in _ (by generalize area * D = V at *; omega)
        have x3 : IntKind.i64.wrap ((area * D).tdiv 1000) = q := by rw [Int.tdiv_eq_ediv_of_nonneg m1, hq]; exact IntWalk.i64_in _ (by omega)
        have x4 : IntKind.i64.wrap (yy + q) = yy + q := IntWalk.i64_in _ (by omega)
        have hwk : widK area depth ⟨yx, yy⟩ = ⟨yx, yy + q⟩ := by
          unfold widK
          simp only
          by_cases hz : depth < yx
          · rw [if_pos hz, hD, hq]
          · have hD' : D = 0 := by omega
            rw [if_neg hz]
            have : q = 0 := by rw [← hq, hD']; simp
            rw [this, Int.add_zero]
        rw [hwk] at hstep hbk hany
        have hov : ∀ xq, Own w.heap.size 71 eKn 2 ((more wr xq).setCell ⟨g, k * 2 + 1, none⟩ (.int .i64 (yy + q))) (.slice (some ⟨g, 0, none⟩) L.length c) (widR L area depth (k + 1)) := by
          intro xq
          rw [← hstep]
          refine (hown.below (below_more wr xq)).store eKn_len k 1 (by rw [hwl]; exact hlt) (by decide) (.int .i64 (yy + q)) ⟨yx, yy + q⟩ ?_
          rw [hyr, hy]; rfl
        have hfr : ∀ xq, (more wr xq).frozen? ⟨g, k * 2 + 1, none⟩ = false := fun xq => (hown.below (below_more wr xq)).free (k * 2 + 1)
        have y1 : IntKind.i64.wrap ((k : Int) + 1) = (k : Int) + 1 := x0 k (by have := HL100.out; omega)
        have i1 : (0 : Int) ≤ k := by omega
        have i2 : (k : Int) < L.length := by omega
        have hl1 := lt_of_isSome (a := ⟨g, k * 2 + 1, none⟩) (w := wr) (by rw [d2]; rfl)
        have hget : ∀ h, (widR L area depth (k + 1))[k]'h = ⟨yx, yy + q⟩ := by
          intro h; simp only [← hstep, List.getElem_set_self]
        have hwl2 := widR_len L area depth (k + 1) (by omega)
        clear hyr hstep m1 m2 hq hD hD0 a1 a2 a3 a4 hwk hy hpo hq0
        go_wp2_with fail
        refine wp_region_more_tail 18 (by kernel_rfl) (by kernel_rfl) ?_
        simp only [List.take_succ_cons, List.take_zero]
        repeat (go_big_quiet_step (fail))
        refine wpQuiet_nil ?_
        intro _ hwq
        obtain ⟨xq, hwq⟩ := hwq
        subst hwq
        have hov := hov xq
        have hfr := hfr xq
        have d3 := (below_more wr xq).cell (p := ⟨g, k * 2 + 1, none⟩) hl1 |>.trans d2
        have hbm := hb.trans ((below_more wr xq).mono hb.size)
        have hbs : Below w.heap.size w ((more wr xq).setCell ⟨g, k * 2 + 1, none⟩ (.int .i64 (yy + q))) := by repeat' (first | exact Below.refl _ _ | assumption | refine Below.more ?_ ?_ _ | refine Below.alloc ?_ ?_ _ | refine Below.drew ?_ | refine below_drewN ?_ _ | refine Below.setCell ?_ ?_ _ | exact Below.size (by assumption) | (simp [go_sem, size_more]; done) | (simp [go_sem, size_more]; omega))
        clear d1 d2
        refine wpAny_ready (rs := [18]) (by kernel_rfl) (by simp) ?_
        refine AllReady.cons rfl (fun K hK => ?_) AllReady.nil
        go_simp
        refine hK _ _ ?_
        clear hK K
        refine wpAny_done (by kernel_rfl) ?_ _
        have d4 := hov.cellAt' eKn_len k 1 (by rw [hwl2]; exact hlt) (by decide)
        rw [hget] at d4
        simp only [eKn, List.getD_cons_zero, List.getD_cons_succ] at d4
        clear d3 hfr hbm hget hl1
        generalize ((more wr xq).setCell ⟨g, k * 2 + 1, none⟩ (.int .i64 (yy + q))) = W2 at *
        cases hbg2 : decide ((1125899906842624 : Int) < yy + q)
        · go_wp2_with fail
          go_roundw
          case measure => simp [intOf]; omega
          case rel => exact ⟨k + 1, by omega, by omega, by go_num, hov, hbs, hbk k (Nat.le_refl _) hbg2⟩
        · have h3 := HM2.out.trans (if_pos (hany hbg2))
          simp only [Prod.mk.injEq] at h3
          obtain ⟨rfl, rfl⟩ := h3
          clear hany hbk
          go_wp2_with fail
          go_ret2
          exact ⟨⟨_, rfl, World.ownsRow_nil _ _ _ _⟩, hbs⟩
      · obtain rfl : k = L.length := by omega
        have hnone : ¬ (L.map (widK area depth)).any bigB = true := by
          intro hh
          rw [List.any_eq_true] at hh
          obtain ⟨y, hy1, hy2⟩ := hh
          obtain ⟨z, hz1, rfl⟩ := List.mem_map.1 hy1
          obtain ⟨j, hj, rfl⟩ := List.getElem_of_mem hz1
          rw [hnb.out j hj hj] at hy2
          cases hy2
        have h3 := HM2.out.trans (if_neg hnone)
        simp only [Prod.mk.injEq] at h3
        obtain ⟨rfl, rfl⟩ := h3
        rw [widR_end] at hown
        clear hnone
        go_wp2_with fail
        go_ret2
        exact ⟨⟨_, rfl, hown⟩, hb⟩

end Go.Proofs.YtjgfgbiohbgcaaaGreat

namespace Go.Proofs.YtjgfgbiohbgcaaaGreat
open Go.RowKit
set_option linter.unusedVariables false
set_option linter.unusedSimpArgs false

def exT : List Kn := [⟨0, 0⟩, ⟨2000, 2000000⟩]
def exW : List Kn := [⟨0, 0⟩, ⟨1000, 1000000⟩, ⟨2000, 2500000⟩]
def exN (a : Option Addr) (c : Nat) : Nd := ⟨⟨#[109]⟩, 1, 0, 0, 500, 2500, ⟨a, c, exT⟩, false, 0⟩
theorem exT_is : shaM 1000000 2000 = (exT, 0) := by kernel_rfl
theorem exN_l1 (a : Option Addr) (c : Nat) : levXM (exN a c) 1000000 = (1500, 0) := by kernel_rfl
theorem exN_l2 (a : Option Addr) (c : Nat) : levXM (exN a c) 999999 = (1499, 0) := by kernel_rfl
theorem exN_v (a : Option Addr) (c : Nat) : volXM (exN a c) 1734 = (1234000, 0) := by kernel_rfl
theorem exW_is : widM exT 1000 500000 = (exW, 0) := by kernel_rfl

set_option maxRecDepth 100000 in
set_option maxHeartbeats 8000000 in
theorem s9awake_any (w : World) : Calls Tryz.prog 6 #[] w fun e w' => e = .returned (.bool true) ∧ Below w.heap.size w w' := by
  have hsh := fun W => sshaft_any 1000000 2000 W
  rw [exT_is] at hsh
  simp only at hsh
  have hwd := fun v W (hW : IsKns W v exT) => widened_any exT 1000 500000 v W hW
  rw [exW_is] at hwd
  simp only at hwd
  go_enter Tryz.func6, Tryz.ntmps6
  go_wp2_with fail
  refine Calls.to (hsh _) ?_
  rintro e w1 ⟨v1, rfl, hown1⟩ hb1
  have hT1 := hown1.isL eKn_len
  clear hown1 hsh
  obtain ⟨a1, c1, rfl, hc1, hc1', hC1⟩ := hT1
  have hN : gNd w1 (exN a1 c1) := by
    refine ⟨by show (1 : Nat) ≤ maxLen; decide, rfl, rfl, rfl, rfl, rfl, ⟨hc1, hc1', hC1, ?_⟩, rfl⟩
    intro k hk
    simp only [exN, exT, List.mem_cons, List.not_mem_nil, or_false] at hk
    rcases hk with rfl | rfl <;> exact ⟨rfl, rfl⟩
  have hA1 := alloc_below w1 (.cells (eNd (exN a1 c1)).toArray 27)
  have HNX := Lib.hid (NdBx.new w1 (exN a1 c1) 27)
  have HN := Lib.hid (rdNd.mono hN hA1)
  have HT : Hid (IsKns (w1.alloc (.cells (eNd (exN a1 c1)).toArray 27)) (.slice a1 exT.length c1) exT) := (show IsKns w1 (.slice a1 exT.length c1) exT from ⟨a1, c1, rfl, hc1, hc1', hC1⟩).mono hA1
  have hb1 := hb1.trans (hA1.mono hb1.size)
  clear hN hA1 hC1 hc1 hc1'
  have hl1 := fun W hW => slev_any (exN a1 c1) 1000000 W hW
  have hl2 := fun W hW => slev_any (exN a1 c1) 999999 W hW
  have hvo := fun W hW => svol_any (exN a1 c1) 1734 W hW
  rw [exN_l1] at hl1
  rw [exN_l2] at hl2
  rw [exN_v] at hvo
  simp only at hl1 hl2 hvo
  go_wp2_with fail
  refine Calls.go hb1 (hl1 _ HN.out) ?_
  rintro e w2 rfl hb2' hb2
  have HNX := Lib.hid (HNX.out.mono hb2')
  have HN := Lib.hid (rdNd.mono HN.out hb2')
  have HT := Lib.hid (HT.out.mono hb2')
  obtain ⟨n0, n1, n2, n3, n4, n5, n6, n7, n8⟩ := HNX.out
  simp only [exN, vSl] at n0 n1 n2 n3 n4 n5 n6 n7 n8
  clear hb2' hb1 hl1
  go_wp2_with fail
  refine Calls.go hb2 (hl2 _ HN.out) ?_
  rintro e w3 rfl hb3' hb3
  clear n0 n1 n2 n3 n4 n5 n6 n7 n8
  have HNX := Lib.hid (HNX.out.mono hb3')
  have HN := Lib.hid (rdNd.mono HN.out hb3')
  have HT := Lib.hid (HT.out.mono hb3')
  obtain ⟨n0, n1, n2, n3, n4, n5, n6, n7, n8⟩ := HNX.out
  simp only [exN, vSl] at n0 n1 n2 n3 n4 n5 n6 n7 n8
  clear hb3' hb2 hl2
  go_wp2_with fail
  refine Calls.go hb3 (hvo _ HN.out) ?_
  rintro e w4 rfl hb4' hb4
  clear n0 n1 n2 n3 n4 n5 n6 n7 n8
  have HNX := Lib.hid (HNX.out.mono hb4')
  have HN := Lib.hid (rdNd.mono HN.out hb4')
  have HT := Lib.hid (HT.out.mono hb4')
  obtain ⟨n0, n1, n2, n3, n4, n5, n6, n7, n8⟩ := HNX.out
  simp only [exN, vSl] at n0 n1 n2 n3 n4 n5 n6 n7 n8
  clear hb4' hb3 hvo
  go_wp2_with fail
  refine Calls.go hb4 (hwd _ _ HT.out) ?_
  rintro e w5 ⟨v5, rfl, hown5⟩ hb5' hb5
  have hT5 := hown5.isL eKn_len
  clear n0 n1 n2 n3 n4 n5 n6 n7 n8
  clear hb5' hb4 hwd hown5
  go_wp2_with fail
  have hq := isL_lit eKn 2 eKn_len (w5.alloc (.cells #[.int .i64 0, .int .i64 0, .int .i64 1000, .int .i64 1000000, .int .i64 2000, .int .i64 2500000] 71)) w5.heap.size 71 _ exW 3 3 (heap_alloc_new w5 _) rfl rfl (by decide) (by decide)
  have hA5 := alloc_below w5 (.cells #[.int .i64 0, .int .i64 0, .int .i64 1000, .int .i64 1000000, .int .i64 2000, .int .i64 2500000] 71)
  refine Calls.go (hb5.trans (hA5.mono hb5.size)) (eqKns exW exW _ _ _ (hT5.mono hA5) hq) ?_
  rintro e w6 rfl _ hb6
  rw [decide_eq_true (rfl : exW = exW)]
  clear hq hA5 hT5 hb5
  go_wp2_with fail
  go_ret
  exact ⟨rfl, hb6⟩

end Go.Proofs.YtjgfgbiohbgcaaaGreat
