/- The reference's Widened. Conditions: the table is a shape. -/
import Derived.Test.YtjgfgbiohbgcaaaSwx
import Derived.Test.YtjgfgbiohbgcaaaSwr
import Derived.Test.YtjgfgbiohbgcaaaR6v
import Derived.Test.YtjgfgbiohbgcaaaCln
namespace Go.Proofs.Ytjgfgbiohbgcaaa
open Go.RowKit
set_option linter.unusedVariables false
set_option linter.unusedSimpArgs false

set_option maxRecDepth 100000 in
set_option maxHeartbeats 16000000 in
theorem r29wid_any (xs : List Kn) (depth area : Int) (v : Value) (w : World) (hv : IsKns w v xs) (hs : shB xs = true) : Calls Try.prog 13 #[v, .int .i64 depth, .int .i64 area] w fun e w' =>
    (∃ v', e = .returned (.tuple #[v', .int .i64 (widM xs depth area).2]) ∧ Own w.heap.size 33 eKn 2 w' v' (widM xs depth area).1) ∧ Below w.heap.size w w' := by
  obtain ⟨ht, hl0, e1, e2, e3, e4, e5, e6⟩ := shB_parts hs
  have hlen := tabB_len ht
  have hl1 : xs.length - 1 < xs.length := by omega
  obtain ⟨⟨R, E⟩, hres⟩ : ∃ r, widM xs depth area = r := ⟨_, rfl⟩
  rw [hres]
  have HRES := Lib.hid hres
  clear hres
  have HV := Lib.hid hv
  have hfl := fun W (hW : IsKns W v xs) => r6floor_any xs depth v W hW ht
  obtain ⟨a, cap, rfl, hcap, hbig, hsC⟩ := hv
  obtain ⟨⟨lx, ly⟩, hlk⟩ : ∃ K, lastK xs = K := ⟨_, rfl⟩
  have hL : xs[xs.length - 1]'hl1 = ⟨lx, ly⟩ := e3.trans hlk
  rw [hlk] at e4 e5 e6
  simp only at e4 e5 e6
  have x1 : IntKind.i64.wrap ((xs.length : Int) - 1) = ((xs.length - 1 : Nat) : Int) := by rw [IntKind.wrap_i64]; omega
  clear e3
  generalize hN : xs.length - 1 = N at *
  have i2 : (N : Int) < xs.length := by omega
  have hrange : ∀ b, (btwB depth 0 lx && btwB area 0 1099511627776) = b → b = false → (R, E) = ([], 2) := by
    intro b h1 h2
    refine HRES.out.symm.trans ?_
    unfold widM
    rw [if_neg (by rw [hs]; simp), if_pos (by rw [hlk, h1, h2])]
  obtain ⟨b, off, hab, d1, d2⟩ := hsC.kn N hl1
  subst hab
  rw [hL] at d1 d2
  simp only at d1 d2
  cases c1 : decide (depth < 0)
  rotate_left
  · have h3 := hrange _ rfl (by simp only [decide_eq_true_eq] at c1; simp [btwB]; omega)
    simp only [Prod.mk.injEq] at h3
    obtain ⟨rfl, rfl⟩ := h3
    clear hrange hs hfl e1 e2 ht
    go_enter Try.func13, Try.ntmps13
    go_wp2_with fail
    go_ret2
    exact ⟨⟨_, rfl, World.ownsRow_nil _ _ _ _⟩, Below.refl _ _⟩
  cases c2 : decide (lx < depth)
  rotate_left
  · have h3 := hrange _ rfl (by simp only [decide_eq_true_eq] at c2; simp [btwB]; omega)
    simp only [Prod.mk.injEq] at h3
    obtain ⟨rfl, rfl⟩ := h3
    clear hrange hs hfl e1 e2 ht
    go_enter Try.func13, Try.ntmps13
    go_wp2_with fail
    go_ret2
    exact ⟨⟨_, rfl, World.ownsRow_nil _ _ _ _⟩, Below.refl _ _⟩
  cases c3 : decide (area < 0)
  rotate_left
  · have h3 := hrange _ rfl (by simp only [decide_eq_true_eq] at c3; simp [btwB]; omega)
    simp only [Prod.mk.injEq] at h3
    obtain ⟨rfl, rfl⟩ := h3
    clear hrange hs hfl e1 e2 ht
    go_enter Try.func13, Try.ntmps13
    go_wp2_with fail
    go_ret2
    exact ⟨⟨_, rfl, World.ownsRow_nil _ _ _ _⟩, Below.refl _ _⟩
  cases c4 : decide ((1099511627776 : Int) < area)
  rotate_left
  · have h3 := hrange _ rfl (by simp only [decide_eq_true_eq] at c4; simp [btwB]; omega)
    simp only [Prod.mk.injEq] at h3
    obtain ⟨rfl, rfl⟩ := h3
    clear hrange hs hfl e1 e2 ht
    go_enter Try.func13, Try.ntmps13
    go_wp2_with fail
    go_ret2
    exact ⟨⟨_, rfl, World.ownsRow_nil _ _ _ _⟩, Below.refl _ _⟩
  have HC : Hid (0 ≤ depth ∧ depth ≤ lx ∧ lx ≤ 4194304 ∧ 0 ≤ area ∧ area ≤ 1099511627776) := by
    have c1' := c1; have c2' := c2; have c3' := c3; have c4' := c4
    simp only [decide_eq_false_iff_not] at c1' c2' c3' c4'
    exact Lib.hid (show 0 ≤ depth ∧ depth ≤ lx ∧ lx ≤ 4194304 ∧ 0 ≤ area ∧ area ≤ 1099511627776 by omega)
  have HM : Hid ((R, E) = if 100 < (insL xs depth).length then ([], 4) else if (widL xs depth area).any bigB = true then ([], 5) else (widL xs depth area, 0)) := by
    refine Lib.hid (HRES.out.symm.trans ?_)
    have := HC.out
    unfold widM
    rw [if_neg (by rw [hs]; simp), if_neg (by rw [hlk]; simp [btwB]; omega)]
  have HEND := Lib.hid (outW_end hs (by rw [hlk]; exact HC.out.2.1) area)
  have HIFF := Lib.hid (fun i hi => insA_iff hs HC.out.1 i hi)
  have HSAME := Lib.hid (big_same hs depth area)
  have HAT := Lib.hid (fun j hj => shB_at hs j hj)
  have HLEN : Hid (xs.length ≤ 100) := hlen.2
  have HIL := Lib.hid (insL_len xs depth)
  have HWL : Hid ((widL xs depth area).length = (insL xs depth).length) := by unfold widL; exact Lib.hid (by simp)
  have HOL : Hid (∀ i, i ≤ xs.length → (outW xs depth area i).length ≤ i + 1) := Lib.hid (fun i hi => by unfold outW; simp; split <;> omega)
  clear hrange hs e1 e2 e4 e5 e6 hlen hlk HRES
  go_enter Try.func13, Try.ntmps13
  go_wp2_with fail
  go_loopw [8, 9, 10] (fun s8 s9 s10 wr => ∃ (i : Nat) (bg : Bool), i ≤ xs.length ∧ s10 = .int .i64 i ∧ s9 = .bool bg ∧ Own w.heap.size 33 eKn 2 wr s8 (outW xs depth area i) ∧ Below w.heap.size w wr ∧ Hid (bg = ((xs.take i).map (widK area depth)).any bigB)) (fun _ _ i _ => xs.length - (intOf i).toNat)
  case atStart => exact ⟨0, false, Nat.zero_le _, rfl, rfl, by rw [outW_zero]; exact World.ownsRow_nil _ _ _ _, Below.refl _ _, rfl⟩
  case round =>
    as_aux_lemma =>
    obtain ⟨i, bg, hi, rfl, rfl, hown, hb, hbig'⟩ := hrel
    have hol := HOL.out i hi
    have hl100 := HLEN.out
    by_cases hlt : i < xs.length
    · clear d1 d2
      obtain ⟨b', off', hbo, d1, d2⟩ := (hsC.mono hb).kn i hlt
      simp only [Option.some.injEq, Addr.mk.injEq] at hbo
      obtain ⟨rfl, rfl, _⟩ := hbo
      have hat := HAT.out i hlt
      have hiff := HIFF.out i hlt
      have hplain := outW_plain (depth := depth) area i hlt
      have hinsw := outW_ins (depth := depth) area i hlt
      have hbs : ∀ b2, bigB (widK area depth xs[i]) = b2 → ((xs.take (i + 1)).map (widK area depth)).any bigB = (bg || b2) := by
        intro b2 h2
        rw [List.take_succ_eq_append_getElem hlt, List.map_append, List.any_append, ← hbig'.out]
        simp [h2]
      have y1 : IntKind.i64.wrap ((i : Int) + 1) = (i : Int) + 1 := IntWalk.i64_in _ (by omega)
      obtain ⟨⟨kx, ky⟩, hy⟩ : ∃ K, xs[i] = K := ⟨_, rfl⟩
      rw [hy] at d1 d2 hat hiff hplain hinsw hbs
      simp only at d1 d2 hat hiff
      obtain ⟨a1, a2, a3, a4, a5⟩ := HC.out
      have HY := Lib.hid hy
      clear hbig' hy
      have hv8 := hown.isSlice
      obtain ⟨a8, c8, rfl⟩ := hv8
      by_cases hk : depth < kx
      · obtain ⟨D, hD⟩ : ∃ D, kx - depth = D := ⟨_, rfl⟩
        have hD0 : 0 ≤ D ∧ D ≤ 4194304 := by omega
        have m1 : 0 ≤ area * D := Int.mul_nonneg a4 hD0.1
        have m2 : area * D ≤ 1099511627776 * 4194304 := Int.mul_le_mul a5 hD0.2 hD0.1 (by decide)
        obtain ⟨q, hq⟩ : ∃ q, area * D / 1000 = q := ⟨_, rfl⟩
        have hq0 : 0 ≤ q ∧ q ≤ 4611686018427388 := by rw [← hq]; generalize area * D = V at *; omega
        have x1 : IntKind.i64.wrap (kx - depth) = D := by rw [hD]; exact IntWalk.i64_in _ (by omega)
        have x2 : IntKind.i64.wrap (area * D) = area * D := IntWalk.i64_in _ (by generalize area * D = V at *; omega)
        have x3 : IntKind.i64.wrap ((area * D).tdiv 1000) = q := by rw [Int.tdiv_eq_ediv_of_nonneg m1, hq]; exact IntWalk.i64_in _ (by omega)
        have x4 : IntKind.i64.wrap (ky + q) = ky + q := IntWalk.i64_in _ (by omega)
        have hwk : widK area depth ⟨kx, ky⟩ = ⟨kx, ky + q⟩ := by unfold widK; rw [if_pos hk, hD, hq]
        rw [hwk] at hplain hinsw hbs
        have HBIG := Lib.hid (fun b2 (h : decide ((1125899906842624 : Int) < ky + q) = b2) => hbs b2 h)
        have u2 := decide_eq_true hk
        clear m1 m2 hq hD hD0 hwk hbs hq0 hat
        by_cases hA : insA xs depth i
        · obtain ⟨hp, hp1, _⟩ := hiff.1 hA
          have HOUT := Lib.hid (hinsw hA)
          obtain ⟨b', off', hbo, d3, d4⟩ := (hsC.mono hb).kn (i - 1) (by omega)
          simp only [Option.some.injEq, Addr.mk.injEq] at hbo
          obtain ⟨rfl, rfl, _⟩ := hbo
          obtain ⟨⟨px, py⟩, hpy⟩ : ∃ K, xs[i - 1]'(by omega) = K := ⟨_, rfl⟩
          rw [hpy] at d3 d4 hp1
          simp only at d3 d4 hp1
          have u0 : decide ((0 : Int) < (i : Int)) = true := decide_eq_true (by omega)
          have u0' : decide (0 < i) = true := decide_eq_true (by omega)
          have u1 := decide_eq_true hp1
          have x5 : IntKind.i64.wrap ((i : Int) - 1) = ((i - 1 : Nat) : Int) := by rw [IntKind.wrap_i64]; omega
          clear hiff hpy
          generalize hj : i - 1 = j at *
          have i3 : (j : Int) < xs.length := by omega
          clear hA hplain hinsw hp1 hk
          go_wp2_with fail
          refine Calls.go hb (hfl _ (HV.out.mono hb)) ?_
          rintro e w2 rfl hb2' hb2
          have hown2 := hown.below hb2'
          have hz2 := hb2.size
          clear hb2' d1 d2 d3 d4
          generalize tabV xs depth = tv at *
          generalize outW xs depth area i = O at *
          go_upto_region 10 with (at_builtin; go_must (refine wpList_pushB rfl _ _ 23 rfl 33 _ 2 16 undKns infKn rfl (by decide) ⟨depth, tv⟩ eKn_len (by simp [Value.oneCell']) _ O rfl hown2 _ rfl rfl (by omega) (by decide) hz2 _ rfl ?_); intro g2 cap2 w4 hown4 hbg4 hgl4 hb4 hc41 hc42)
          have hb5 := hb2.trans hb4
          obtain ⟨b', off', hbo, d1, d2⟩ := (hsC.mono hb5).kn i hlt
          simp only [Option.some.injEq, Addr.mk.injEq] at hbo
          obtain ⟨rfl, rfl, _⟩ := hbo
          rw [HY.out] at d1 d2
          simp only at d1 d2
          clear hown hown2 hb2 hb hb4
          cases hbY : decide ((1125899906842624 : Int) < (ky + q))
          all_goals
            cases bg
            all_goals
              have hownA := hown4.below (alloc_below w4 (.cells #[.int .i64 kx, .int .i64 (ky + q)] 33))
              have hbA := hb5.alloc hb5.size (.cells #[.int .i64 kx, .int .i64 (ky + q)] 33)
              have hzA := hbA.size
              go_wp2_with (at_builtin; go_must (refine wpList_pushB rfl _ _ 23 rfl 33 _ 2 16 undKns infKn rfl (by decide) ⟨kx, (ky + q)⟩ eKn_len (by simp [Value.oneCell']) _ (O ++ [⟨depth, tv⟩]) rfl hownA (w4.heap.size + 1) rfl (by simp) (by first | omega | (simp; omega)) (by decide) hzA _ rfl ?_); intro g3 cap3 w3 hown3 hbg3 hgl3 hb3 hc31 hc32)
              go_roundw
              case measure => simp [intOf]; omega
              case rel => exact ⟨i + 1, _, by omega, by go_num, rfl, by rw [HOUT.out]; have h := hown3; (try rw [List.length_append, List.length_singleton] at h); exact h, hbA.trans hb3, (HBIG.out _ hbY).symm⟩
        · have HOUT := Lib.hid (hplain hA)
          by_cases hp : i = 0
          · have u0 : decide ((0 : Int) < (i : Int)) = false := decide_eq_false (by omega)
            have u0' : decide (0 < i) = false := decide_eq_false (by omega)
            clear hA hiff hplain hinsw hk hp
            generalize outW xs depth area i = O at *
            cases hbY : decide ((1125899906842624 : Int) < (ky + q))
            all_goals
              cases bg
              all_goals
                have hownA := hown.below (alloc_below wr (.cells #[.int .i64 kx, .int .i64 (ky + q)] 33))
                have hbA := hb.alloc hb.size (.cells #[.int .i64 kx, .int .i64 (ky + q)] 33)
                have hzA := hbA.size
                go_wp2_with (at_builtin; go_must (refine wpList_pushB rfl _ _ 23 rfl 33 _ 2 16 undKns infKn rfl (by decide) ⟨kx, (ky + q)⟩ eKn_len (by simp [Value.oneCell']) _ O rfl hownA (wr.heap.size + 1) rfl (by simp) (by first | omega | (simp; omega)) (by decide) hzA _ rfl ?_); intro g3 cap3 w3 hown3 hbg3 hgl3 hb3 hc31 hc32)
                go_roundw
                case measure => simp [intOf]; omega
                case rel => exact ⟨i + 1, _, by omega, by go_num, rfl, by rw [HOUT.out]; have h := hown3; (try rw [List.length_append, List.length_singleton] at h); exact h, hbA.trans hb3, (HBIG.out _ hbY).symm⟩
          · have hp0 : 0 < i := by omega
            obtain ⟨b', off', hbo, d3, d4⟩ := (hsC.mono hb).kn (i - 1) (by omega)
            simp only [Option.some.injEq, Addr.mk.injEq] at hbo
            obtain ⟨rfl, rfl, _⟩ := hbo
            obtain ⟨⟨px, py⟩, hpy⟩ : ∃ K, xs[i - 1]'(by omega) = K := ⟨_, rfl⟩
            have hp1 : ¬ px < depth := fun g => hA (hiff.2 ⟨hp0, by rw [hpy]; exact g, hk⟩)
            rw [hpy] at d3 d4
            simp only at d3 d4
            have u0 : decide ((0 : Int) < (i : Int)) = true := decide_eq_true (by omega)
            have u0' : decide (0 < i) = true := decide_eq_true (by omega)
            have u1 := decide_eq_false hp1
            have x5 : IntKind.i64.wrap ((i : Int) - 1) = ((i - 1 : Nat) : Int) := by rw [IntKind.wrap_i64]; omega
            clear hiff hpy
            generalize hj : i - 1 = j at *
            have i3 : (j : Int) < xs.length := by omega
            clear hA hplain hinsw hp1 hk hp
            generalize outW xs depth area i = O at *
            cases hbY : decide ((1125899906842624 : Int) < (ky + q))
            all_goals
              cases bg
              all_goals
                have hownA := hown.below (alloc_below wr (.cells #[.int .i64 kx, .int .i64 (ky + q)] 33))
                have hbA := hb.alloc hb.size (.cells #[.int .i64 kx, .int .i64 (ky + q)] 33)
                have hzA := hbA.size
                go_wp2_with (at_builtin; go_must (refine wpList_pushB rfl _ _ 23 rfl 33 _ 2 16 undKns infKn rfl (by decide) ⟨kx, (ky + q)⟩ eKn_len (by simp [Value.oneCell']) _ O rfl hownA (wr.heap.size + 1) rfl (by simp) (by first | omega | (simp; omega)) (by decide) hzA _ rfl ?_); intro g3 cap3 w3 hown3 hbg3 hgl3 hb3 hc31 hc32)
                go_roundw
                case measure => simp [intOf]; omega
                case rel => exact ⟨i + 1, _, by omega, by go_num, rfl, by rw [HOUT.out]; have h := hown3; (try rw [List.length_append, List.length_singleton] at h); exact h, hbA.trans hb3, (HBIG.out _ hbY).symm⟩
      · have hA : ¬ insA xs depth i := fun g => hk (hiff.1 g).2.2
        have HOUT := Lib.hid (hplain hA)
        have hwk : widK area depth ⟨kx, ky⟩ = ⟨kx, ky⟩ := by unfold widK; rw [if_neg hk]
        rw [hwk] at hbs HOUT
        have HBIG := Lib.hid (fun b2 (h : decide ((1125899906842624 : Int) < ky) = b2) => hbs b2 h)
        have u2 := decide_eq_false hk
        clear hwk hbs hat
        by_cases hp : i = 0
        · have u0 : decide ((0 : Int) < (i : Int)) = false := decide_eq_false (by omega)
          have u0' : decide (0 < i) = false := decide_eq_false (by omega)
          clear hA hiff hplain hinsw hk hp
          generalize outW xs depth area i = O at *
          cases hbY : decide ((1125899906842624 : Int) < ky)
          all_goals
            cases bg
            all_goals
              have hownA := hown.below (alloc_below wr (.cells #[.int .i64 kx, .int .i64 ky] 33))
              have hbA := hb.alloc hb.size (.cells #[.int .i64 kx, .int .i64 ky] 33)
              have hzA := hbA.size
              go_wp2_with (at_builtin; go_must (refine wpList_pushB rfl _ _ 23 rfl 33 _ 2 16 undKns infKn rfl (by decide) ⟨kx, ky⟩ eKn_len (by simp [Value.oneCell']) _ O rfl hownA (wr.heap.size + 1) rfl (by simp) (by first | omega | (simp; omega)) (by decide) hzA _ rfl ?_); intro g3 cap3 w3 hown3 hbg3 hgl3 hb3 hc31 hc32)
              go_roundw
              case measure => simp [intOf]; omega
              case rel => exact ⟨i + 1, _, by omega, by go_num, rfl, by rw [HOUT.out]; have h := hown3; (try rw [List.length_append, List.length_singleton] at h); exact h, hbA.trans hb3, (HBIG.out _ hbY).symm⟩
        · have hp0 : 0 < i := by omega
          obtain ⟨b', off', hbo, d3, d4⟩ := (hsC.mono hb).kn (i - 1) (by omega)
          simp only [Option.some.injEq, Addr.mk.injEq] at hbo
          obtain ⟨rfl, rfl, _⟩ := hbo
          obtain ⟨⟨px, py⟩, hpy⟩ : ∃ K, xs[i - 1]'(by omega) = K := ⟨_, rfl⟩
          rw [hpy] at d3 d4
          simp only at d3 d4
          have u0 : decide ((0 : Int) < (i : Int)) = true := decide_eq_true (by omega)
          have u0' : decide (0 < i) = true := decide_eq_true (by omega)
          have x5 : IntKind.i64.wrap ((i : Int) - 1) = ((i - 1 : Nat) : Int) := by rw [IntKind.wrap_i64]; omega
          clear hiff hpy
          generalize hj : i - 1 = j at *
          have i3 : (j : Int) < xs.length := by omega
          clear hA hplain hinsw hk hp
          generalize outW xs depth area i = O at *
          cases u1 : decide (px < depth)
          · cases hbY : decide ((1125899906842624 : Int) < ky)
            all_goals
              cases bg
              all_goals
                have hownA := hown.below (alloc_below wr (.cells #[.int .i64 kx, .int .i64 ky] 33))
                have hbA := hb.alloc hb.size (.cells #[.int .i64 kx, .int .i64 ky] 33)
                have hzA := hbA.size
                go_wp2_with (at_builtin; go_must (refine wpList_pushB rfl _ _ 23 rfl 33 _ 2 16 undKns infKn rfl (by decide) ⟨kx, ky⟩ eKn_len (by simp [Value.oneCell']) _ O rfl hownA (wr.heap.size + 1) rfl (by simp) (by first | omega | (simp; omega)) (by decide) hzA _ rfl ?_); intro g3 cap3 w3 hown3 hbg3 hgl3 hb3 hc31 hc32)
                go_roundw
                case measure => simp [intOf]; omega
                case rel => exact ⟨i + 1, _, by omega, by go_num, rfl, by rw [HOUT.out]; have h := hown3; (try rw [List.length_append, List.length_singleton] at h); exact h, hbA.trans hb3, (HBIG.out _ hbY).symm⟩
          · cases hbY : decide ((1125899906842624 : Int) < ky)
            all_goals
              cases bg
              all_goals
                have hownA := hown.below (alloc_below wr (.cells #[.int .i64 kx, .int .i64 ky] 33))
                have hbA := hb.alloc hb.size (.cells #[.int .i64 kx, .int .i64 ky] 33)
                have hzA := hbA.size
                go_wp2_with (at_builtin; go_must (refine wpList_pushB rfl _ _ 23 rfl 33 _ 2 16 undKns infKn rfl (by decide) ⟨kx, ky⟩ eKn_len (by simp [Value.oneCell']) _ O rfl hownA (wr.heap.size + 1) rfl (by simp) (by first | omega | (simp; omega)) (by decide) hzA _ rfl ?_); intro g3 cap3 w3 hown3 hbg3 hgl3 hb3 hc31 hc32)
                go_roundw
                case measure => simp [intOf]; omega
                case rel => exact ⟨i + 1, _, by omega, by go_num, rfl, by rw [HOUT.out]; have h := hown3; (try rw [List.length_append, List.length_singleton] at h); exact h, hbA.trans hb3, (HBIG.out _ hbY).symm⟩
    · obtain rfl : i = xs.length := by omega
      have hbf := hbig'.out
      rw [List.take_of_length_le (Nat.le_refl _), HSAME.out] at hbf
      rw [HEND.out] at hown
      have hwl := HWL.out
      have hil := HIL.out
      obtain ⟨a8, c8, hv8⟩ := hown.isSlice
      subst hv8
      by_cases hl : 100 < (insL xs depth).length
      · have h3 := HM.out.trans (if_pos hl)
        simp only [Prod.mk.injEq] at h3
        obtain ⟨rfl, rfl⟩ := h3
        have u := decide_eq_true (show (100 : Int) < ((widL xs depth area).length : Int) by omega)
        clear hl hwl hil hbf
        generalize widL xs depth area = W at *
        go_wp2_with fail
        go_ret2
        exact ⟨⟨_, rfl, World.ownsRow_nil _ _ _ _⟩, hb⟩
      · have hm2 := HM.out.trans (if_neg hl)
        have u := decide_eq_false (show ¬ (100 : Int) < ((widL xs depth area).length : Int) by omega)
        rw [← hbf] at hm2
        clear hl hwl hil hbf
        cases bg
        · rw [if_neg (by simp)] at hm2
          simp only [Prod.mk.injEq] at hm2
          obtain ⟨rfl, rfl⟩ := hm2
          go_wp2_with fail
          go_ret2
          exact ⟨⟨_, rfl, hown⟩, hb⟩
        · rw [if_pos rfl] at hm2
          simp only [Prod.mk.injEq] at hm2
          obtain ⟨rfl, rfl⟩ := hm2
          generalize widL xs depth area = W at *
          go_wp2_with fail
          go_ret2
          exact ⟨⟨_, rfl, World.ownsRow_nil _ _ _ _⟩, hb⟩

end Go.Proofs.Ytjgfgbiohbgcaaa
