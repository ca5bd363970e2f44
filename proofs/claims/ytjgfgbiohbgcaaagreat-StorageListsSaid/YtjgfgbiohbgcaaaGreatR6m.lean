/- The reference's Most. Conditions: the table is right, and the value is at least its first one. -/
import Derived.Test.YtjgfgbiohbgcaaaGreatTmi
import Derived.Test.YtjgfgbiohbgcaaaGreatR6v
import Derived.StillTailTactics
namespace Go.Proofs.YtjgfgbiohbgcaaaGreat
open Go.RowKit
set_option linter.unusedVariables false
set_option linter.unusedSimpArgs false

set_option maxRecDepth 100000 in
set_option maxHeartbeats 8000000 in
theorem r6most_any (xs : List Kn) (y : Int) (v : Value) (w : World) (hv : IsKns w v xs) (h : tabB xs = true) (h0 : (xs[0]'(by have := tabB_len h; omega)).Y ≤ y) :
    Calls Tryz.prog 48 #[v, .int .i64 y] w fun e w' => e = .returned (.tuple #[.int .i64 (mostV xs y), .bool true]) ∧ Below w.heap.size w w' := by
  have HK := Lib.hid (befY_is h y h0 xs 0 0 rfl (Nat.zero_le _) (.inl ⟨rfl, rfl⟩))
  have hlen := tabB_len h
  have hl0 : 0 < xs.length := by omega
  have HL : Hid (1 ≤ xs.length ∧ xs.length ≤ 100) := Lib.hid (show 1 ≤ xs.length ∧ xs.length ≤ 100 by omega)
  obtain ⟨V, hV⟩ : ∃ V, mostV xs y = V := ⟨_, rfl⟩
  rw [hV]
  have HV := Lib.hid hV
  clear hV
  have HT := Lib.hid h
  have HC := Lib.hid (cntY_le xs y)
  have hk0 : 0 < cntY xs y := (cntY_lt h y 0 (by omega)).2 h0
  have HK0 := Lib.hid hk0
  obtain ⟨a, cap, rfl, hcap, hbig, hs⟩ := hv
  obtain ⟨b, off, hab, d1, d2⟩ := hs.kn 0 hl0
  subst hab
  obtain ⟨⟨zx, zy⟩, hz⟩ : ∃ K, xs[0]'hl0 = K := ⟨_, rfl⟩
  rw [hz] at d1 d2 h0
  simp only at d1 d2 h0
  have u0 : decide (y < zy) = false := decide_eq_false (by omega)
  have i0 : (0 : Int) < xs.length := by omega
  clear h hlen hk0 hz h0
  go_enter Tryz.func48, Tryz.ntmps48
  go_wp2_with fail
  go_loopw [6, 7] (fun s6 s7 wr => ∃ (i : Nat) (k : Int), i ≤ xs.length ∧ s7 = .int .i64 i ∧ s6 = .int .i64 k ∧ Below w.heap.size w wr ∧ Hid (befY y xs 0 0 = befY y (xs.drop i) i k)) (fun _ i _ => xs.length - (intOf i).toNat)
  case atStart => exact ⟨0, 0, Nat.zero_le _, rfl, rfl, Below.refl _ _, rfl⟩
  case round =>
    as_aux_lemma =>
    obtain ⟨i, k, hi, rfl, rfl, hb, hm⟩ := hrel
    have hl := HL.out
    clear d1 d2
    by_cases hlt : i < xs.length
    · obtain ⟨b', off', hbo, d1, d2⟩ := (hs.mono hb).kn i hlt
      simp only [Option.some.injEq, Addr.mk.injEq] at hbo
      obtain ⟨rfl, rfl, _⟩ := hbo
      have hstep : Hid (befY y (xs.drop i) i k = befY y (xs.drop (i + 1)) (i + 1) (if xs[i].Y ≤ y then (i : Int) else k)) := by
        rw [List.drop_eq_getElem_cons hlt]; rfl
      clear hs
      generalize xs[i] = z at *
      obtain ⟨yx, yy⟩ := z
      simp only at d1 d2 hstep
      have x1 : IntKind.i64.wrap ((i : Int) + 1) = i + 1 := IntWalk.i64_in _ (by omega)
      by_cases q : yy ≤ y
      · have u := decide_eq_true q
        have HM := Lib.hid (hm.out.trans (hstep.out.trans (by rw [if_pos q])))
        clear q hm hstep
        go_wp2_with fail
        go_roundw
        case measure => simp [intOf]; omega
        case rel => exact ⟨i + 1, i, by omega, by go_num, rfl, hb, HM.out⟩
      · have u := decide_eq_false q
        have HM := Lib.hid (hm.out.trans (hstep.out.trans (by rw [if_neg q])))
        clear q hm hstep
        go_wp2_with fail
        go_roundw
        case measure => simp [intOf]; omega
        case rel => exact ⟨i + 1, k, by omega, by go_num, rfl, hb, HM.out⟩
    · obtain rfl : i = xs.length := by omega
      have hm2 := hm.out
      rw [List.drop_eq_nil_of_le (Nat.le_refl _)] at hm2
      have hk : k = (cntY xs y : Int) - 1 := (show befY y xs 0 0 = k from hm2).symm.trans HK.out
      clear hm2 hm
      have h := HT.out
      have hk0 := HK0.out
      have hle := HC.out
      have x6 : IntKind.i64.wrap ((xs.length : Int) - 1) = (xs.length : Int) - 1 := by rw [IntKind.wrap_i64]; omega
      by_cases hfull : cntY xs y = xs.length
      · obtain ⟨N, hN⟩ : ∃ N, xs.length = N + 1 := ⟨xs.length - 1, by omega⟩
        have hN1 : N < xs.length := by omega
        have hNI : (N : Int) < xs.length := by omega
        obtain rfl : k = (N : Int) := by omega
        have g1 : ((N : Int) == (xs.length : Int) - 1) = true := by rw [beq_iff_eq]; omega
        obtain ⟨b', off', hbo, d1, d2⟩ := (hs.mono hb).kn N hN1
        simp only [Option.some.injEq, Addr.mk.injEq] at hbo
        obtain ⟨rfl, rfl, _⟩ := hbo
        have HM : Hid (mostV xs y = (xs[N]'hN1).X) := Lib.hid (by rw [mostV_end h y hfull]; congr 2; omega)
        obtain ⟨⟨px, py⟩, hp⟩ : ∃ K, xs[N]'hN1 = K := ⟨_, rfl⟩
        rw [hp] at d1 d2 HM
        simp only at d1 d2 HM
        clear hk hp hs h hfull hN HK HC HK0 hk0 hle hi
        obtain rfl : V = px := HV.out.symm.trans HM.out
        clear HM HV
        go_wp2_with fail
        go_ret2
        exact ⟨rfl, hb⟩
      · obtain ⟨m, hm⟩ : ∃ m, cntY xs y = m + 1 := ⟨cntY xs y - 1, by omega⟩
        obtain rfl : k = (m : Int) := by omega
        have hm0 : m < xs.length := by omega
        have hm1 : m + 1 < xs.length := by omega
        obtain ⟨e, e1, e2⟩ := mostV_mid h y m hm0 hm1 hm
        have hst := tabB_lt h m (m + 1) (by omega) hm1
        have t0 := tabB_at h m hm0
        have t1 := tabB_at h (m + 1) hm1
        obtain ⟨⟨ax, ay⟩, hA⟩ : ∃ K, xs[m] = K := ⟨_, rfl⟩
        obtain ⟨⟨bx, b_y⟩, hB⟩ : ∃ K, xs[m + 1] = K := ⟨_, rfl⟩
        rw [hA] at e e1 hst t0
        rw [hB] at e e2 hst t1
        simp only at e e1 e2 hst t0 t1
        obtain ⟨U, eU⟩ : ∃ U : Nat, y - ay = U := ⟨(y - ay).toNat, by omega⟩
        obtain ⟨E, eE⟩ : ∃ E : Nat, bx - ax = E := ⟨(bx - ax).toNat, by omega⟩
        obtain ⟨D, eD⟩ : ∃ D : Nat, b_y - ay = D := ⟨(b_y - ay).toNat, by omega⟩
        have hUD : U < D := by omega
        have hD0 : 0 < D := by omega
        have hqE : U * E / D ≤ E := Nat.div_le_of_le_mul (Nat.mul_le_mul_right _ (Nat.le_of_lt hUD))
        have hfl := fun W => r3floor_any U E D W (by omega) (by omega) hD0 (by omega) (by omega)
        rw [eU, eE, eD, ← Int.natCast_mul, ← Int.natCast_ediv] at e
        generalize U * E / D = q at *
        obtain rfl : V = ax + (q : Int) := HV.out.symm.trans e
        clear e HV
        have x1 : IntKind.i64.wrap ((m : Int) + 1) = (m : Int) + 1 := by rw [IntKind.wrap_i64]; omega
        have x2 : IntKind.i64.wrap (y - ay) = (U : Int) := by rw [eU, IntKind.wrap_i64]; omega
        have x3 : IntKind.i64.wrap (bx - ax) = (E : Int) := by rw [eE, IntKind.wrap_i64]; omega
        have x4 : IntKind.i64.wrap (b_y - ay) = (D : Int) := by rw [eD, IntKind.wrap_i64]; omega
        have x5 : IntKind.i64.wrap (ax + (q : Int)) = ax + (q : Int) := by rw [IntKind.wrap_i64]; omega
        have g1 : ((m : Int) == (xs.length : Int) - 1) = false := by rw [beq_eq_false_iff_ne]; omega
        have r1 : (m : Int) + 1 < xs.length := by omega
        have r2 : (0 : Int) ≤ (m : Int) + 1 := by omega
        have r3 : (m : Int) < xs.length := by omega
        have t2 : ((m : Int) + 1).toNat = m + 1 := by omega
        obtain ⟨b', off', hbo, d1, d2⟩ := (hs.mono hb).kn m hm0
        simp only [Option.some.injEq, Addr.mk.injEq] at hbo
        obtain ⟨rfl, rfl, _⟩ := hbo
        obtain ⟨b', off', hbo, d3, d4⟩ := (hs.mono hb).kn (m + 1) hm1
        simp only [Option.some.injEq, Addr.mk.injEq] at hbo
        obtain ⟨rfl, rfl, _⟩ := hbo
        rw [hA] at d1 d2
        rw [hB] at d3 d4
        simp only at d1 d2 d3 d4
        clear hk hs h hfull hm HK HC HK0 HT hk0 hle hi e1 e2 hst t0 t1 eU eE eD hUD hD0 hqE hA hB
        go_wp2_with fail
        go_still_tail 31, (by kernel_rfl)
        change wpList _ _ _ _ _ wr.drew
        go_wp2_with fail
        refine Calls.go (w0 := w) ?_ (hfl _) ?_
        · have := hb.size
          repeat' (first | exact Below.refl _ _ | assumption | refine Below.more ?_ ?_ _ | refine Below.alloc ?_ ?_ _ | refine Below.drew ?_ | refine below_drewN ?_ _ | refine Below.setCell ?_ ?_ _ | exact Below.size (by assumption) | (simp [go_sem, size_more]; done) | (simp [go_sem, size_more]; omega))
        rintro e w2 rfl hb2' hb2
        have hbd : Below wr.heap.size wr w2 := Below.trans (by repeat' (first | exact Below.refl _ _ | assumption | refine Below.more ?_ ?_ _ | refine Below.alloc ?_ ?_ _ | refine Below.drew ?_ | refine below_drewN ?_ _ | refine Below.setCell ?_ ?_ _ | exact Below.size (by assumption) | (simp [go_sem, size_more]; done) | (simp [go_sem, size_more]; omega))) (hb2'.mono (by simp))
        have d1 := (hbd.cell (p := ⟨_, _, none⟩) (lt_of_isSome (by rw [d1]; rfl))).trans d1
        clear d2 d3 d4 hb2' hbd hfl x1 x2 x3 x4 x6
        go_wp2_with fail
        go_ret2
        exact ⟨rfl, by repeat' (first | exact Below.refl _ _ | assumption | refine Below.more ?_ ?_ _ | refine Below.alloc ?_ ?_ _ | refine Below.drew ?_ | refine below_drewN ?_ _ | refine Below.setCell ?_ ?_ _ | exact Below.size (by assumption) | (simp [go_sem, size_more]; done) | (simp [go_sem, size_more]; omega))⟩

end Go.Proofs.YtjgfgbiohbgcaaaGreat
