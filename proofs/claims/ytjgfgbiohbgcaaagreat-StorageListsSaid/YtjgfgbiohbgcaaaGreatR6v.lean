/- The reference's table: before, Value, Floor. Conditions: the table is right. -/
import Derived.Test.YtjgfgbiohbgcaaaGreatR6l
import Derived.Test.YtjgfgbiohbgcaaaGreatWrf
namespace Go.Proofs.YtjgfgbiohbgcaaaGreat
open Go.RowKit
set_option linter.unusedVariables false
set_option linter.unusedSimpArgs false

set_option maxRecDepth 100000 in
set_option maxHeartbeats 1000000 in
theorem r6before_any (xs : List Kn) (x : Int) (v : Value) (w : World) (hv : IsKns w v xs) :
    Calls Tryz.prog 97 #[v, .int .i64 x] w fun e w' => e = .returned (.int .i64 (befGo x xs 0 (-1))) ∧ Below w.heap.size w w' := by
  obtain ⟨a, cap, rfl, hcap, hbig, hs⟩ := hv
  have HB := Lib.hid hbig
  go_enter Tryz.func97, Tryz.ntmps97
  go_wp2_with fail
  go_loopw [5, 6] (fun s5 s6 wr => ∃ (i : Nat) (k : Int), i ≤ xs.length ∧ s6 = .int .i64 i ∧ s5 = .int .i64 k ∧ Below w.heap.size w wr ∧ Hid (befGo x xs 0 (-1) = befGo x (xs.drop i) i k)) (fun _ i _ => xs.length - (intOf i).toNat)
  case atStart => exact ⟨0, -1, Nat.zero_le _, rfl, rfl, Below.refl _ _, rfl⟩
  case round =>
    as_aux_lemma =>
    obtain ⟨i, k, hi, rfl, rfl, hb, hm⟩ := hrel
    by_cases hlt : i < xs.length
    · obtain ⟨b, off, rfl, d1, d2⟩ := (hs.mono hb).kn i hlt
      have hstep : Hid (befGo x (xs.drop i) i k = befGo x (xs.drop (i + 1)) (i + 1) (if xs[i].X ≤ x then (i : Int) else k)) := by
        rw [List.drop_eq_getElem_cons hlt]; rfl
      clear hs
      generalize xs[i] = y at *
      obtain ⟨yx, yy⟩ := y
      simp only at d1 d2 hstep
      have x1 : IntKind.i64.wrap ((i : Int) + 1) = i + 1 := IntWalk.i64_in _ (by have := HB.out; omega)
      by_cases q : yx ≤ x
      · have u := decide_eq_true q
        have HM := Lib.hid (hm.out.trans (hstep.out.trans (by rw [if_pos q])))
        clear q hm hstep
        go_wp2_with fail
        go_roundw
        case measure => simp [intOf]; omega
        case rel => exact ⟨i + 1, i, by omega, by go_num, rfl, hb, HM.out⟩
      · have u := decide_eq_false q
        have HM := Lib.hid (hm.out.trans (hstep.out.trans (by rw [if_neg q])))
        clear q hm hstep
        go_wp2_with fail
        go_roundw
        case measure => simp [intOf]; omega
        case rel => exact ⟨i + 1, k, by omega, by go_num, rfl, hb, HM.out⟩
    · obtain rfl : i = xs.length := by omega
      have hm2 := hm.out
      rw [List.drop_eq_nil_of_le (Nat.le_refl _)] at hm2
      have HM := Lib.hid (show befGo x xs 0 (-1) = k from hm2)
      clear hm2 hm hs
      go_wp2_with fail
      go_ret
      exact ⟨ret_int HM.out.symm, hb⟩

/-- Three numbers of which the first is v. -/
def IsVal (v : Int) (e : Ending) : Prop := ∃ r d, e = .returned (.tuple #[.int .i64 v, .int .i64 r, .int .i64 d])
theorem isVal (v r d : Int) : IsVal v (.returned (.tuple #[.int .i64 v, .int .i64 r, .int .i64 d])) := ⟨r, d, rfl⟩

set_option maxRecDepth 100000 in
set_option maxHeartbeats 4000000 in
theorem r6mid (xs : List Kn) (x : Int) (a : Option Addr) (cap : Nat) (w : World) (hs : IsC eKn 2 w a xs) (hcap : xs.length ≤ cap) (hbig : cap ≤ 9223372036854775807) (hlen : xs.length ≤ 100) (m : Nat) (hm0 : m < xs.length) (hm : m + 1 < xs.length)
    (ax ay bx b_y : Int) (hA : xs[m] = ⟨ax, ay⟩) (hB : xs[m + 1] = ⟨bx, b_y⟩) (U L D : Nat) (eU : b_y = ay + U) (eL : x = ax + L) (eD : bx = ax + D) (hL : L < D) (hD : D ≤ 2251799813685248) (hU : U ≤ 2251799813685248)
    (b1 : -1125899906842624 ≤ ax ∧ ax ≤ 1125899906842624) (b2 : -1125899906842624 ≤ ay ∧ ay ≤ 1125899906842624)
    (hbs : Calls Tryz.prog 97 #[.slice a xs.length cap, .int .i64 x] w fun e w' => e = .returned (.int .i64 (m : Int)) ∧ Below w.heap.size w w') :
    Calls Tryz.prog 76 #[.slice a xs.length cap, .int .i64 x] w fun e w' => IsVal (ay + ((U * L / D : Nat) : Int)) e ∧ Below w.heap.size w w' := by
  have hD0 : 0 < D := Nat.lt_of_le_of_lt (Nat.zero_le L) hL
  have hqU : U * L / D ≤ U := Nat.div_le_of_le_mul (by rw [Nat.mul_comm]; exact Nat.mul_le_mul_right _ (Nat.le_of_lt hL))
  have hfl := fun W => r3floor_any U L D W (by omega) (by omega) hD0 (by omega) (by omega)
  generalize U * L / D = q at *
  have x1 : IntKind.i64.wrap ((m : Int) + 1) = (m : Int) + 1 := by rw [IntKind.wrap_i64]; omega
  have x2 : IntKind.i64.wrap (b_y - ay) = (U : Int) := by rw [IntKind.wrap_i64]; omega
  have x3 : IntKind.i64.wrap (x - ax) = (L : Int) := by rw [IntKind.wrap_i64]; omega
  have x4 : IntKind.i64.wrap (bx - ax) = (D : Int) := by rw [IntKind.wrap_i64]; omega
  have x5 : IntKind.i64.wrap (ay + (q : Int)) = ay + (q : Int) := by rw [IntKind.wrap_i64]; omega
  have x6 : IntKind.i64.wrap ((xs.length : Int) - 1) = (xs.length : Int) - 1 := by rw [IntKind.wrap_i64]; omega
  have g0 : decide ((m : Int) < 0) = false := decide_eq_false (by omega)
  have g1 : ((m : Int) == (xs.length : Int) - 1) = false := by rw [beq_eq_false_iff_ne]; omega
  have r1 : (m : Int) + 1 < xs.length := by omega
  have r2 : (0 : Int) ≤ (m : Int) + 1 := by omega
  have t1 : ((m : Int) + 1).toNat = m + 1 := by omega
  clear eU eL eD hL hD hU b1 b2 hqU hD0
  go_enter Tryz.func76, Tryz.ntmps76
  go_wp2_with fail
  refine Calls.to hbs ?_
  rintro e w1 rfl hb1
  obtain ⟨b, off, rfl, d1, d2⟩ := (hs.mono hb1).kn m hm0
  obtain ⟨b', off', e', d3, d4⟩ := (hs.mono hb1).kn (m + 1) hm
  obtain ⟨rfl, rfl⟩ : b' = b ∧ off' = off := by cases e'; exact ⟨rfl, rfl⟩
  rw [hA] at d1 d2
  rw [hB] at d3 d4
  simp only at d1 d2 d3 d4
  clear hs e' hA hB
  go_wp2_with fail
  go_quiet (fail)
  go_wp2_with fail
  go_quiet (fail)
  go_wp2_with fail
  refine Calls.go (w0 := w) ?_ (hfl _) ?_
  · have := hb1.size
    repeat' (first | exact Below.refl _ _ | assumption | refine Below.more ?_ ?_ _ | refine Below.alloc ?_ ?_ _ | refine Below.drew ?_ | refine below_drewN ?_ _ | refine Below.setCell ?_ ?_ _ | exact Below.size (by assumption) | (simp [go_sem, size_more]; done) | (simp [go_sem, size_more]; omega))
  rintro e w2 rfl hb2' hb2
  have hbd : Below w1.heap.size w1 w2 := Below.trans (by repeat' (first | exact Below.refl _ _ | assumption | refine Below.more ?_ ?_ _ | refine Below.alloc ?_ ?_ _ | refine Below.drew ?_ | refine below_drewN ?_ _ | refine Below.setCell ?_ ?_ _ | exact Below.size (by assumption) | (simp [go_sem, size_more]; done) | (simp [go_sem, size_more]; omega))) (hb2'.mono (by simp))
  have d1 := (hbd.cell (p := ⟨_, _, none⟩) (lt_of_isSome (by rw [d1]; rfl))).trans d1
  have d2 := (hbd.cell (p := ⟨_, _, none⟩) (lt_of_isSome (by rw [d2]; rfl))).trans d2
  clear d3 d4 hb2' hbd hfl hbs x1 x2 x4 x6
  go_wp2_with fail
  go_quiet (fail)
  go_wp2_with fail
  go_ret3
  exact ⟨isVal _ _ _, by repeat' (first | exact Below.refl _ _ | assumption | refine Below.more ?_ ?_ _ | refine Below.alloc ?_ ?_ _ | refine Below.drew ?_ | refine below_drewN ?_ _ | refine Below.setCell ?_ ?_ _ | exact Below.size (by assumption) | (simp [go_sem, size_more]; done) | (simp [go_sem, size_more]; omega))⟩

set_option maxRecDepth 100000 in
set_option maxHeartbeats 4000000 in
theorem r6value_any (xs : List Kn) (x : Int) (v : Value) (w : World) (hv : IsKns w v xs) (h : tabB xs = true) :
    Calls Tryz.prog 76 #[v, .int .i64 x] w fun e w' => IsVal (tabV xs x) e ∧ Below w.heap.size w w' := by
  have hbs := r6before_any xs x v w hv
  rw [befGo_is h x xs 0 (-1) rfl (Nat.zero_le _) (by simp [cntX])] at hbs
  rw [← refV_is h x]
  obtain ⟨a, cap, rfl, hcap, hbig, hs⟩ := hv
  have hlen := tabB_len h
  have hcl := cntX_le xs (x + 1)
  have hlt := fun j hj => cntX_lt h (x + 1) j hj
  by_cases h0 : cntX xs (x + 1) = 0
  · have hP : refV xs x = (xs[0]'(by omega)).Y := by unfold refV; simp only [h0, if_true]; rw [knAt_is (by omega)]
    rw [hP]
    rw [h0, show ((0 : Nat) : Int) - 1 = -1 from rfl] at hbs
    have hk : 0 < xs.length := by omega
    obtain ⟨K0, hK0⟩ : ∃ K0, xs[0] = K0 := ⟨_, rfl⟩
    rw [hK0]
    clear hlt hP h0 hcl
    go_enter Tryz.func76, Tryz.ntmps76
    go_wp2_with fail
    refine Calls.to hbs ?_
    rintro e w1 rfl hb1
    obtain ⟨b, off, rfl, d1, d2⟩ := (hs.mono hb1).kn 0 hk
    rw [hK0] at d1 d2
    simp only [Nat.zero_mul, Nat.add_zero] at d1 d2
    clear hs
    go_wp2_with fail
    go_ret3
    exact ⟨isVal _ _ _, hb1⟩
  · obtain ⟨m, hm⟩ : ∃ m, m + 1 = cntX xs (x + 1) := ⟨cntX xs (x + 1) - 1, by omega⟩
    have hm0 : m < xs.length := by omega
    rw [show ((cntX xs (x + 1) : Nat) : Int) - 1 = (m : Int) from by omega] at hbs
    by_cases h2 : cntX xs (x + 1) = xs.length
    · have hP : refV xs x = xs[m].Y := by unfold refV; simp only; rw [if_neg h0, if_pos h2, ← hm, Nat.add_sub_cancel, knAt_is hm0]
      rw [hP]
      obtain ⟨K0, hK0⟩ : ∃ K0, xs[m] = K0 := ⟨_, rfl⟩
      rw [hK0]
      have x6 : IntKind.i64.wrap ((xs.length : Int) - 1) = (m : Int) := by rw [IntKind.wrap_i64]; omega
      have g0 : decide ((m : Int) < 0) = false := decide_eq_false (by omega)
      have g1 : ((m : Int) == (m : Int)) = true := by simp
      clear hlt hP h0 hcl h2 hm
      go_enter Tryz.func76, Tryz.ntmps76
      go_wp2_with fail
      refine Calls.to hbs ?_
      rintro e w1 rfl hb1
      obtain ⟨b, off, rfl, d1, d2⟩ := (hs.mono hb1).kn m hm0
      rw [hK0] at d1 d2
      clear hs
      go_wp2_with fail
      go_ret3
      exact ⟨isVal _ _ _, hb1⟩
    · have hm1 : m + 1 < xs.length := by omega
      have hP : refV xs x = xs[m].Y + (xs[m + 1].Y - xs[m].Y) * (x - xs[m].X) / (xs[m + 1].X - xs[m].X) := by
        unfold refV; simp only; rw [if_neg h0, if_neg h2, ← hm, Nat.add_sub_cancel, knAt_is hm0, knAt_is hm1]
      have k1 := (hlt m hm0).1 (by omega)
      have k2 : x < xs[m + 1].X := by
        have q1 := hlt (m + 1) hm1
        have : ¬ (xs[m + 1].X < x + 1) := fun q => by have := q1.2 q; omega
        omega
      have hst := tabB_lt h m (m + 1) (by omega) hm1
      have t0 := tabB_at h m hm0
      have t1 := tabB_at h (m + 1) hm1
      rw [hP]
      obtain ⟨⟨ax, ay⟩, hA⟩ : ∃ K, xs[m] = K := ⟨_, rfl⟩
      obtain ⟨⟨bx, b_y⟩, hB⟩ : ∃ K, xs[m + 1] = K := ⟨_, rfl⟩
      rw [hA] at k1 hst t0 ⊢
      rw [hB] at k2 hst t1 ⊢
      simp only at k1 k2 hst t0 t1
      have hmid := r6mid xs x a cap w hs hcap hbig hlen.2 m hm0 hm1 ax ay bx b_y hA hB (b_y - ay).toNat (x - ax).toNat (bx - ax).toNat (by omega) (by omega) (by omega) (by omega) (by omega) (by omega) (by omega) (by omega) hbs
      have e1 : ((b_y - ay).toNat : Int) = b_y - ay := Int.toNat_of_nonneg (by omega)
      have e2 : ((x - ax).toNat : Int) = x - ax := Int.toNat_of_nonneg (by omega)
      have e3 : ((bx - ax).toNat : Int) = bx - ax := Int.toNat_of_nonneg (by omega)
      simp only [Int.natCast_ediv, Int.natCast_mul, e1, e2, e3] at hmid
      exact hmid

set_option maxRecDepth 100000 in
set_option maxHeartbeats 1000000 in
theorem r6floor_any (xs : List Kn) (x : Int) (v : Value) (w : World) (hv : IsKns w v xs) (h : tabB xs = true) :
    Calls Tryz.prog 49 #[v, .int .i64 x] w fun e w' => e = .returned (.int .i64 (tabV xs x)) ∧ Below w.heap.size w w' := by
  have hp := r6value_any xs x v w hv h
  obtain ⟨a, cap, rfl, _⟩ := hv
  clear h
  go_enter Tryz.func49, Tryz.ntmps49
  go_wp2_with fail
  refine Calls.to hp ?_
  rintro e w1 ⟨r, d, rfl⟩ hb1
  go_wp2_with fail
  go_ret
  exact ⟨rfl, hb1⟩

end Go.Proofs.YtjgfgbiohbgcaaaGreat
