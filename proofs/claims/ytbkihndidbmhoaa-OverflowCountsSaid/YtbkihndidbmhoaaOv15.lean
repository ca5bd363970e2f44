/- The reference's Right: the same as the program's. Conditions: none. -/
import Derived.Test.YtbkihndidbmhoaaOv10
import Derived.BigRegion
import Derived.Deep.QuietTactic
import Derived.BigQuiet
namespace Go.Proofs.Ytbkihndidbmhoaa
open Go.RowKit
set_option linter.unusedVariables false
set_option linter.unusedSimpArgs false

theorem ratio_eq (T P n : Int) (hP : 1 ≤ P) (hn : 1 ≤ n) : P ≤ (T - 1) / n ↔ (n < T / P ∨ (T / P = n ∧ 0 < T % P)) := by
  rw [Int.le_ediv_iff_mul_le (by omega)]
  have h1 := Int.mul_ediv_add_emod T P
  have h2 := Int.emod_nonneg T (show P ≠ 0 by omega)
  have h3 := Int.emod_lt_of_pos T (show 0 < P by omega)
  generalize T / P = q at *
  generalize T % P = r at *
  constructor
  · intro h
    by_cases hq : n < q
    · exact .inl hq
    · right
      have hqn : q = n := by
        apply Int.le_antisymm (by omega)
        apply Int.not_lt.1; intro hlt
        have : P * (q + 1) ≤ P * n := Int.mul_le_mul_of_nonneg_left (by omega) (by omega)
        rw [Int.mul_add] at this
        omega
      subst hqn
      exact ⟨rfl, by omega⟩
  · rintro (h | ⟨rfl, h⟩)
    · have : P * (n + 1) ≤ P * q := Int.mul_le_mul_of_nonneg_left (by omega) (by omega)
      rw [Int.mul_add] at this
      omega
    · omega

/-- The last test of the reference's Right. -/
theorem evBad_last (t x1 x2 x3 x4 : Int) (q1 : ¬ x1 < t) (q2 : ¬ x2 ≤ x1) (q3 : ¬ 10000 < x2) (q4 : ¬ x4 < 1) (q5 : ¬ 1125899906842624 < x4) (q6 : ¬ x3 < x4) (q7 : ¬ 1152921504606846976 < x3) :
    evBad t ⟨x1, x2, x3, x4⟩ = decide (x4 ≤ (x3 - 1) / (x2 - x1)) := by
  have h := ratio_eq x3 x4 (x2 - x1) (by omega) (by omega)
  rw [Bool.eq_iff_iff, decide_eq_true_iff, h]
  simp [evBad, q1, q2, q3, q4, q5, q6, q7]

set_option maxRecDepth 100000 in
set_option maxHeartbeats 4000000 in
theorem rright_any (xs : List Ev) (v : Value) (w : World) (hv : IsEvs w v xs) :
    Calls Try.prog 56 #[v] w fun e w' => e = .returned (.bool (rightM xs)) ∧ Below w.heap.size w w' := by
  obtain ⟨a, cap, rfl, hcap, hbig, hs⟩ := hv
  unfold rightM
  by_cases h0 : 10000 < xs.length
  · rw [if_pos h0]
    go_enter Try.func56, Try.ntmps56
    go_wp2_with fail
    go_ret
    exact ⟨rfl, Below.refl _ _⟩
  · rw [if_neg h0]
    go_enter Try.func56, Try.ntmps56
    go_wp2_with fail
    go_loopw [3, 4] (fun s3 s6 wr => ∃ (k : Nat) (t : Int), k ≤ xs.length ∧ s6 = .int .i64 k ∧ s3 = .int .i64 t ∧ 0 ≤ t ∧ Below w.heap.size w wr ∧ Hid (rightGo 0 xs = rightGo t (xs.drop k))) (fun _ i _ => xs.length - (intOf i).toNat)
    case atStart => exact ⟨0, 0, Nat.zero_le _, rfl, rfl, by omega, Below.refl _ _, rfl⟩
    case round =>
      obtain ⟨k, t, hk, rfl, rfl, ht0, hb, hm⟩ := hrel
      by_cases hlt : k < xs.length
      · obtain ⟨b, off, rfl, c1, c2, c3, c4⟩ := (hs.mono hb).ev k hlt
        have hdrop : Hid (xs.drop k = xs[k] :: xs.drop (k + 1)) := List.drop_eq_getElem_cons hlt
        clear hs
        generalize xs[k] = x at *
        obtain ⟨x1, x2, x3, x4⟩ := x
        simp only at c1 c2 c3 c4
        have hfalse : evBad t ⟨x1, x2, x3, x4⟩ = true → rightGo 0 xs = false := by
          intro h; rw [hm.out, hdrop.out]; simp [rightGo, h]
        have HF := Lib.hid hfalse
        clear hfalse
        by_cases q1 : x1 < t
        · have dq1 : decide (x1 < t) = true := by simpa using q1
          have E := Lib.hid (HF.out (by simp [evBad, q1]))
          clear q1 HF
          go_wp2_with fail
          go_quiet (fail)
          go_wp2_with fail
          go_ret
          exact ⟨ret_bool E.out.symm, by repeat' (first | exact Below.refl _ _ | assumption | refine Below.more ?_ ?_ _ | refine Below.alloc ?_ ?_ _ | refine Below.drew ?_ | refine below_drewN ?_ _ | refine Below.setCell ?_ ?_ _ | exact Below.size (by assumption) | (simp [go_sem, size_more]; done) | (simp [go_sem, size_more]; omega))⟩
        have dq1 : decide (x1 < t) = false := by simpa using q1
        by_cases q2 : x2 ≤ x1
        · have dq2 : decide (x2 ≤ x1) = true := by simpa using q2
          have E := Lib.hid (HF.out (by simp [evBad, q2]))
          clear q2 HF
          go_wp2_with fail
          go_quiet (fail)
          go_wp2_with fail
          go_ret
          exact ⟨ret_bool E.out.symm, by repeat' (first | exact Below.refl _ _ | assumption | refine Below.more ?_ ?_ _ | refine Below.alloc ?_ ?_ _ | refine Below.drew ?_ | refine below_drewN ?_ _ | refine Below.setCell ?_ ?_ _ | exact Below.size (by assumption) | (simp [go_sem, size_more]; done) | (simp [go_sem, size_more]; omega))⟩
        have dq2 : decide (x2 ≤ x1) = false := by simpa using q2
        by_cases q3 : 10000 < x2
        · have dq3 : decide (10000 < x2) = true := by simpa using q3
          have E := Lib.hid (HF.out (by simp [evBad, q3]))
          clear q3 HF
          go_wp2_with fail
          go_quiet (fail)
          go_wp2_with fail
          go_ret
          exact ⟨ret_bool E.out.symm, by repeat' (first | exact Below.refl _ _ | assumption | refine Below.more ?_ ?_ _ | refine Below.alloc ?_ ?_ _ | refine Below.drew ?_ | refine below_drewN ?_ _ | refine Below.setCell ?_ ?_ _ | exact Below.size (by assumption) | (simp [go_sem, size_more]; done) | (simp [go_sem, size_more]; omega))⟩
        have dq3 : decide (10000 < x2) = false := by simpa using q3
        by_cases q4 : x4 < 1
        · have dq4 : decide (x4 < 1) = true := by simpa using q4
          have E := Lib.hid (HF.out (by simp [evBad, q4]))
          clear q4 HF
          go_wp2_with fail
          go_quiet (fail)
          go_wp2_with fail
          go_ret
          exact ⟨ret_bool E.out.symm, by repeat' (first | exact Below.refl _ _ | assumption | refine Below.more ?_ ?_ _ | refine Below.alloc ?_ ?_ _ | refine Below.drew ?_ | refine below_drewN ?_ _ | refine Below.setCell ?_ ?_ _ | exact Below.size (by assumption) | (simp [go_sem, size_more]; done) | (simp [go_sem, size_more]; omega))⟩
        have dq4 : decide (x4 < 1) = false := by simpa using q4
        by_cases q5 : 1125899906842624 < x4
        · have dq5 : decide (1125899906842624 < x4) = true := by simpa using q5
          have E := Lib.hid (HF.out (by simp [evBad, q5]))
          clear q5 HF
          go_wp2_with fail
          go_quiet (fail)
          go_wp2_with fail
          go_ret
          exact ⟨ret_bool E.out.symm, by repeat' (first | exact Below.refl _ _ | assumption | refine Below.more ?_ ?_ _ | refine Below.alloc ?_ ?_ _ | refine Below.drew ?_ | refine below_drewN ?_ _ | refine Below.setCell ?_ ?_ _ | exact Below.size (by assumption) | (simp [go_sem, size_more]; done) | (simp [go_sem, size_more]; omega))⟩
        have dq5 : decide (1125899906842624 < x4) = false := by simpa using q5
        by_cases q6 : x3 < x4
        · have dq6 : decide (x3 < x4) = true := by simpa using q6
          have E := Lib.hid (HF.out (by simp [evBad, q6]))
          clear q6 HF
          go_wp2_with fail
          go_quiet (fail)
          go_wp2_with fail
          go_ret
          exact ⟨ret_bool E.out.symm, by repeat' (first | exact Below.refl _ _ | assumption | refine Below.more ?_ ?_ _ | refine Below.alloc ?_ ?_ _ | refine Below.drew ?_ | refine below_drewN ?_ _ | refine Below.setCell ?_ ?_ _ | exact Below.size (by assumption) | (simp [go_sem, size_more]; done) | (simp [go_sem, size_more]; omega))⟩
        have dq6 : decide (x3 < x4) = false := by simpa using q6
        by_cases q7 : 1152921504606846976 < x3
        · have dq7 : decide (1152921504606846976 < x3) = true := by simpa using q7
          have E := Lib.hid (HF.out (by simp [evBad, q7]))
          clear q7 HF
          go_wp2_with fail
          go_quiet (fail)
          go_wp2_with fail
          go_ret
          exact ⟨ret_bool E.out.symm, by repeat' (first | exact Below.refl _ _ | assumption | refine Below.more ?_ ?_ _ | refine Below.alloc ?_ ?_ _ | refine Below.drew ?_ | refine below_drewN ?_ _ | refine Below.setCell ?_ ?_ _ | exact Below.size (by assumption) | (simp [go_sem, size_more]; done) | (simp [go_sem, size_more]; omega))⟩
        have dq7 : decide (1152921504606846976 < x3) = false := by simpa using q7
        have HL := Lib.hid (evBad_last t x1 x2 x3 x4 q1 q2 q3 q4 q5 q6 q7)
        have b1 : 0 ≤ x3 - 1 := by omega
        have b2 : 1 ≤ x2 - x1 := by omega
        have b3 : 0 ≤ (x3 - 1) / (x2 - x1) := Int.ediv_nonneg (by omega) (by omega)
        have b4 : (x3 - 1) / (x2 - x1) ≤ x3 - 1 := Int.ediv_le_self _ (by omega)
        have z0 : (x2 - x1 == 0) = false := by simp; omega
        by_cases q8 : x4 ≤ (x3 - 1) / (x2 - x1)
        · have dq8 : decide (x4 ≤ (x3 - 1) / (x2 - x1)) = true := by simpa using q8
          have E := Lib.hid (HF.out (HL.out.trans dq8))
          clear HF q8 HL
          go_wp2_with fail
          have w1' : IntKind.i64.wrap (x3 - 1) = x3 - 1 := IntWalk.i64_in _ (by omega)
          have w2' : IntKind.i64.wrap (x2 - x1) = x2 - x1 := IntWalk.i64_in _ (by omega)
          go_quiet (fail)
          go_wp2_with fail
          go_ret
          exact ⟨ret_bool E.out.symm, by repeat' (first | exact Below.refl _ _ | assumption | refine Below.more ?_ ?_ _ | refine Below.alloc ?_ ?_ _ | refine Below.drew ?_ | refine below_drewN ?_ _ | refine Below.setCell ?_ ?_ _ | exact Below.size (by assumption) | (simp [go_sem, size_more]; done) | (simp [go_sem, size_more]; omega))⟩
        · have dq8 : decide (x4 ≤ (x3 - 1) / (x2 - x1)) = false := by simpa using q8
          have E := Lib.hid (HL.out.trans dq8)
          have x2b : 0 ≤ x2 := by omega
          clear HF q8 HL
          go_wp2_with fail
          have w1' : IntKind.i64.wrap (x3 - 1) = x3 - 1 := IntWalk.i64_in _ (by omega)
          have w2' : IntKind.i64.wrap (x2 - x1) = x2 - x1 := IntWalk.i64_in _ (by omega)
          go_quiet (fail)
          clear w1' w2'
          go_wp2_with fail
          go_roundw
          case rel => exact ⟨k + 1, _, by omega, by go_num, rfl, x2b, by repeat' (first | exact Below.refl _ _ | assumption | refine Below.more ?_ ?_ _ | refine Below.alloc ?_ ?_ _ | refine Below.drew ?_ | refine below_drewN ?_ _ | refine Below.setCell ?_ ?_ _ | exact Below.size (by assumption) | (simp [go_sem, size_more]; done) | (simp [go_sem, size_more]; omega)), hm.out.trans (by rw [hdrop.out]; simp [rightGo, E.out])⟩
          case measure => simp [intOf]; omega
      · go_wp2_with fail
        go_ret
        refine ⟨ret_bool ?_, hb⟩
        rw [hm.out, List.drop_eq_nil_of_le (by omega)]; rfl

/-- Count's results as numbers. -/
def countM (xs : List Ev) : Int × Int × Int × Int :=
  if rightM xs = true then
    match countGo 0 0 xs with
    | some (s, g) => (xs.length, s, g, 0)
    | none => (0, 0, 0, 5)
  else (0, 0, 0, 1)
theorem countIs {xs : List Ev} {e : Ending} (h : CountIs xs e) : e = .returned (.tuple #[.int .i64 (countM xs).1, .int .i64 (countM xs).2.1, .int .i64 (countM xs).2.2.1, .int .i64 (countM xs).2.2.2]) := by
  unfold CountIs at h
  unfold countM
  split at h
  · rename_i hr
    rw [if_pos hr]
    cases hc : countGo 0 0 xs with
    | none => rw [hc] at h; exact h
    | some p => rw [hc] at h; exact h
  · rename_i hr
    rw [if_neg hr]; exact h

theorem right_totals : ∀ (xs : List Ev) (l : Int), rightGo l xs = true → ∀ x ∈ xs, 1 ≤ x.Total ∧ x.Total ≤ 1152921504606846976
  | x :: r, l, h, y, hy => by
    simp only [rightGo] at h
    split at h
    · cases h
    · rename_i hb
      have hb' : evBad l x = false := by simpa using hb
      unfold evBad at hb'
      simp only [Bool.or_eq_false_iff, decide_eq_false_iff_not] at hb'
      obtain ⟨⟨⟨⟨⟨⟨⟨⟨e1, e2⟩, e3⟩, e4⟩, e5⟩, e6⟩, e7⟩, _⟩, _⟩ := hb'
      rcases List.mem_cons.1 hy with rfl | hy
      · omega
      · exact right_totals r x.To h y hy
theorem right_totals' {xs : List Ev} (h : rightM xs = true) : ∀ x ∈ xs, 1 ≤ x.Total ∧ x.Total ≤ 1152921504606846976 := by
  unfold rightM at h
  split at h
  · cases h
  · exact right_totals xs 0 h

set_option maxHeartbeats 2000000 in
theorem rcount_any (xs : List Ev) (v : Value) (w : World) (hv : IsEvs w v xs) :
    Calls Try.prog 30 #[v] w fun e w' => CountIs xs e ∧ Below w.heap.size w w' := by
  obtain ⟨a, cap, rfl, hcap, hbig, hs⟩ := hv
  have hv : IsEvs w (.slice a xs.length cap) xs := ⟨a, cap, rfl, hcap, hbig, hs⟩
  cases hr : rightM xs
  · have HR := Lib.hid hr
    clear hr
    go_enter Try.func30, Try.ntmps30
    go_wp2_with fail
    refine Calls.to (rright_any xs _ _ hv) ?_
    rintro e w1 rfl hb
    rw [HR.out]
    go_wp2_with fail
    ((try simp only [Exit.inBlock, Exit.then]); refine bodyPost_ret (results_tmp4 rfl _ _ _) rfl ?_)
    exact ⟨by simp [CountIs, HR.out], hb⟩
  · have HR := Lib.hid hr
    have HT := Lib.hid (right_totals' hr)
    clear hr
    go_enter Try.func30, Try.ntmps30
    go_wp2_with fail
    refine Calls.to (rright_any xs _ _ hv) ?_
    rintro e w1 rfl hb1
    rw [HR.out]
    have hs := hs.mono hb1
    go_wp2_with fail
    go_loop [6, 7, 8] (fun s6 s7 s8 => ∃ (k : Nat) (s g : Int), k ≤ xs.length ∧ s8 = .int .i64 k ∧ s6 = .int .i64 s ∧ s7 = .int .i64 g ∧ 0 ≤ s ∧ s ≤ 1152921504606846976 ∧ Hid (countGo 0 0 xs = countGo s g (xs.drop k))) (fun _ _ i => xs.length - (intOf i).toNat)
    case atStart => exact ⟨0, 0, 0, Nat.zero_le _, rfl, rfl, rfl, by omega, by omega, rfl⟩
    case round =>
      obtain ⟨k, s, g, hk, rfl, rfl, rfl, s0, s1, hm⟩ := hrel
      by_cases hlt : k < xs.length
      · obtain ⟨b, off, rfl, c1, c2, c3, c4⟩ := hs.ev k hlt
        have hdrop : Hid (xs.drop k = xs[k] :: xs.drop (k + 1)) := List.drop_eq_getElem_cons hlt
        obtain ⟨t1, t2⟩ := HT.out _ (List.getElem_mem hlt)
        clear hs
        generalize xs[k] = x at *
        obtain ⟨x1, x2, x3, x4⟩ := x
        simp only at c1 c2 c3 c4 t1 t2
        have hw : wrap64 (s + x3) = s + x3 := IntWalk.wrap64_in _ (by omega)
        have hstep : Hid (countGo 0 0 xs = if 1152921504606846976 < s + x3 then none else countGo (s + x3) (if g < x3 then x3 else g) (xs.drop (k + 1))) := by
          show _ = _
          rw [hm.out, hdrop.out, countGo, hw]
        clear hw
        by_cases hq : 1152921504606846976 - s < x3
        · go_wp2_with fail
          ((try simp only [Exit.inBlock, Exit.then]); refine bodyPost_ret (results_tmp4 rfl _ _ _) rfl ?_)
          have h2 : countGo 0 0 xs = none := by rw [hstep.out, if_pos (by omega)]
          exact ⟨by simp [CountIs, HR.out, h2], hb1⟩
        · have hq2 : s + x3 ≤ 1152921504606846976 := by omega
          by_cases hg : g < x3
          · have H2 : Hid (countGo 0 0 xs = countGo (s + x3) x3 (xs.drop (k + 1))) := by show _ = _; rw [hstep.out, if_neg (by omega), if_pos hg]
            go_wp2_with fail
            go_round
            case measure => simp [intOf]; omega
            case rel => exact ⟨k + 1, _, _, by omega, by go_num, rfl, rfl, by omega, by omega, H2.out⟩
          · have H2 : Hid (countGo 0 0 xs = countGo (s + x3) g (xs.drop (k + 1))) := by show _ = _; rw [hstep.out, if_neg (by omega), if_neg hg]
            go_wp2_with fail
            go_round
            case measure => simp [intOf]; omega
            case rel => exact ⟨k + 1, _, _, by omega, by go_num, rfl, rfl, by omega, by omega, H2.out⟩
      · go_wp2_with fail
        ((try simp only [Exit.inBlock, Exit.then]); refine bodyPost_ret (results_tmp4 rfl _ _ _) rfl ?_)
        have h1 := hm.out
        rw [List.drop_eq_nil_of_le (by omega)] at h1
        exact ⟨by simp [CountIs, HR.out, h1, countGo], hb1⟩

end Go.Proofs.Ytbkihndidbmhoaa
