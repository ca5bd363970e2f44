/- Nodes that are right, the reference's side. Conditions: the node reads as data. | RightNode of the reference. Conditions: the node reads as data. | RightLink of the reference. Conditions: the link reads as data. | Valid of networks, the reference's side. Conditions: the network reads as data. -/
import Derived.Test.YtlcfnbnpkcjjlaaGreatNn
import Derived.Test.YtlcfnbnpkcjjlaaGreatNo
import Derived.Test.YtlcfnbnpkcjjlaaGreatNu
import Derived.Test.YtlcfnbnpkcjjlaaGreatMLnk
namespace Go.Proofs.YtlcfnbnpkcjjlaaGreat
open Go.RowKit
set_option linter.unusedVariables false
set_option linter.unusedSimpArgs false

theorem r26pos_any (n : Int) (w : World) : Calls Tryz.prog 66 #[.int .i64 n] w fun e w' => e = .returned (.bool (posB n)) ∧ w' = w := by
  by_cases h1 : -16777216 ≤ n <;> by_cases h2 : n ≤ 16777216
  all_goals
    go_enter Tryz.func66, Tryz.ntmps66
    go_wp2_with fail
    go_ret
    exact ⟨ret_bool (by simp [posB, h1, h2]), rfl⟩
theorem r26lev_any (n : Int) (w : World) : Calls Tryz.prog 67 #[.int .i64 n] w fun e w' => e = .returned (.bool (lvlB n)) ∧ w' = w := by
  by_cases h1 : -4194304 ≤ n <;> by_cases h2 : n ≤ 4194304
  all_goals
    go_enter Tryz.func67, Tryz.ntmps67
    go_wp2_with fail
    go_ret
    exact ⟨ret_bool (by simp [lvlB, h1, h2]), rfl⟩
theorem r26within_any (n m : Int) (w : World) : Calls Tryz.prog 69 #[.int .i64 n, .int .i64 m] w fun e w' => e = .returned (.bool (btwB n 1 m)) ∧ w' = w := by
  by_cases h1 : 1 ≤ n <;> by_cases h2 : n ≤ m
  all_goals
    go_enter Tryz.func69, Tryz.ntmps69
    go_wp2_with fail
    go_ret
    exact ⟨ret_bool (by simp [btwB, h1, h2]), rfl⟩

set_option maxHeartbeats 4000000 in
theorem r6valid_any (xs : List Kn) (v : Value) (w : World) (hv : IsKns w v xs) : Calls Tryz.prog 96 #[v] w fun e w' => e = .returned (.bool (tabB xs)) ∧ Below w.heap.size w w' := by
  obtain ⟨a, cap, rfl, hcap, hbig, hs⟩ := hv
  by_cases h1 : xs.length < 1
  · have q1 : decide ((xs.length : Int) < 1) = true := decide_eq_true (by omega)
    have HN : Hid (tabB xs = false) := by show _ = _; simp [tabB]; omega
    go_enter Tryz.func96, Tryz.ntmps96
    go_wp2_with fail
    go_ret
    exact ⟨ret_bool HN.out.symm, Below.refl _ _⟩
  have q1 : decide ((xs.length : Int) < 1) = false := decide_eq_false (by omega)
  by_cases h2 : 100 < xs.length
  · have q2 : decide ((100 : Int) < (xs.length : Int)) = true := decide_eq_true (by omega)
    have HN : Hid (tabB xs = false) := by show _ = _; simp [tabB]; omega
    go_enter Tryz.func96, Tryz.ntmps96
    go_wp2_with fail
    go_ret
    exact ⟨ret_bool HN.out.symm, Below.refl _ _⟩
  have q2 : decide ((100 : Int) < (xs.length : Int)) = false := decide_eq_false (by omega)
  have HT : Hid (tabB xs = allFrom (knB xs) 0 xs.length) := by
    show _ = _
    have : 1 ≤ xs.length ∧ xs.length ≤ 100 := by omega
    simp [tabB, this]
  go_enter Tryz.func96, Tryz.ntmps96
  go_wp2_with fail
  go_loopw [3] (fun s3 wr => ∃ k : Nat, k ≤ xs.length ∧ s3 = .int .i64 k ∧ Below w.heap.size w wr ∧ Hid (tabB xs = allFrom (knB xs) k xs.length)) (fun i _ => xs.length - (intOf i).toNat)
  case atStart => exact ⟨0, Nat.zero_le _, rfl, Below.refl _ _, HT⟩
  case round =>
    obtain ⟨k, hk, rfl, hb, hm⟩ := hrel
    by_cases hlt : k < xs.length
    · obtain ⟨b, off, rfl, c1, c2⟩ := (hs.mono hb).kn k hlt
      have HS := Lib.hid (allFrom_step (knB xs) hlt)
      have hblt := World.block_lt_of_cell? _ _ c1
      by_cases h0 : k = 0
      · have HK : Hid (knB xs k = (fitB xs[k].X && fitB xs[k].Y)) := by show _ = _; subst h0; exact knB_0 hlt rfl
        have q0 : decide (0 < k) = false := decide_eq_false (by omega)
        have q0' : decide ((0 : Int) < (k : Int)) = false := decide_eq_false (by omega)
        have H0 := Lib.hid h0
        clear hs h0
        generalize xs[k] = x at *
        cases hfx : fitB x.X
        · go_wp2_with (go_at_call 114; refine (r6num_any _ _).mono ?_; rintro e w' ⟨rfl, rfl⟩)
          go_ret
          exact ⟨ret_bool (hm.out.trans (HS.out.trans (by rw [HK.out, hfx]; rfl))).symm, by repeat' (first | exact Below.refl _ _ | assumption | refine Below.more ?_ ?_ _ | refine Below.alloc ?_ ?_ _ | refine Below.drew ?_ | refine below_drewN ?_ _ | refine Below.setCell ?_ ?_ _ | exact Below.size (by assumption) | (simp [go_sem, size_more]; done) | (simp [go_sem, size_more]; omega))⟩
        · cases hfy : fitB x.Y
          · go_wp2_with (go_at_call 114; refine (r6num_any _ _).mono ?_; rintro e w' ⟨rfl, rfl⟩)
            go_ret
            exact ⟨ret_bool (hm.out.trans (HS.out.trans (by rw [HK.out, hfx, hfy]; rfl))).symm, by repeat' (first | exact Below.refl _ _ | assumption | refine Below.more ?_ ?_ _ | refine Below.alloc ?_ ?_ _ | refine Below.drew ?_ | refine below_drewN ?_ _ | refine Below.setCell ?_ ?_ _ | exact Below.size (by assumption) | (simp [go_sem, size_more]; done) | (simp [go_sem, size_more]; omega))⟩
          · go_wp2_with (go_at_call 114; refine (r6num_any _ _).mono ?_; rintro e w' ⟨rfl, rfl⟩)
            go_quiet (fail)
            go_wp2_with fail
            go_roundw
            case rel => exact ⟨k + 1, by omega, by go_num, by repeat' (first | exact Below.refl _ _ | assumption | refine Below.more ?_ ?_ _ | refine Below.alloc ?_ ?_ _ | refine Below.drew ?_ | refine below_drewN ?_ _ | refine Below.setCell ?_ ?_ _ | exact Below.size (by assumption) | (simp [go_sem, size_more]; done) | (simp [go_sem, size_more]; omega)), hm.out.trans (HS.out.trans (by rw [HK.out, hfx, hfy]; rfl))⟩
            case measure => simp [intOf]; omega
      · have h0' : 0 < k := by omega
        obtain ⟨d1, d2⟩ := (hs.mono hb).knAt (k - 1) (by omega)
        have HK : Hid (knB xs k = (fitB xs[k].X && fitB xs[k].Y && decide ((xs[k - 1]'(by omega)).X < xs[k].X ∧ (xs[k - 1]'(by omega)).Y ≤ xs[k].Y))) := knB_pos hlt h0' rfl rfl
        have q0 : decide (0 < k) = true := decide_eq_true (by omega)
        have q0' : decide ((0 : Int) < (k : Int)) = true := decide_eq_true (by omega)
        clear hs h0
        have hp1 : k - 1 < xs.length := by omega
        generalize xs[k - 1] = p at *
        generalize xs[k] = x at *
        cases hfx : fitB x.X
        · go_wp2_with (go_at_call 114; refine (r6num_any _ _).mono ?_; rintro e w' ⟨rfl, rfl⟩)
          go_ret
          exact ⟨ret_bool (hm.out.trans (HS.out.trans (by rw [HK.out, hfx]; rfl))).symm, by repeat' (first | exact Below.refl _ _ | assumption | refine Below.more ?_ ?_ _ | refine Below.alloc ?_ ?_ _ | refine Below.drew ?_ | refine below_drewN ?_ _ | refine Below.setCell ?_ ?_ _ | exact Below.size (by assumption) | (simp [go_sem, size_more]; done) | (simp [go_sem, size_more]; omega))⟩
        · cases hfy : fitB x.Y
          · go_wp2_with (go_at_call 114; refine (r6num_any _ _).mono ?_; rintro e w' ⟨rfl, rfl⟩)
            go_ret
            exact ⟨ret_bool (hm.out.trans (HS.out.trans (by rw [HK.out, hfx, hfy]; rfl))).symm, by repeat' (first | exact Below.refl _ _ | assumption | refine Below.more ?_ ?_ _ | refine Below.alloc ?_ ?_ _ | refine Below.drew ?_ | refine below_drewN ?_ _ | refine Below.setCell ?_ ?_ _ | exact Below.size (by assumption) | (simp [go_sem, size_more]; done) | (simp [go_sem, size_more]; omega))⟩
          · by_cases hX : x.X ≤ p.X
            · have qX : decide (x.X ≤ p.X) = true := decide_eq_true hX
              have HF : Hid (knB xs k = false) := by show _ = _; rw [HK.out, decide_eq_false (by omega)]; simp
              clear hX
              go_wp2_with (go_at_call 114; refine (r6num_any _ _).mono ?_; rintro e w' ⟨rfl, rfl⟩)
              have w1' : IntKind.i64.wrap ((k : Int) - 1) = (k : Int) - 1 := IntWalk.i64_in _ (by omega)
              have w2' : ((k : Int) - 1).toNat = k - 1 := by omega
              have w3' : 0 ≤ (k : Int) - 1 := by omega
              have w4' : (k : Int) - 1 < xs.length := by omega
              go_quiet (fail)
              clear w1' w2' w3' w4'
              go_wp2_with fail
              go_ret
              exact ⟨ret_bool (hm.out.trans (HS.out.trans (by rw [HF.out]; rfl))).symm, by repeat' (first | exact Below.refl _ _ | assumption | refine Below.more ?_ ?_ _ | refine Below.alloc ?_ ?_ _ | refine Below.drew ?_ | refine below_drewN ?_ _ | refine Below.setCell ?_ ?_ _ | exact Below.size (by assumption) | (simp [go_sem, size_more]; done) | (simp [go_sem, size_more]; omega))⟩
            · have qX : decide (x.X ≤ p.X) = false := decide_eq_false hX
              by_cases hY : x.Y < p.Y
              · have qY : decide (x.Y < p.Y) = true := decide_eq_true hY
                have HF : Hid (knB xs k = false) := by show _ = _; rw [HK.out, decide_eq_false (by omega)]; simp
                clear hX hY
                go_wp2_with (go_at_call 114; refine (r6num_any _ _).mono ?_; rintro e w' ⟨rfl, rfl⟩)
                have w1' : IntKind.i64.wrap ((k : Int) - 1) = (k : Int) - 1 := IntWalk.i64_in _ (by omega)
                have w2' : ((k : Int) - 1).toNat = k - 1 := by omega
                have w3' : 0 ≤ (k : Int) - 1 := by omega
                have w4' : (k : Int) - 1 < xs.length := by omega
                go_quiet (fail)
                clear w1' w2' w3' w4'
                go_wp2_with fail
                go_ret
                exact ⟨ret_bool (hm.out.trans (HS.out.trans (by rw [HF.out]; rfl))).symm, by repeat' (first | exact Below.refl _ _ | assumption | refine Below.more ?_ ?_ _ | refine Below.alloc ?_ ?_ _ | refine Below.drew ?_ | refine below_drewN ?_ _ | refine Below.setCell ?_ ?_ _ | exact Below.size (by assumption) | (simp [go_sem, size_more]; done) | (simp [go_sem, size_more]; omega))⟩
              · have qY : decide (x.Y < p.Y) = false := decide_eq_false hY
                have HF : Hid (knB xs k = true) := by show _ = _; rw [HK.out, hfx, hfy, decide_eq_true (by omega)]; simp
                clear hX hY
                go_wp2_with (go_at_call 114; refine (r6num_any _ _).mono ?_; rintro e w' ⟨rfl, rfl⟩)
                have w1' : IntKind.i64.wrap ((k : Int) - 1) = (k : Int) - 1 := IntWalk.i64_in _ (by omega)
                have w2' : ((k : Int) - 1).toNat = k - 1 := by omega
                have w3' : 0 ≤ (k : Int) - 1 := by omega
                have w4' : (k : Int) - 1 < xs.length := by omega
                go_quiet (fail)
                clear w1' w2' w3' w4'
                go_wp2_with fail
                go_roundw
                case rel => exact ⟨k + 1, by omega, by go_num, by repeat' (first | exact Below.refl _ _ | assumption | refine Below.more ?_ ?_ _ | refine Below.alloc ?_ ?_ _ | refine Below.drew ?_ | refine below_drewN ?_ _ | refine Below.setCell ?_ ?_ _ | exact Below.size (by assumption) | (simp [go_sem, size_more]; done) | (simp [go_sem, size_more]; omega)), hm.out.trans (HS.out.trans (by rw [HF.out]; rfl))⟩
                case measure => simp [intOf]; omega
    · go_wp2_with fail
      go_ret
      refine ⟨ret_bool ?_, hb⟩
      rw [hm.out, allFrom_end _ (by omega)]

set_option maxHeartbeats 2000000 in
theorem r26shape_any (xs : List Kn) (v : Value) (d : Int) (w : World) (hv : IsKns w v xs) :
    Calls Tryz.prog 68 #[v, .int .i64 d] w fun e w' => e = .returned (.bool (shapeB xs d)) ∧ Below w.heap.size w w' := by
  have hv0 := hv
  obtain ⟨a, cap, rfl, hcap, hbig, hs⟩ := hv
  cases ht : tabB xs
  · have HS := Lib.hid (shapeB_false (d := d) ht)
    have HT := Lib.hid ht
    clear ht
    go_enter Tryz.func68, Tryz.ntmps68
    go_wp2_with fail
    refine Calls.to (r6valid_any xs _ _ hv0) ?_
    rintro e w1 rfl hb
    rw [HT.out]
    go_wp2_with fail
    go_ret
    exact ⟨ret_bool HS.out.symm, hb⟩
  · have h1 := (tabB_len ht).1
    have HS := Lib.hid (shapeB_is (d := d) ht h1)
    have HT := Lib.hid ht
    clear ht
    go_enter Tryz.func68, Tryz.ntmps68
    go_wp2_with fail
    refine Calls.to (r6valid_any xs _ _ hv0) ?_
    rintro e w1 rfl hb
    rw [HT.out]
    have hs1 := hs.mono hb
    obtain ⟨b, off, rfl, c1, c2⟩ := hs1.kn 0 (by omega)
    obtain ⟨d1, d2⟩ := hs1.knAt (xs.length - 1) (by omega)
    rw [Nat.zero_mul, Nat.add_zero] at c1 c2
    clear hs hs1 hv0
    generalize xs[0] = x0 at *
    generalize xs[xs.length - 1] = xl at *
    by_cases q1 : x0.X = 0
    · have r1 := beqT q1
      have Q1 := Lib.hid q1
      clear q1
      by_cases q0 : x0.Y = 0
      · have r0 := beqT q0
        have Q0 := Lib.hid q0
        clear q0
        by_cases q2 : xl.X = d
        · have r2 := beqT q2
          have Q2 := Lib.hid q2
          clear q2
          by_cases q3 : xl.Y ≤ 1125899906842624
          · have r3 : decide (xl.Y ≤ 1125899906842624) = true := decide_eq_true q3
            go_wp2_with fail
            go_ret
            exact ⟨ret_bool (HS.out.trans (by simp [Q1.out, Q0.out, Q2.out, q3])).symm, by repeat' (first | exact Below.refl _ _ | assumption | refine Below.more ?_ ?_ _ | refine Below.alloc ?_ ?_ _ | refine Below.drew ?_ | refine below_drewN ?_ _ | refine Below.setCell ?_ ?_ _ | exact Below.size (by assumption) | (simp [go_sem, size_more]; done) | (simp [go_sem, size_more]; omega))⟩
          · have r3 : decide (xl.Y ≤ 1125899906842624) = false := decide_eq_false q3
            go_wp2_with fail
            go_ret
            exact ⟨ret_bool (HS.out.trans (by simp [Q1.out, Q0.out, Q2.out, q3])).symm, by repeat' (first | exact Below.refl _ _ | assumption | refine Below.more ?_ ?_ _ | refine Below.alloc ?_ ?_ _ | refine Below.drew ?_ | refine below_drewN ?_ _ | refine Below.setCell ?_ ?_ _ | exact Below.size (by assumption) | (simp [go_sem, size_more]; done) | (simp [go_sem, size_more]; omega))⟩
        · have r2 := beqF q2
          have Q2 := Lib.hid q2
          clear q2
          go_wp2_with fail
          go_ret
          exact ⟨ret_bool (HS.out.trans (by simp [Q1.out, Q0.out, Q2.out])).symm, by repeat' (first | exact Below.refl _ _ | assumption | refine Below.more ?_ ?_ _ | refine Below.alloc ?_ ?_ _ | refine Below.drew ?_ | refine below_drewN ?_ _ | refine Below.setCell ?_ ?_ _ | exact Below.size (by assumption) | (simp [go_sem, size_more]; done) | (simp [go_sem, size_more]; omega))⟩
      · have r0 := beqF q0
        have Q0 := Lib.hid q0
        clear q0
        go_wp2_with fail
        go_ret
        exact ⟨ret_bool (HS.out.trans (by simp [Q1.out, Q0.out])).symm, by repeat' (first | exact Below.refl _ _ | assumption | refine Below.more ?_ ?_ _ | refine Below.alloc ?_ ?_ _ | refine Below.drew ?_ | refine below_drewN ?_ _ | refine Below.setCell ?_ ?_ _ | exact Below.size (by assumption) | (simp [go_sem, size_more]; done) | (simp [go_sem, size_more]; omega))⟩
    · have r1 := beqF q1
      have Q1 := Lib.hid q1
      clear q1
      go_wp2_with fail
      go_ret
      exact ⟨ret_bool (HS.out.trans (by simp [Q1.out])).symm, by repeat' (first | exact Below.refl _ _ | assumption | refine Below.more ?_ ?_ _ | refine Below.alloc ?_ ?_ _ | refine Below.drew ?_ | refine below_drewN ?_ _ | refine Below.setCell ?_ ?_ _ | exact Below.size (by assumption) | (simp [go_sem, size_more]; done) | (simp [go_sem, size_more]; omega))⟩

theorem curveB_false {xs : List Kn} (h : tabB xs = false) : curveB xs = false := by simp [curveB, h]
theorem curveB_is {xs : List Kn} (h : tabB xs = true) (h1 : 1 ≤ xs.length) : curveB xs = (decide (0 ≤ (xs[0]'(by omega)).X) && decide ((xs[xs.length - 1]'(by omega)).X ≤ 4194304) && decide (0 ≤ (xs[0]'(by omega)).Y) && decide ((xs[xs.length - 1]'(by omega)).Y ≤ 1099511627776)) := by
  rw [curveB, h, Bool.true_and, Bool.eq_iff_iff, List.all_eq_true]
  simp only [Bool.and_eq_true, decide_eq_true_eq]
  constructor
  · intro hall
    have a := hall (xs[0]'(by omega)) (List.getElem_mem _)
    have b := hall (xs[xs.length - 1]'(by omega)) (List.getElem_mem _)
    omega
  · rintro ⟨⟨⟨a1, a2⟩, a3⟩, a4⟩ k hk
    obtain ⟨i, hi, rfl⟩ := List.mem_iff_getElem.1 hk
    have l1 := tabB_le h i 0 (by omega)
    have l2 := tabB_le h (xs.length - 1 - i) i (by omega)
    simp only [Nat.zero_add] at l1
    have e : i + (xs.length - 1 - i) = xs.length - 1 := by omega
    simp only [e] at l2
    omega

set_option maxHeartbeats 2000000 in
theorem r26curve_any (xs : List Kn) (v : Value) (w : World) (hv : IsKns w v xs) :
    Calls Tryz.prog 70 #[v] w fun e w' => e = .returned (.bool (curveB xs)) ∧ Below w.heap.size w w' := by
  have hv0 := hv
  obtain ⟨a, cap, rfl, hcap, hbig, hs⟩ := hv
  cases ht : tabB xs
  · have HS := Lib.hid (curveB_false ht)
    have HT := Lib.hid ht
    clear ht
    go_enter Tryz.func70, Tryz.ntmps70
    go_wp2_with fail
    refine Calls.to (r6valid_any xs _ _ hv0) ?_
    rintro e w1 rfl hb
    rw [HT.out]
    go_wp2_with fail
    go_ret
    exact ⟨ret_bool HS.out.symm, hb⟩
  · have h1 := (tabB_len ht).1
    have HS := Lib.hid (curveB_is ht h1)
    have HT := Lib.hid ht
    clear ht
    go_enter Tryz.func70, Tryz.ntmps70
    go_wp2_with fail
    refine Calls.to (r6valid_any xs _ _ hv0) ?_
    rintro e w1 rfl hb
    rw [HT.out]
    have hs1 := hs.mono hb
    obtain ⟨b, off, rfl, c1, c2⟩ := hs1.kn 0 (by omega)
    obtain ⟨d1, d2⟩ := hs1.knAt (xs.length - 1) (by omega)
    rw [Nat.zero_mul, Nat.add_zero] at c1 c2
    clear hs hs1 hv0
    generalize xs[0] = x0 at *
    generalize xs[xs.length - 1] = xl at *
    by_cases q1 : 0 ≤ x0.X
    · have r1 : decide (0 ≤ x0.X) = true := decide_eq_true q1
      by_cases q2 : xl.X ≤ 4194304
      · have r2 : decide (xl.X ≤ 4194304) = true := decide_eq_true q2
        by_cases q3 : 0 ≤ x0.Y
        · have r3 : decide (0 ≤ x0.Y) = true := decide_eq_true q3
          by_cases q4 : xl.Y ≤ 1099511627776
          · have r4 : decide (xl.Y ≤ 1099511627776) = true := decide_eq_true q4
            have HK : Hid (curveB xs = true) := by show _ = _; rw [HS.out]; simp [q1, q2, q3, q4]
            go_wp2_with fail
            go_ret
            exact ⟨ret_bool HK.out.symm, by repeat' (first | exact Below.refl _ _ | assumption | refine Below.more ?_ ?_ _ | refine Below.alloc ?_ ?_ _ | refine Below.drew ?_ | refine below_drewN ?_ _ | refine Below.setCell ?_ ?_ _ | exact Below.size (by assumption) | (simp [go_sem, size_more]; done) | (simp [go_sem, size_more]; omega))⟩
          · have r4 : decide (xl.Y ≤ 1099511627776) = false := decide_eq_false q4
            have HK : Hid (curveB xs = false) := by show _ = _; rw [HS.out]; simp [q1, q2, q3, q4]
            go_wp2_with fail
            go_ret
            exact ⟨ret_bool HK.out.symm, by repeat' (first | exact Below.refl _ _ | assumption | refine Below.more ?_ ?_ _ | refine Below.alloc ?_ ?_ _ | refine Below.drew ?_ | refine below_drewN ?_ _ | refine Below.setCell ?_ ?_ _ | exact Below.size (by assumption) | (simp [go_sem, size_more]; done) | (simp [go_sem, size_more]; omega))⟩
        · have r3 : decide (0 ≤ x0.Y) = false := decide_eq_false q3
          have HK : Hid (curveB xs = false) := by show _ = _; rw [HS.out]; simp [q1, q2, q3]
          go_wp2_with fail
          go_ret
          exact ⟨ret_bool HK.out.symm, by repeat' (first | exact Below.refl _ _ | assumption | refine Below.more ?_ ?_ _ | refine Below.alloc ?_ ?_ _ | refine Below.drew ?_ | refine below_drewN ?_ _ | refine Below.setCell ?_ ?_ _ | exact Below.size (by assumption) | (simp [go_sem, size_more]; done) | (simp [go_sem, size_more]; omega))⟩
      · have r2 : decide (xl.X ≤ 4194304) = false := decide_eq_false q2
        have HK : Hid (curveB xs = false) := by show _ = _; rw [HS.out]; simp [q1, q2]
        go_wp2_with fail
        go_ret
        exact ⟨ret_bool HK.out.symm, by repeat' (first | exact Below.refl _ _ | assumption | refine Below.more ?_ ?_ _ | refine Below.alloc ?_ ?_ _ | refine Below.drew ?_ | refine below_drewN ?_ _ | refine Below.setCell ?_ ?_ _ | exact Below.size (by assumption) | (simp [go_sem, size_more]; done) | (simp [go_sem, size_more]; omega))⟩
    · have r1 : decide (0 ≤ x0.X) = false := decide_eq_false q1
      have HK : Hid (curveB xs = false) := by show _ = _; rw [HS.out]; simp [q1]
      go_wp2_with fail
      go_ret
      exact ⟨ret_bool HK.out.symm, by repeat' (first | exact Below.refl _ _ | assumption | refine Below.more ?_ ?_ _ | refine Below.alloc ?_ ?_ _ | refine Below.drew ?_ | refine below_drewN ?_ _ | refine Below.setCell ?_ ?_ _ | exact Below.size (by assumption) | (simp [go_sem, size_more]; done) | (simp [go_sem, size_more]; omega))⟩

end Go.Proofs.YtlcfnbnpkcjjlaaGreat

namespace Go.Proofs.YtlcfnbnpkcjjlaaGreat
open Go.RowKit
set_option linter.unusedVariables false
set_option linter.unusedSimpArgs false

set_option maxHeartbeats 4000000 in
theorem r26RightNode_any (x : Nd) (w : World) (hg : gNd w x) : Calls Tryz.prog 40 #[vNd x] w fun e w' => e = .returned (.bool (ndB x)) ∧ Below w.heap.size w w' := by
  obtain ⟨nm, kd, ax, ay, iv, gr, ⟨sa, scap, sxs⟩, pr, rs⟩ := x
  have hn := hg.name
  have hsh : IsKns w (.slice sa sxs.length scap) sxs := hg.sh.isL
  clear hg
  simp only at hn
  simp only [vNd]
  cases h1 : nameB nm
  · have HS : Hid (ndB ⟨nm, kd, ax, ay, iv, gr, ⟨sa, scap, sxs⟩, pr, rs⟩ = false) := by show _ = _; simp [ndB, h1]
    go_enter Tryz.func40, Tryz.ntmps40
    go_wp2_with (first | (go_at_call 65; refine (r1isName_any _ _ hn).mono ?_; rintro e w' ⟨rfl, rfl⟩) | (go_at_call 66; refine (r26pos_any _ _).mono ?_; rintro e w' ⟨rfl, rfl⟩) | (go_at_call 67; refine (r26lev_any _ _).mono ?_; rintro e w' ⟨rfl, rfl⟩))
    go_ret
    exact ⟨ret_bool HS.out.symm, by repeat' (first | exact Below.refl _ _ | assumption | refine Below.more ?_ ?_ _ | refine Below.alloc ?_ ?_ _ | refine Below.drew ?_ | refine below_drewN ?_ _ | refine Below.setCell ?_ ?_ _ | exact Below.size (by assumption) | (simp [go_sem, size_more]; done) | (simp [go_sem, size_more]; omega))⟩
  cases h2 : posB ax
  · have HS : Hid (ndB ⟨nm, kd, ax, ay, iv, gr, ⟨sa, scap, sxs⟩, pr, rs⟩ = false) := by show _ = _; simp [ndB, h2]
    go_enter Tryz.func40, Tryz.ntmps40
    go_wp2_with (first | (go_at_call 65; refine (r1isName_any _ _ hn).mono ?_; rintro e w' ⟨rfl, rfl⟩) | (go_at_call 66; refine (r26pos_any _ _).mono ?_; rintro e w' ⟨rfl, rfl⟩) | (go_at_call 67; refine (r26lev_any _ _).mono ?_; rintro e w' ⟨rfl, rfl⟩))
    go_ret
    exact ⟨ret_bool HS.out.symm, by repeat' (first | exact Below.refl _ _ | assumption | refine Below.more ?_ ?_ _ | refine Below.alloc ?_ ?_ _ | refine Below.drew ?_ | refine below_drewN ?_ _ | refine Below.setCell ?_ ?_ _ | exact Below.size (by assumption) | (simp [go_sem, size_more]; done) | (simp [go_sem, size_more]; omega))⟩
  cases h3 : posB ay
  · have HS : Hid (ndB ⟨nm, kd, ax, ay, iv, gr, ⟨sa, scap, sxs⟩, pr, rs⟩ = false) := by show _ = _; simp [ndB, h3]
    go_enter Tryz.func40, Tryz.ntmps40
    go_wp2_with (first | (go_at_call 65; refine (r1isName_any _ _ hn).mono ?_; rintro e w' ⟨rfl, rfl⟩) | (go_at_call 66; refine (r26pos_any _ _).mono ?_; rintro e w' ⟨rfl, rfl⟩) | (go_at_call 67; refine (r26lev_any _ _).mono ?_; rintro e w' ⟨rfl, rfl⟩))
    go_ret
    exact ⟨ret_bool HS.out.symm, by repeat' (first | exact Below.refl _ _ | assumption | refine Below.more ?_ ?_ _ | refine Below.alloc ?_ ?_ _ | refine Below.drew ?_ | refine below_drewN ?_ _ | refine Below.setCell ?_ ?_ _ | exact Below.size (by assumption) | (simp [go_sem, size_more]; done) | (simp [go_sem, size_more]; omega))⟩
  cases h4 : lvlB iv
  · have HS : Hid (ndB ⟨nm, kd, ax, ay, iv, gr, ⟨sa, scap, sxs⟩, pr, rs⟩ = false) := by show _ = _; simp [ndB, h4]
    go_enter Tryz.func40, Tryz.ntmps40
    go_wp2_with (first | (go_at_call 65; refine (r1isName_any _ _ hn).mono ?_; rintro e w' ⟨rfl, rfl⟩) | (go_at_call 66; refine (r26pos_any _ _).mono ?_; rintro e w' ⟨rfl, rfl⟩) | (go_at_call 67; refine (r26lev_any _ _).mono ?_; rintro e w' ⟨rfl, rfl⟩))
    go_ret
    exact ⟨ret_bool HS.out.symm, by repeat' (first | exact Below.refl _ _ | assumption | refine Below.more ?_ ?_ _ | refine Below.alloc ?_ ?_ _ | refine Below.drew ?_ | refine below_drewN ?_ _ | refine Below.setCell ?_ ?_ _ | exact Below.size (by assumption) | (simp [go_sem, size_more]; done) | (simp [go_sem, size_more]; omega))⟩
  cases h5 : lvlB gr
  · have HS : Hid (ndB ⟨nm, kd, ax, ay, iv, gr, ⟨sa, scap, sxs⟩, pr, rs⟩ = false) := by show _ = _; simp [ndB, h5]
    go_enter Tryz.func40, Tryz.ntmps40
    go_wp2_with (first | (go_at_call 65; refine (r1isName_any _ _ hn).mono ?_; rintro e w' ⟨rfl, rfl⟩) | (go_at_call 66; refine (r26pos_any _ _).mono ?_; rintro e w' ⟨rfl, rfl⟩) | (go_at_call 67; refine (r26lev_any _ _).mono ?_; rintro e w' ⟨rfl, rfl⟩))
    go_ret
    exact ⟨ret_bool HS.out.symm, by repeat' (first | exact Below.refl _ _ | assumption | refine Below.more ?_ ?_ _ | refine Below.alloc ?_ ?_ _ | refine Below.drew ?_ | refine below_drewN ?_ _ | refine Below.setCell ?_ ?_ _ | exact Below.size (by assumption) | (simp [go_sem, size_more]; done) | (simp [go_sem, size_more]; omega))⟩
  have HS := Lib.hid (ndB_of (x := ⟨nm, kd, ax, ay, iv, gr, ⟨sa, scap, sxs⟩, pr, rs⟩) h1 h2 h3 h4 h5)
  have b4 : -4194304 ≤ iv ∧ iv ≤ 4194304 := by simpa [lvlB] using h4
  have b5 : -4194304 ≤ gr ∧ gr ≤ 4194304 := by simpa [lvlB] using h5
  by_cases k1 : kd = 1
  · subst k1
    by_cases g1 : gr ≤ iv
    · have q1 : decide (gr ≤ iv) = true := decide_eq_true g1
      have g2 : ¬ iv < gr := by omega
      have HK := Lib.hid (HS.out.trans (show kindNdB _ = false from by simp [kindNdB, g2]))
      go_enter Tryz.func40, Tryz.ntmps40
      go_wp2_with (first | (go_at_call 65; refine (r1isName_any _ _ hn).mono ?_; rintro e w' ⟨rfl, rfl⟩) | (go_at_call 66; refine (r26pos_any _ _).mono ?_; rintro e w' ⟨rfl, rfl⟩) | (go_at_call 67; refine (r26lev_any _ _).mono ?_; rintro e w' ⟨rfl, rfl⟩))
      go_ret
      exact ⟨ret_bool HK.out.symm, by repeat' (first | exact Below.refl _ _ | assumption | refine Below.more ?_ ?_ _ | refine Below.alloc ?_ ?_ _ | refine Below.drew ?_ | refine below_drewN ?_ _ | refine Below.setCell ?_ ?_ _ | exact Below.size (by assumption) | (simp [go_sem, size_more]; done) | (simp [go_sem, size_more]; omega))⟩
    have q1 : decide (gr ≤ iv) = false := decide_eq_false g1
    have g2 : iv < gr := by omega
    go_enter Tryz.func40, Tryz.ntmps40
    go_wp2_with (first | (go_at_call 65; refine (r1isName_any _ _ hn).mono ?_; rintro e w' ⟨rfl, rfl⟩) | (go_at_call 66; refine (r26pos_any _ _).mono ?_; rintro e w' ⟨rfl, rfl⟩) | (go_at_call 67; refine (r26lev_any _ _).mono ?_; rintro e w' ⟨rfl, rfl⟩))
    refine Calls.to (r26shape_any sxs _ (gr - iv) _ (hsh.mono ((Below.refl _ _).alloc (Nat.le_refl _) _))) ?_
    rintro e w2 rfl hb2
    have hbx2 : Below (w.heap.size + 1) (w.alloc (.cells #[.string nm, .int .i64 1, .int .i64 ax, .int .i64 ay, .int .i64 iv, .int .i64 gr, .slice sa sxs.length scap, .bool pr, .int .i64 rs] 45)) w2 := by simpa using hb2
    have hbw2 : Below w.heap.size w w2 := ((Below.refl _ _).alloc (Nat.le_refl _) _).trans (hbx2.mono (by omega))
    have hsh2 := hsh.mono hbw2
    obtain ⟨c0, c1, c2, c3, c4, c5, c6, c7, c8⟩ := boxNd w w2 45 ⟨nm, 1, ax, ay, iv, gr, ⟨sa, scap, sxs⟩, pr, rs⟩ _ rfl _ rfl hbx2
    simp only at c0 c1 c2 c3 c4 c5 c6 c7 c8
    clear hb2 hsh hbx2
    cases hS : shapeB sxs (gr - iv)
    · have HK := Lib.hid (HS.out.trans (show kindNdB _ = false from by simp [kindNdB, hS]))
      go_wp2_with fail
      go_ret
      exact ⟨ret_bool HK.out.symm, by repeat' (first | exact Below.refl _ _ | assumption | refine Below.more ?_ ?_ _ | refine Below.alloc ?_ ?_ _ | refine Below.drew ?_ | refine below_drewN ?_ _ | refine Below.setCell ?_ ?_ _ | exact Below.size (by assumption) | (simp [go_sem, size_more]; done) | (simp [go_sem, size_more]; omega))⟩
    have hS' := Lib.hid hS
    cases pr
    · by_cases r0 : rs = 0
      · have q3 := beqT r0
        have R0 := Lib.hid r0
        clear r0
        have HK := Lib.hid (HS.out.trans (show kindNdB _ = true from by simp [kindNdB, g2, hS, R0.out]))
        go_wp2_with fail
        go_ret
        exact ⟨ret_bool HK.out.symm, by repeat' (first | exact Below.refl _ _ | assumption | refine Below.more ?_ ?_ _ | refine Below.alloc ?_ ?_ _ | refine Below.drew ?_ | refine below_drewN ?_ _ | refine Below.setCell ?_ ?_ _ | exact Below.size (by assumption) | (simp [go_sem, size_more]; done) | (simp [go_sem, size_more]; omega))⟩
      · have q3 := beqF r0
        have R0 := Lib.hid r0
        clear r0
        have HK := Lib.hid (HS.out.trans (show kindNdB _ = false from by simp [kindNdB, g2, hS, R0.out]))
        go_wp2_with fail
        go_ret
        exact ⟨ret_bool HK.out.symm, by repeat' (first | exact Below.refl _ _ | assumption | refine Below.more ?_ ?_ _ | refine Below.alloc ?_ ?_ _ | refine Below.drew ?_ | refine below_drewN ?_ _ | refine Below.setCell ?_ ?_ _ | exact Below.size (by assumption) | (simp [go_sem, size_more]; done) | (simp [go_sem, size_more]; omega))⟩
    · have HK := Lib.hid (HS.out.trans (show kindNdB _ = false from by simp [kindNdB, g2, hS]))
      go_wp2_with fail
      go_quiet (fail)
      go_wp2_with fail
      go_ret
      exact ⟨ret_bool HK.out.symm, by repeat' (first | exact Below.refl _ _ | assumption | refine Below.more ?_ ?_ _ | refine Below.alloc ?_ ?_ _ | refine Below.drew ?_ | refine below_drewN ?_ _ | refine Below.setCell ?_ ?_ _ | exact Below.size (by assumption) | (simp [go_sem, size_more]; done) | (simp [go_sem, size_more]; omega))⟩
  by_cases k2 : kd = 2
  · subst k2
    by_cases g1 : gr ≤ iv
    · have q1 : decide (gr ≤ iv) = true := decide_eq_true g1
      have g2 : ¬ iv < gr := by omega
      have HK := Lib.hid (HS.out.trans (show kindNdB _ = false from by simp [kindNdB, g2]))
      go_enter Tryz.func40, Tryz.ntmps40
      go_wp2_with (first | (go_at_call 65; refine (r1isName_any _ _ hn).mono ?_; rintro e w' ⟨rfl, rfl⟩) | (go_at_call 66; refine (r26pos_any _ _).mono ?_; rintro e w' ⟨rfl, rfl⟩) | (go_at_call 67; refine (r26lev_any _ _).mono ?_; rintro e w' ⟨rfl, rfl⟩))
      go_ret
      exact ⟨ret_bool HK.out.symm, by repeat' (first | exact Below.refl _ _ | assumption | refine Below.more ?_ ?_ _ | refine Below.alloc ?_ ?_ _ | refine Below.drew ?_ | refine below_drewN ?_ _ | refine Below.setCell ?_ ?_ _ | exact Below.size (by assumption) | (simp [go_sem, size_more]; done) | (simp [go_sem, size_more]; omega))⟩
    have q1 : decide (gr ≤ iv) = false := decide_eq_false g1
    have g2 : iv < gr := by omega
    go_enter Tryz.func40, Tryz.ntmps40
    go_wp2_with (first | (go_at_call 65; refine (r1isName_any _ _ hn).mono ?_; rintro e w' ⟨rfl, rfl⟩) | (go_at_call 66; refine (r26pos_any _ _).mono ?_; rintro e w' ⟨rfl, rfl⟩) | (go_at_call 67; refine (r26lev_any _ _).mono ?_; rintro e w' ⟨rfl, rfl⟩))
    refine Calls.to (r26shape_any sxs _ (gr - iv) _ (hsh.mono ((Below.refl _ _).alloc (Nat.le_refl _) _))) ?_
    rintro e w2 rfl hb2
    have hbx2 : Below (w.heap.size + 1) (w.alloc (.cells #[.string nm, .int .i64 2, .int .i64 ax, .int .i64 ay, .int .i64 iv, .int .i64 gr, .slice sa sxs.length scap, .bool pr, .int .i64 rs] 45)) w2 := by simpa using hb2
    have hbw2 : Below w.heap.size w w2 := ((Below.refl _ _).alloc (Nat.le_refl _) _).trans (hbx2.mono (by omega))
    have hsh2 := hsh.mono hbw2
    obtain ⟨c0, c1, c2, c3, c4, c5, c6, c7, c8⟩ := boxNd w w2 45 ⟨nm, 2, ax, ay, iv, gr, ⟨sa, scap, sxs⟩, pr, rs⟩ _ rfl _ rfl hbx2
    simp only at c0 c1 c2 c3 c4 c5 c6 c7 c8
    clear hb2 hsh hbx2
    cases hS : shapeB sxs (gr - iv)
    · have HK := Lib.hid (HS.out.trans (show kindNdB _ = false from by simp [kindNdB, hS]))
      go_wp2_with fail
      go_ret
      exact ⟨ret_bool HK.out.symm, by repeat' (first | exact Below.refl _ _ | assumption | refine Below.more ?_ ?_ _ | refine Below.alloc ?_ ?_ _ | refine Below.drew ?_ | refine below_drewN ?_ _ | refine Below.setCell ?_ ?_ _ | exact Below.size (by assumption) | (simp [go_sem, size_more]; done) | (simp [go_sem, size_more]; omega))⟩
    have hS' := Lib.hid hS
    cases pr
    · by_cases r0 : rs = 0
      · have q3 := beqT r0
        have R0 := Lib.hid r0
        clear r0
        have HK := Lib.hid (HS.out.trans (show kindNdB _ = true from by simp [kindNdB, g2, hS, R0.out]))
        go_wp2_with fail
        go_ret
        exact ⟨ret_bool HK.out.symm, by repeat' (first | exact Below.refl _ _ | assumption | refine Below.more ?_ ?_ _ | refine Below.alloc ?_ ?_ _ | refine Below.drew ?_ | refine below_drewN ?_ _ | refine Below.setCell ?_ ?_ _ | exact Below.size (by assumption) | (simp [go_sem, size_more]; done) | (simp [go_sem, size_more]; omega))⟩
      · have q3 := beqF r0
        have R0 := Lib.hid r0
        clear r0
        have HK := Lib.hid (HS.out.trans (show kindNdB _ = false from by simp [kindNdB, g2, hS, R0.out]))
        go_wp2_with fail
        go_ret
        exact ⟨ret_bool HK.out.symm, by repeat' (first | exact Below.refl _ _ | assumption | refine Below.more ?_ ?_ _ | refine Below.alloc ?_ ?_ _ | refine Below.drew ?_ | refine below_drewN ?_ _ | refine Below.setCell ?_ ?_ _ | exact Below.size (by assumption) | (simp [go_sem, size_more]; done) | (simp [go_sem, size_more]; omega))⟩
    · obtain ⟨a0, cp, e0, hcap, hbig, hs2⟩ := hsh2
      simp only [Value.slice.injEq] at e0
      obtain ⟨rfl, _, rfl⟩ := e0
      have hlen := tabB_len (xs := sxs) (by simp only [shapeB, Bool.and_eq_true] at hS; exact hS.1.1.1)
      obtain ⟨b, off, rfl, d1, d2⟩ := hs2.kn (sxs.length - 1) (by omega)
      have HLK := Lib.hid (lastK_eq hlen.1)
      have HK0 := Lib.hid (HS.out.trans (show kindNdB _ = (decide (0 ≤ rs) && decide (rs ≤ (sxs[sxs.length - 1]'(by omega)).Y)) from by simp [kindNdB, g2, hS, HLK.out]))
      clear hs2 HLK
      generalize sxs[sxs.length - 1] = xl at *
      cases z1 : decide (0 ≤ rs) <;> cases z2 : decide (rs ≤ xl.Y)
      all_goals
        have HK := Lib.hid (HK0.out.trans (by rw [z1, z2]))
        go_wp2_with fail
        have w1' : IntKind.i64.wrap ((sxs.length : Int) - 1) = (sxs.length : Int) - 1 := IntWalk.i64_in _ (by omega)
        have w2' : ((sxs.length : Int) - 1).toNat = sxs.length - 1 := by omega
        have w3' : 0 ≤ (sxs.length : Int) - 1 := by omega
        have w4' : (sxs.length : Int) - 1 < sxs.length := by omega
        go_quiet (fail)
        clear w1' w2' w3' w4'
        go_wp2_with fail
        go_ret
        exact ⟨ret_bool HK.out.symm, by repeat' (first | exact Below.refl _ _ | assumption | refine Below.more ?_ ?_ _ | refine Below.alloc ?_ ?_ _ | refine Below.drew ?_ | refine below_drewN ?_ _ | refine Below.setCell ?_ ?_ _ | exact Below.size (by assumption) | (simp [go_sem, size_more]; done) | (simp [go_sem, size_more]; omega))⟩
  have n1 := beqF k1
  have n2 := beqF k2
  by_cases k3 : kd = 3
  · subst k3
    clear k1 k2
    by_cases g1 : iv ≤ gr
    · have q1 : decide (iv ≤ gr) = true := decide_eq_true g1
      by_cases l0 : sxs.length = 0
      · have q2 : ((sxs.length : Int) == 0) = true := beqT (by omega)
        have L0 := Lib.hid l0
        clear l0
        cases pr
        · by_cases r0 : rs = 0
          · have q3 := beqT r0
            have R0 := Lib.hid r0
            clear r0
            have HK := Lib.hid (HS.out.trans (show kindNdB _ = true from by simp [kindNdB, g1, L0.out, R0.out]))
            go_enter Tryz.func40, Tryz.ntmps40
            go_wp2_with (first | (go_at_call 65; refine (r1isName_any _ _ hn).mono ?_; rintro e w' ⟨rfl, rfl⟩) | (go_at_call 66; refine (r26pos_any _ _).mono ?_; rintro e w' ⟨rfl, rfl⟩) | (go_at_call 67; refine (r26lev_any _ _).mono ?_; rintro e w' ⟨rfl, rfl⟩))
            go_ret
            exact ⟨ret_bool HK.out.symm, by repeat' (first | exact Below.refl _ _ | assumption | refine Below.more ?_ ?_ _ | refine Below.alloc ?_ ?_ _ | refine Below.drew ?_ | refine below_drewN ?_ _ | refine Below.setCell ?_ ?_ _ | exact Below.size (by assumption) | (simp [go_sem, size_more]; done) | (simp [go_sem, size_more]; omega))⟩
          · have q3 := beqF r0
            have R0 := Lib.hid r0
            clear r0
            have HK := Lib.hid (HS.out.trans (show kindNdB _ = false from by simp [kindNdB, g1, L0.out, R0.out]))
            go_enter Tryz.func40, Tryz.ntmps40
            go_wp2_with (first | (go_at_call 65; refine (r1isName_any _ _ hn).mono ?_; rintro e w' ⟨rfl, rfl⟩) | (go_at_call 66; refine (r26pos_any _ _).mono ?_; rintro e w' ⟨rfl, rfl⟩) | (go_at_call 67; refine (r26lev_any _ _).mono ?_; rintro e w' ⟨rfl, rfl⟩))
            go_ret
            exact ⟨ret_bool HK.out.symm, by repeat' (first | exact Below.refl _ _ | assumption | refine Below.more ?_ ?_ _ | refine Below.alloc ?_ ?_ _ | refine Below.drew ?_ | refine below_drewN ?_ _ | refine Below.setCell ?_ ?_ _ | exact Below.size (by assumption) | (simp [go_sem, size_more]; done) | (simp [go_sem, size_more]; omega))⟩
        · have HK := Lib.hid (HS.out.trans (show kindNdB _ = false from by simp [kindNdB, g1, L0.out]))
          go_enter Tryz.func40, Tryz.ntmps40
          go_wp2_with (first | (go_at_call 65; refine (r1isName_any _ _ hn).mono ?_; rintro e w' ⟨rfl, rfl⟩) | (go_at_call 66; refine (r26pos_any _ _).mono ?_; rintro e w' ⟨rfl, rfl⟩) | (go_at_call 67; refine (r26lev_any _ _).mono ?_; rintro e w' ⟨rfl, rfl⟩))
          go_ret
          exact ⟨ret_bool HK.out.symm, by repeat' (first | exact Below.refl _ _ | assumption | refine Below.more ?_ ?_ _ | refine Below.alloc ?_ ?_ _ | refine Below.drew ?_ | refine below_drewN ?_ _ | refine Below.setCell ?_ ?_ _ | exact Below.size (by assumption) | (simp [go_sem, size_more]; done) | (simp [go_sem, size_more]; omega))⟩
      · have q2 : ((sxs.length : Int) == 0) = false := beqF (by omega)
        have L0 := Lib.hid l0
        clear l0
        have HK := Lib.hid (HS.out.trans (show kindNdB _ = false from by simp [kindNdB, g1, L0.out]))
        go_enter Tryz.func40, Tryz.ntmps40
        go_wp2_with (first | (go_at_call 65; refine (r1isName_any _ _ hn).mono ?_; rintro e w' ⟨rfl, rfl⟩) | (go_at_call 66; refine (r26pos_any _ _).mono ?_; rintro e w' ⟨rfl, rfl⟩) | (go_at_call 67; refine (r26lev_any _ _).mono ?_; rintro e w' ⟨rfl, rfl⟩))
        go_ret
        exact ⟨ret_bool HK.out.symm, by repeat' (first | exact Below.refl _ _ | assumption | refine Below.more ?_ ?_ _ | refine Below.alloc ?_ ?_ _ | refine Below.drew ?_ | refine below_drewN ?_ _ | refine Below.setCell ?_ ?_ _ | exact Below.size (by assumption) | (simp [go_sem, size_more]; done) | (simp [go_sem, size_more]; omega))⟩
    · have q1 : decide (iv ≤ gr) = false := decide_eq_false g1
      have g1' : gr < iv := by omega
      have HK := Lib.hid (HS.out.trans (show kindNdB _ = false from by simp [kindNdB, Int.not_le.2 g1']))
      go_enter Tryz.func40, Tryz.ntmps40
      go_wp2_with (first | (go_at_call 65; refine (r1isName_any _ _ hn).mono ?_; rintro e w' ⟨rfl, rfl⟩) | (go_at_call 66; refine (r26pos_any _ _).mono ?_; rintro e w' ⟨rfl, rfl⟩) | (go_at_call 67; refine (r26lev_any _ _).mono ?_; rintro e w' ⟨rfl, rfl⟩))
      go_ret
      exact ⟨ret_bool HK.out.symm, by repeat' (first | exact Below.refl _ _ | assumption | refine Below.more ?_ ?_ _ | refine Below.alloc ?_ ?_ _ | refine Below.drew ?_ | refine below_drewN ?_ _ | refine Below.setCell ?_ ?_ _ | exact Below.size (by assumption) | (simp [go_sem, size_more]; done) | (simp [go_sem, size_more]; omega))⟩
  · have n3 := beqF k3
    have K1 := Lib.hid k1
    have K2 := Lib.hid k2
    have K3 := Lib.hid k3
    clear k1 k2 k3
    have HK := Lib.hid (HS.out.trans (show kindNdB _ = false from by simp [kindNdB, K1.out, K2.out, K3.out]))
    go_enter Tryz.func40, Tryz.ntmps40
    go_wp2_with (first | (go_at_call 65; refine (r1isName_any _ _ hn).mono ?_; rintro e w' ⟨rfl, rfl⟩) | (go_at_call 66; refine (r26pos_any _ _).mono ?_; rintro e w' ⟨rfl, rfl⟩) | (go_at_call 67; refine (r26lev_any _ _).mono ?_; rintro e w' ⟨rfl, rfl⟩))
    go_ret
    exact ⟨ret_bool HK.out.symm, by repeat' (first | exact Below.refl _ _ | assumption | refine Below.more ?_ ?_ _ | refine Below.alloc ?_ ?_ _ | refine Below.drew ?_ | refine below_drewN ?_ _ | refine Below.setCell ?_ ?_ _ | exact Below.size (by assumption) | (simp [go_sem, size_more]; done) | (simp [go_sem, size_more]; omega))⟩

end Go.Proofs.YtlcfnbnpkcjjlaaGreat

namespace Go.Proofs.YtlcfnbnpkcjjlaaGreat
open Go.RowKit
set_option linter.unusedVariables false
set_option linter.unusedSimpArgs false

section
variable (nm fr tt : ByteArray) (ln up dn : Int) (sc : ByteArray) (wi he : Int) (ca : Option Addr) (cc : Nat) (cx : List Kn)
theorem kindLk_1 : kindLkB ⟨nm, fr, tt, 1, ln, up, dn, sc, wi, he, ⟨ca, cc, cx⟩⟩ = (btwB ln 1 16777216 && lvlB dn && nameB sc && decide (wi = 0) && decide (he = 0) && decide (cx.length = 0)) := by
  simp [kindLkB, btwB]
theorem kindLk_2 : kindLkB ⟨nm, fr, tt, 2, ln, up, dn, sc, wi, he, ⟨ca, cc, cx⟩⟩ = (decide (ln = 0) && decide (dn = 0) && emptyB sc && btwB wi 1 1048576 && decide (he = 0) && decide (cx.length = 0)) := by
  simp [kindLkB, btwB]
theorem kindLk_3 : kindLkB ⟨nm, fr, tt, 3, ln, up, dn, sc, wi, he, ⟨ca, cc, cx⟩⟩ = (decide (ln = 0) && decide (dn = 0) && emptyB sc && btwB wi 1 32768 && btwB he 1 32768 && decide (cx.length = 0)) := by
  simp [kindLkB, btwB]
theorem kindLk_4 : kindLkB ⟨nm, fr, tt, 4, ln, up, dn, sc, wi, he, ⟨ca, cc, cx⟩⟩ = (decide (ln = 0) && lvlB dn && decide (dn < up) && emptyB sc && decide (wi = 0) && decide (he = 0) && curveB cx) := by
  simp [kindLkB]
theorem kindLk_lvl {kd : Int} (h : lvlB dn = false) : kindLkB ⟨nm, fr, tt, kd, ln, up, dn, sc, wi, he, ⟨ca, cc, cx⟩⟩ = false := by
  have h0 : ¬ dn = 0 := by rintro rfl; simp [lvlB] at h
  unfold kindLkB
  simp only [h, h0]
  simp
end
theorem lkB_of {l : Lk} (h1 : nameB l.Name = true) (h2 : nameB l.From = true) (h3 : nameB l.To = true) (h4 : strB l.From l.To = false) (h5 : lvlB l.Up = true) : lkB l = kindLkB l := by simp [lkB, h1, h2, h3, h4, h5]

set_option maxHeartbeats 8000000 in
theorem r26RightLink_1 (nm fr tt : ByteArray) (ln up dn : Int) (sc : ByteArray) (wi he : Int) (ca : Option Addr) (cc : Nat) (cx : List Kn) (w : World) (hn : nm.size ≤ maxLen) (hf : fr.size ≤ maxLen) (ht : tt.size ≤ maxLen) (hs : sc.size ≤ maxLen) (hcu : IsKns w (.slice ca cx.length cc) cx) (h1 : nameB nm = true) (h2 : nameB fr = true) (h3 : nameB tt = true) (h4 : strB fr tt = false) (h5 : lvlB up = true) (h6 : lvlB dn = true) :
    Calls Tryz.prog 41 #[vLk ⟨nm, fr, tt, 1, ln, up, dn, sc, wi, he, ⟨ca, cc, cx⟩⟩] w fun e w' => e = .returned (.bool (lkB ⟨nm, fr, tt, 1, ln, up, dn, sc, wi, he, ⟨ca, cc, cx⟩⟩)) ∧ Below w.heap.size w w' := by
  have HS := Lib.hid (lkB_of (l := ⟨nm, fr, tt, 1, ln, up, dn, sc, wi, he, ⟨ca, cc, cx⟩⟩) h1 h2 h3 h4 h5)
  have h4' : (fr.toList == tt.toList) = false := h4
  have H6 := Lib.hid h6
  simp only [vLk, vSl]
  go_enter Tryz.func41, Tryz.ntmps41
  go_upto_region 3 with (first | (go_at_call 65; refine (r1isName_any _ _ (by first | exact hn | exact hf | exact ht | exact hs)).mono ?_; rintro e w' ⟨rfl, rfl⟩) | (go_at_call 67; refine (r26lev_any _ _).mono ?_; rintro e w' ⟨rfl, rfl⟩))
  cases t1 : btwB ln 1 16777216
  · have T1 := Lib.hid t1
    have HK := Lib.hid (HS.out.trans ((kindLk_1 _ _ _ _ _ _ _ _ _ _ _ _).trans (by simp [H6.out, T1.out] : _ = false)))
    go_wp2_with (first | (go_at_call 65; refine (r1isName_any _ _ (by first | exact hn | exact hf | exact ht | exact hs)).mono ?_; rintro e w' ⟨rfl, rfl⟩) | (go_at_call 67; refine (r26lev_any _ _).mono ?_; rintro e w' ⟨rfl, rfl⟩) | (go_at_call 69; refine (r26within_any _ _ _).mono ?_; rintro e w' ⟨rfl, rfl⟩))
    go_ret
    exact ⟨ret_bool HK.out.symm, by repeat' (first | exact Below.refl _ _ | assumption | refine Below.more ?_ ?_ _ | refine Below.alloc ?_ ?_ _ | refine Below.drew ?_ | refine below_drewN ?_ _ | refine Below.setCell ?_ ?_ _ | exact Below.size (by assumption) | (simp [go_sem, size_more]; done) | (simp [go_sem, size_more]; omega))⟩
  have T1 := Lib.hid t1
  cases t2 : nameB sc
  · have T2 := Lib.hid t2
    have HK := Lib.hid (HS.out.trans ((kindLk_1 _ _ _ _ _ _ _ _ _ _ _ _).trans (by simp [H6.out, T1.out, T2.out] : _ = false)))
    go_wp2_with (first | (go_at_call 65; refine (r1isName_any _ _ (by first | exact hn | exact hf | exact ht | exact hs)).mono ?_; rintro e w' ⟨rfl, rfl⟩) | (go_at_call 67; refine (r26lev_any _ _).mono ?_; rintro e w' ⟨rfl, rfl⟩) | (go_at_call 69; refine (r26within_any _ _ _).mono ?_; rintro e w' ⟨rfl, rfl⟩))
    go_ret
    exact ⟨ret_bool HK.out.symm, by repeat' (first | exact Below.refl _ _ | assumption | refine Below.more ?_ ?_ _ | refine Below.alloc ?_ ?_ _ | refine Below.drew ?_ | refine below_drewN ?_ _ | refine Below.setCell ?_ ?_ _ | exact Below.size (by assumption) | (simp [go_sem, size_more]; done) | (simp [go_sem, size_more]; omega))⟩
  have T2 := Lib.hid t2
  by_cases t3 : wi = 0
  rotate_left
  · have t3b := beqF t3
    have T3 := Lib.hid t3
    clear t3
    have HK := Lib.hid (HS.out.trans ((kindLk_1 _ _ _ _ _ _ _ _ _ _ _ _).trans (by simp [H6.out, T1.out, T2.out, T3.out] : _ = false)))
    go_wp2_with (first | (go_at_call 65; refine (r1isName_any _ _ (by first | exact hn | exact hf | exact ht | exact hs)).mono ?_; rintro e w' ⟨rfl, rfl⟩) | (go_at_call 67; refine (r26lev_any _ _).mono ?_; rintro e w' ⟨rfl, rfl⟩) | (go_at_call 69; refine (r26within_any _ _ _).mono ?_; rintro e w' ⟨rfl, rfl⟩))
    go_ret
    exact ⟨ret_bool HK.out.symm, by repeat' (first | exact Below.refl _ _ | assumption | refine Below.more ?_ ?_ _ | refine Below.alloc ?_ ?_ _ | refine Below.drew ?_ | refine below_drewN ?_ _ | refine Below.setCell ?_ ?_ _ | exact Below.size (by assumption) | (simp [go_sem, size_more]; done) | (simp [go_sem, size_more]; omega))⟩
  have t3b := beqT t3
  have T3 := Lib.hid t3
  clear t3
  by_cases t4 : he = 0
  rotate_left
  · have t4b := beqF t4
    have T4 := Lib.hid t4
    clear t4
    have HK := Lib.hid (HS.out.trans ((kindLk_1 _ _ _ _ _ _ _ _ _ _ _ _).trans (by simp [H6.out, T1.out, T2.out, T3.out, T4.out] : _ = false)))
    go_wp2_with (first | (go_at_call 65; refine (r1isName_any _ _ (by first | exact hn | exact hf | exact ht | exact hs)).mono ?_; rintro e w' ⟨rfl, rfl⟩) | (go_at_call 67; refine (r26lev_any _ _).mono ?_; rintro e w' ⟨rfl, rfl⟩) | (go_at_call 69; refine (r26within_any _ _ _).mono ?_; rintro e w' ⟨rfl, rfl⟩))
    go_ret
    exact ⟨ret_bool HK.out.symm, by repeat' (first | exact Below.refl _ _ | assumption | refine Below.more ?_ ?_ _ | refine Below.alloc ?_ ?_ _ | refine Below.drew ?_ | refine below_drewN ?_ _ | refine Below.setCell ?_ ?_ _ | exact Below.size (by assumption) | (simp [go_sem, size_more]; done) | (simp [go_sem, size_more]; omega))⟩
  have t4b := beqT t4
  have T4 := Lib.hid t4
  clear t4
  by_cases t5 : cx.length = 0
  rotate_left
  · have t5b : ((cx.length : Int) == 0) = false := beqF (by omega)
    have T5 := Lib.hid t5
    clear t5
    have HK := Lib.hid (HS.out.trans ((kindLk_1 _ _ _ _ _ _ _ _ _ _ _ _).trans (by simp [H6.out, T1.out, T2.out, T3.out, T4.out, T5.out] : _ = false)))
    go_wp2_with (first | (go_at_call 65; refine (r1isName_any _ _ (by first | exact hn | exact hf | exact ht | exact hs)).mono ?_; rintro e w' ⟨rfl, rfl⟩) | (go_at_call 67; refine (r26lev_any _ _).mono ?_; rintro e w' ⟨rfl, rfl⟩) | (go_at_call 69; refine (r26within_any _ _ _).mono ?_; rintro e w' ⟨rfl, rfl⟩))
    go_ret
    exact ⟨ret_bool HK.out.symm, by repeat' (first | exact Below.refl _ _ | assumption | refine Below.more ?_ ?_ _ | refine Below.alloc ?_ ?_ _ | refine Below.drew ?_ | refine below_drewN ?_ _ | refine Below.setCell ?_ ?_ _ | exact Below.size (by assumption) | (simp [go_sem, size_more]; done) | (simp [go_sem, size_more]; omega))⟩
  have t5b : ((cx.length : Int) == 0) = true := beqT (by omega)
  have T5 := Lib.hid t5
  clear t5
  have HK := Lib.hid (HS.out.trans ((kindLk_1 _ _ _ _ _ _ _ _ _ _ _ _).trans (by simp [H6.out, T1.out, T2.out, T3.out, T4.out, T5.out] : _ = true)))
  go_wp2_with (first | (go_at_call 65; refine (r1isName_any _ _ (by first | exact hn | exact hf | exact ht | exact hs)).mono ?_; rintro e w' ⟨rfl, rfl⟩) | (go_at_call 67; refine (r26lev_any _ _).mono ?_; rintro e w' ⟨rfl, rfl⟩) | (go_at_call 69; refine (r26within_any _ _ _).mono ?_; rintro e w' ⟨rfl, rfl⟩))
  go_ret
  exact ⟨ret_bool HK.out.symm, by repeat' (first | exact Below.refl _ _ | assumption | refine Below.more ?_ ?_ _ | refine Below.alloc ?_ ?_ _ | refine Below.drew ?_ | refine below_drewN ?_ _ | refine Below.setCell ?_ ?_ _ | exact Below.size (by assumption) | (simp [go_sem, size_more]; done) | (simp [go_sem, size_more]; omega))⟩

set_option maxHeartbeats 8000000 in
theorem r26RightLink_2 (nm fr tt : ByteArray) (ln up dn : Int) (sc : ByteArray) (wi he : Int) (ca : Option Addr) (cc : Nat) (cx : List Kn) (w : World) (hn : nm.size ≤ maxLen) (hf : fr.size ≤ maxLen) (ht : tt.size ≤ maxLen) (hs : sc.size ≤ maxLen) (hcu : IsKns w (.slice ca cx.length cc) cx) (h1 : nameB nm = true) (h2 : nameB fr = true) (h3 : nameB tt = true) (h4 : strB fr tt = false) (h5 : lvlB up = true) (h6 : lvlB dn = true) :
    Calls Tryz.prog 41 #[vLk ⟨nm, fr, tt, 2, ln, up, dn, sc, wi, he, ⟨ca, cc, cx⟩⟩] w fun e w' => e = .returned (.bool (lkB ⟨nm, fr, tt, 2, ln, up, dn, sc, wi, he, ⟨ca, cc, cx⟩⟩)) ∧ Below w.heap.size w w' := by
  have HS := Lib.hid (lkB_of (l := ⟨nm, fr, tt, 2, ln, up, dn, sc, wi, he, ⟨ca, cc, cx⟩⟩) h1 h2 h3 h4 h5)
  have h4' : (fr.toList == tt.toList) = false := h4
  have H6 := Lib.hid h6
  simp only [vLk, vSl]
  go_enter Tryz.func41, Tryz.ntmps41
  go_upto_region 3 with (first | (go_at_call 65; refine (r1isName_any _ _ (by first | exact hn | exact hf | exact ht | exact hs)).mono ?_; rintro e w' ⟨rfl, rfl⟩) | (go_at_call 67; refine (r26lev_any _ _).mono ?_; rintro e w' ⟨rfl, rfl⟩))
  by_cases t1 : ln = 0
  rotate_left
  · have t1b := beqF t1
    have T1 := Lib.hid t1
    clear t1
    have HK := Lib.hid (HS.out.trans ((kindLk_2 _ _ _ _ _ _ _ _ _ _ _ _).trans (by simp [H6.out, T1.out] : _ = false)))
    go_wp2_with (first | (go_at_call 65; refine (r1isName_any _ _ (by first | exact hn | exact hf | exact ht | exact hs)).mono ?_; rintro e w' ⟨rfl, rfl⟩) | (go_at_call 67; refine (r26lev_any _ _).mono ?_; rintro e w' ⟨rfl, rfl⟩) | (go_at_call 69; refine (r26within_any _ _ _).mono ?_; rintro e w' ⟨rfl, rfl⟩))
    go_ret
    exact ⟨ret_bool HK.out.symm, by repeat' (first | exact Below.refl _ _ | assumption | refine Below.more ?_ ?_ _ | refine Below.alloc ?_ ?_ _ | refine Below.drew ?_ | refine below_drewN ?_ _ | refine Below.setCell ?_ ?_ _ | exact Below.size (by assumption) | (simp [go_sem, size_more]; done) | (simp [go_sem, size_more]; omega))⟩
  have t1b := beqT t1
  have T1 := Lib.hid t1
  clear t1
  by_cases t2 : dn = 0
  rotate_left
  · have t2b := beqF t2
    have T2 := Lib.hid t2
    clear t2
    have HK := Lib.hid (HS.out.trans ((kindLk_2 _ _ _ _ _ _ _ _ _ _ _ _).trans (by simp [H6.out, T1.out, T2.out] : _ = false)))
    go_wp2_with (first | (go_at_call 65; refine (r1isName_any _ _ (by first | exact hn | exact hf | exact ht | exact hs)).mono ?_; rintro e w' ⟨rfl, rfl⟩) | (go_at_call 67; refine (r26lev_any _ _).mono ?_; rintro e w' ⟨rfl, rfl⟩) | (go_at_call 69; refine (r26within_any _ _ _).mono ?_; rintro e w' ⟨rfl, rfl⟩))
    go_ret
    exact ⟨ret_bool HK.out.symm, by repeat' (first | exact Below.refl _ _ | assumption | refine Below.more ?_ ?_ _ | refine Below.alloc ?_ ?_ _ | refine Below.drew ?_ | refine below_drewN ?_ _ | refine Below.setCell ?_ ?_ _ | exact Below.size (by assumption) | (simp [go_sem, size_more]; done) | (simp [go_sem, size_more]; omega))⟩
  have t2b := beqT t2
  have T2 := Lib.hid t2
  clear t2
  cases t3 : emptyB sc
  · have T3 := Lib.hid t3
    have t3b : (sc.toList == []) = false := t3
    have t3c : sc.toList.isEmpty = false := by cases hq : sc.toList <;> simp_all
    have HK := Lib.hid (HS.out.trans ((kindLk_2 _ _ _ _ _ _ _ _ _ _ _ _).trans (by simp [H6.out, T1.out, T2.out, T3.out] : _ = false)))
    go_wp2_with (first | (go_at_call 65; refine (r1isName_any _ _ (by first | exact hn | exact hf | exact ht | exact hs)).mono ?_; rintro e w' ⟨rfl, rfl⟩) | (go_at_call 67; refine (r26lev_any _ _).mono ?_; rintro e w' ⟨rfl, rfl⟩) | (go_at_call 69; refine (r26within_any _ _ _).mono ?_; rintro e w' ⟨rfl, rfl⟩))
    go_ret
    exact ⟨ret_bool HK.out.symm, by repeat' (first | exact Below.refl _ _ | assumption | refine Below.more ?_ ?_ _ | refine Below.alloc ?_ ?_ _ | refine Below.drew ?_ | refine below_drewN ?_ _ | refine Below.setCell ?_ ?_ _ | exact Below.size (by assumption) | (simp [go_sem, size_more]; done) | (simp [go_sem, size_more]; omega))⟩
  have T3 := Lib.hid t3
  have t3b : sc.toList = [] := by simpa [emptyB] using t3
  clear t3
  cases t4 : btwB wi 1 1048576
  · have T4 := Lib.hid t4
    have HK := Lib.hid (HS.out.trans ((kindLk_2 _ _ _ _ _ _ _ _ _ _ _ _).trans (by simp [H6.out, T1.out, T2.out, T3.out, T4.out] : _ = false)))
    go_wp2_with (first | (go_at_call 65; refine (r1isName_any _ _ (by first | exact hn | exact hf | exact ht | exact hs)).mono ?_; rintro e w' ⟨rfl, rfl⟩) | (go_at_call 67; refine (r26lev_any _ _).mono ?_; rintro e w' ⟨rfl, rfl⟩) | (go_at_call 69; refine (r26within_any _ _ _).mono ?_; rintro e w' ⟨rfl, rfl⟩))
    go_ret
    exact ⟨ret_bool HK.out.symm, by repeat' (first | exact Below.refl _ _ | assumption | refine Below.more ?_ ?_ _ | refine Below.alloc ?_ ?_ _ | refine Below.drew ?_ | refine below_drewN ?_ _ | refine Below.setCell ?_ ?_ _ | exact Below.size (by assumption) | (simp [go_sem, size_more]; done) | (simp [go_sem, size_more]; omega))⟩
  have T4 := Lib.hid t4
  by_cases t5 : he = 0
  rotate_left
  · have t5b := beqF t5
    have T5 := Lib.hid t5
    clear t5
    have HK := Lib.hid (HS.out.trans ((kindLk_2 _ _ _ _ _ _ _ _ _ _ _ _).trans (by simp [H6.out, T1.out, T2.out, T3.out, T4.out, T5.out] : _ = false)))
    go_wp2_with (first | (go_at_call 65; refine (r1isName_any _ _ (by first | exact hn | exact hf | exact ht | exact hs)).mono ?_; rintro e w' ⟨rfl, rfl⟩) | (go_at_call 67; refine (r26lev_any _ _).mono ?_; rintro e w' ⟨rfl, rfl⟩) | (go_at_call 69; refine (r26within_any _ _ _).mono ?_; rintro e w' ⟨rfl, rfl⟩))
    go_ret
    exact ⟨ret_bool HK.out.symm, by repeat' (first | exact Below.refl _ _ | assumption | refine Below.more ?_ ?_ _ | refine Below.alloc ?_ ?_ _ | refine Below.drew ?_ | refine below_drewN ?_ _ | refine Below.setCell ?_ ?_ _ | exact Below.size (by assumption) | (simp [go_sem, size_more]; done) | (simp [go_sem, size_more]; omega))⟩
  have t5b := beqT t5
  have T5 := Lib.hid t5
  clear t5
  by_cases t6 : cx.length = 0
  rotate_left
  · have t6b : ((cx.length : Int) == 0) = false := beqF (by omega)
    have T6 := Lib.hid t6
    clear t6
    have HK := Lib.hid (HS.out.trans ((kindLk_2 _ _ _ _ _ _ _ _ _ _ _ _).trans (by simp [H6.out, T1.out, T2.out, T3.out, T4.out, T5.out, T6.out] : _ = false)))
    go_wp2_with (first | (go_at_call 65; refine (r1isName_any _ _ (by first | exact hn | exact hf | exact ht | exact hs)).mono ?_; rintro e w' ⟨rfl, rfl⟩) | (go_at_call 67; refine (r26lev_any _ _).mono ?_; rintro e w' ⟨rfl, rfl⟩) | (go_at_call 69; refine (r26within_any _ _ _).mono ?_; rintro e w' ⟨rfl, rfl⟩))
    go_ret
    exact ⟨ret_bool HK.out.symm, by repeat' (first | exact Below.refl _ _ | assumption | refine Below.more ?_ ?_ _ | refine Below.alloc ?_ ?_ _ | refine Below.drew ?_ | refine below_drewN ?_ _ | refine Below.setCell ?_ ?_ _ | exact Below.size (by assumption) | (simp [go_sem, size_more]; done) | (simp [go_sem, size_more]; omega))⟩
  have t6b : ((cx.length : Int) == 0) = true := beqT (by omega)
  have T6 := Lib.hid t6
  clear t6
  have HK := Lib.hid (HS.out.trans ((kindLk_2 _ _ _ _ _ _ _ _ _ _ _ _).trans (by simp [H6.out, T1.out, T2.out, T3.out, T4.out, T5.out, T6.out] : _ = true)))
  go_wp2_with (first | (go_at_call 65; refine (r1isName_any _ _ (by first | exact hn | exact hf | exact ht | exact hs)).mono ?_; rintro e w' ⟨rfl, rfl⟩) | (go_at_call 67; refine (r26lev_any _ _).mono ?_; rintro e w' ⟨rfl, rfl⟩) | (go_at_call 69; refine (r26within_any _ _ _).mono ?_; rintro e w' ⟨rfl, rfl⟩))
  go_ret
  exact ⟨ret_bool HK.out.symm, by repeat' (first | exact Below.refl _ _ | assumption | refine Below.more ?_ ?_ _ | refine Below.alloc ?_ ?_ _ | refine Below.drew ?_ | refine below_drewN ?_ _ | refine Below.setCell ?_ ?_ _ | exact Below.size (by assumption) | (simp [go_sem, size_more]; done) | (simp [go_sem, size_more]; omega))⟩

set_option maxHeartbeats 8000000 in
theorem r26RightLink_3 (nm fr tt : ByteArray) (ln up dn : Int) (sc : ByteArray) (wi he : Int) (ca : Option Addr) (cc : Nat) (cx : List Kn) (w : World) (hn : nm.size ≤ maxLen) (hf : fr.size ≤ maxLen) (ht : tt.size ≤ maxLen) (hs : sc.size ≤ maxLen) (hcu : IsKns w (.slice ca cx.length cc) cx) (h1 : nameB nm = true) (h2 : nameB fr = true) (h3 : nameB tt = true) (h4 : strB fr tt = false) (h5 : lvlB up = true) (h6 : lvlB dn = true) :
    Calls Tryz.prog 41 #[vLk ⟨nm, fr, tt, 3, ln, up, dn, sc, wi, he, ⟨ca, cc, cx⟩⟩] w fun e w' => e = .returned (.bool (lkB ⟨nm, fr, tt, 3, ln, up, dn, sc, wi, he, ⟨ca, cc, cx⟩⟩)) ∧ Below w.heap.size w w' := by
  have HS := Lib.hid (lkB_of (l := ⟨nm, fr, tt, 3, ln, up, dn, sc, wi, he, ⟨ca, cc, cx⟩⟩) h1 h2 h3 h4 h5)
  have h4' : (fr.toList == tt.toList) = false := h4
  have H6 := Lib.hid h6
  simp only [vLk, vSl]
  go_enter Tryz.func41, Tryz.ntmps41
  go_upto_region 3 with (first | (go_at_call 65; refine (r1isName_any _ _ (by first | exact hn | exact hf | exact ht | exact hs)).mono ?_; rintro e w' ⟨rfl, rfl⟩) | (go_at_call 67; refine (r26lev_any _ _).mono ?_; rintro e w' ⟨rfl, rfl⟩))
  by_cases t1 : ln = 0
  rotate_left
  · have t1b := beqF t1
    have T1 := Lib.hid t1
    clear t1
    have HK := Lib.hid (HS.out.trans ((kindLk_3 _ _ _ _ _ _ _ _ _ _ _ _).trans (by simp [H6.out, T1.out] : _ = false)))
    go_wp2_with (first | (go_at_call 65; refine (r1isName_any _ _ (by first | exact hn | exact hf | exact ht | exact hs)).mono ?_; rintro e w' ⟨rfl, rfl⟩) | (go_at_call 67; refine (r26lev_any _ _).mono ?_; rintro e w' ⟨rfl, rfl⟩) | (go_at_call 69; refine (r26within_any _ _ _).mono ?_; rintro e w' ⟨rfl, rfl⟩))
    go_ret
    exact ⟨ret_bool HK.out.symm, by repeat' (first | exact Below.refl _ _ | assumption | refine Below.more ?_ ?_ _ | refine Below.alloc ?_ ?_ _ | refine Below.drew ?_ | refine below_drewN ?_ _ | refine Below.setCell ?_ ?_ _ | exact Below.size (by assumption) | (simp [go_sem, size_more]; done) | (simp [go_sem, size_more]; omega))⟩
  have t1b := beqT t1
  have T1 := Lib.hid t1
  clear t1
  by_cases t2 : dn = 0
  rotate_left
  · have t2b := beqF t2
    have T2 := Lib.hid t2
    clear t2
    have HK := Lib.hid (HS.out.trans ((kindLk_3 _ _ _ _ _ _ _ _ _ _ _ _).trans (by simp [H6.out, T1.out, T2.out] : _ = false)))
    go_wp2_with (first | (go_at_call 65; refine (r1isName_any _ _ (by first | exact hn | exact hf | exact ht | exact hs)).mono ?_; rintro e w' ⟨rfl, rfl⟩) | (go_at_call 67; refine (r26lev_any _ _).mono ?_; rintro e w' ⟨rfl, rfl⟩) | (go_at_call 69; refine (r26within_any _ _ _).mono ?_; rintro e w' ⟨rfl, rfl⟩))
    go_ret
    exact ⟨ret_bool HK.out.symm, by repeat' (first | exact Below.refl _ _ | assumption | refine Below.more ?_ ?_ _ | refine Below.alloc ?_ ?_ _ | refine Below.drew ?_ | refine below_drewN ?_ _ | refine Below.setCell ?_ ?_ _ | exact Below.size (by assumption) | (simp [go_sem, size_more]; done) | (simp [go_sem, size_more]; omega))⟩
  have t2b := beqT t2
  have T2 := Lib.hid t2
  clear t2
  cases t3 : emptyB sc
  · have T3 := Lib.hid t3
    have t3b : (sc.toList == []) = false := t3
    have t3c : sc.toList.isEmpty = false := by cases hq : sc.toList <;> simp_all
    have HK := Lib.hid (HS.out.trans ((kindLk_3 _ _ _ _ _ _ _ _ _ _ _ _).trans (by simp [H6.out, T1.out, T2.out, T3.out] : _ = false)))
    go_wp2_with (first | (go_at_call 65; refine (r1isName_any _ _ (by first | exact hn | exact hf | exact ht | exact hs)).mono ?_; rintro e w' ⟨rfl, rfl⟩) | (go_at_call 67; refine (r26lev_any _ _).mono ?_; rintro e w' ⟨rfl, rfl⟩) | (go_at_call 69; refine (r26within_any _ _ _).mono ?_; rintro e w' ⟨rfl, rfl⟩))
    go_ret
    exact ⟨ret_bool HK.out.symm, by repeat' (first | exact Below.refl _ _ | assumption | refine Below.more ?_ ?_ _ | refine Below.alloc ?_ ?_ _ | refine Below.drew ?_ | refine below_drewN ?_ _ | refine Below.setCell ?_ ?_ _ | exact Below.size (by assumption) | (simp [go_sem, size_more]; done) | (simp [go_sem, size_more]; omega))⟩
  have T3 := Lib.hid t3
  have t3b : sc.toList = [] := by simpa [emptyB] using t3
  clear t3
  cases t4 : btwB wi 1 32768
  · have T4 := Lib.hid t4
    have HK := Lib.hid (HS.out.trans ((kindLk_3 _ _ _ _ _ _ _ _ _ _ _ _).trans (by simp [H6.out, T1.out, T2.out, T3.out, T4.out] : _ = false)))
    go_wp2_with (first | (go_at_call 65; refine (r1isName_any _ _ (by first | exact hn | exact hf | exact ht | exact hs)).mono ?_; rintro e w' ⟨rfl, rfl⟩) | (go_at_call 67; refine (r26lev_any _ _).mono ?_; rintro e w' ⟨rfl, rfl⟩) | (go_at_call 69; refine (r26within_any _ _ _).mono ?_; rintro e w' ⟨rfl, rfl⟩))
    go_ret
    exact ⟨ret_bool HK.out.symm, by repeat' (first | exact Below.refl _ _ | assumption | refine Below.more ?_ ?_ _ | refine Below.alloc ?_ ?_ _ | refine Below.drew ?_ | refine below_drewN ?_ _ | refine Below.setCell ?_ ?_ _ | exact Below.size (by assumption) | (simp [go_sem, size_more]; done) | (simp [go_sem, size_more]; omega))⟩
  have T4 := Lib.hid t4
  cases t5 : btwB he 1 32768
  · have T5 := Lib.hid t5
    have HK := Lib.hid (HS.out.trans ((kindLk_3 _ _ _ _ _ _ _ _ _ _ _ _).trans (by simp [H6.out, T1.out, T2.out, T3.out, T4.out, T5.out] : _ = false)))
    go_wp2_with (first | (go_at_call 65; refine (r1isName_any _ _ (by first | exact hn | exact hf | exact ht | exact hs)).mono ?_; rintro e w' ⟨rfl, rfl⟩) | (go_at_call 67; refine (r26lev_any _ _).mono ?_; rintro e w' ⟨rfl, rfl⟩) | (go_at_call 69; refine (r26within_any _ _ _).mono ?_; rintro e w' ⟨rfl, rfl⟩))
    go_ret
    exact ⟨ret_bool HK.out.symm, by repeat' (first | exact Below.refl _ _ | assumption | refine Below.more ?_ ?_ _ | refine Below.alloc ?_ ?_ _ | refine Below.drew ?_ | refine below_drewN ?_ _ | refine Below.setCell ?_ ?_ _ | exact Below.size (by assumption) | (simp [go_sem, size_more]; done) | (simp [go_sem, size_more]; omega))⟩
  have T5 := Lib.hid t5
  by_cases t6 : cx.length = 0
  rotate_left
  · have t6b : ((cx.length : Int) == 0) = false := beqF (by omega)
    have T6 := Lib.hid t6
    clear t6
    have HK := Lib.hid (HS.out.trans ((kindLk_3 _ _ _ _ _ _ _ _ _ _ _ _).trans (by simp [H6.out, T1.out, T2.out, T3.out, T4.out, T5.out, T6.out] : _ = false)))
    go_wp2_with (first | (go_at_call 65; refine (r1isName_any _ _ (by first | exact hn | exact hf | exact ht | exact hs)).mono ?_; rintro e w' ⟨rfl, rfl⟩) | (go_at_call 67; refine (r26lev_any _ _).mono ?_; rintro e w' ⟨rfl, rfl⟩) | (go_at_call 69; refine (r26within_any _ _ _).mono ?_; rintro e w' ⟨rfl, rfl⟩))
    go_ret
    exact ⟨ret_bool HK.out.symm, by repeat' (first | exact Below.refl _ _ | assumption | refine Below.more ?_ ?_ _ | refine Below.alloc ?_ ?_ _ | refine Below.drew ?_ | refine below_drewN ?_ _ | refine Below.setCell ?_ ?_ _ | exact Below.size (by assumption) | (simp [go_sem, size_more]; done) | (simp [go_sem, size_more]; omega))⟩
  have t6b : ((cx.length : Int) == 0) = true := beqT (by omega)
  have T6 := Lib.hid t6
  clear t6
  have HK := Lib.hid (HS.out.trans ((kindLk_3 _ _ _ _ _ _ _ _ _ _ _ _).trans (by simp [H6.out, T1.out, T2.out, T3.out, T4.out, T5.out, T6.out] : _ = true)))
  go_wp2_with (first | (go_at_call 65; refine (r1isName_any _ _ (by first | exact hn | exact hf | exact ht | exact hs)).mono ?_; rintro e w' ⟨rfl, rfl⟩) | (go_at_call 67; refine (r26lev_any _ _).mono ?_; rintro e w' ⟨rfl, rfl⟩) | (go_at_call 69; refine (r26within_any _ _ _).mono ?_; rintro e w' ⟨rfl, rfl⟩))
  go_ret
  exact ⟨ret_bool HK.out.symm, by repeat' (first | exact Below.refl _ _ | assumption | refine Below.more ?_ ?_ _ | refine Below.alloc ?_ ?_ _ | refine Below.drew ?_ | refine below_drewN ?_ _ | refine Below.setCell ?_ ?_ _ | exact Below.size (by assumption) | (simp [go_sem, size_more]; done) | (simp [go_sem, size_more]; omega))⟩

set_option maxHeartbeats 8000000 in
theorem r26RightLink_4 (nm fr tt : ByteArray) (ln up dn : Int) (sc : ByteArray) (wi he : Int) (ca : Option Addr) (cc : Nat) (cx : List Kn) (w : World) (hn : nm.size ≤ maxLen) (hf : fr.size ≤ maxLen) (ht : tt.size ≤ maxLen) (hs : sc.size ≤ maxLen) (hcu : IsKns w (.slice ca cx.length cc) cx) (h1 : nameB nm = true) (h2 : nameB fr = true) (h3 : nameB tt = true) (h4 : strB fr tt = false) (h5 : lvlB up = true) (h6 : lvlB dn = true) :
    Calls Tryz.prog 41 #[vLk ⟨nm, fr, tt, 4, ln, up, dn, sc, wi, he, ⟨ca, cc, cx⟩⟩] w fun e w' => e = .returned (.bool (lkB ⟨nm, fr, tt, 4, ln, up, dn, sc, wi, he, ⟨ca, cc, cx⟩⟩)) ∧ Below w.heap.size w w' := by
  have HS := Lib.hid (lkB_of (l := ⟨nm, fr, tt, 4, ln, up, dn, sc, wi, he, ⟨ca, cc, cx⟩⟩) h1 h2 h3 h4 h5)
  have h4' : (fr.toList == tt.toList) = false := h4
  have H6 := Lib.hid h6
  simp only [vLk, vSl]
  go_enter Tryz.func41, Tryz.ntmps41
  go_upto_region 3 with (first | (go_at_call 65; refine (r1isName_any _ _ (by first | exact hn | exact hf | exact ht | exact hs)).mono ?_; rintro e w' ⟨rfl, rfl⟩) | (go_at_call 67; refine (r26lev_any _ _).mono ?_; rintro e w' ⟨rfl, rfl⟩))
  by_cases t1 : ln = 0
  rotate_left
  · have t1b := beqF t1
    have T1 := Lib.hid t1
    clear t1
    have HK := Lib.hid (HS.out.trans ((kindLk_4 _ _ _ _ _ _ _ _ _ _ _ _).trans (by simp [H6.out, T1.out] : _ = false)))
    go_wp2_with (first | (go_at_call 65; refine (r1isName_any _ _ (by first | exact hn | exact hf | exact ht | exact hs)).mono ?_; rintro e w' ⟨rfl, rfl⟩) | (go_at_call 67; refine (r26lev_any _ _).mono ?_; rintro e w' ⟨rfl, rfl⟩) | (go_at_call 69; refine (r26within_any _ _ _).mono ?_; rintro e w' ⟨rfl, rfl⟩))
    go_ret
    exact ⟨ret_bool HK.out.symm, by repeat' (first | exact Below.refl _ _ | assumption | refine Below.more ?_ ?_ _ | refine Below.alloc ?_ ?_ _ | refine Below.drew ?_ | refine below_drewN ?_ _ | refine Below.setCell ?_ ?_ _ | exact Below.size (by assumption) | (simp [go_sem, size_more]; done) | (simp [go_sem, size_more]; omega))⟩
  have t1b := beqT t1
  have T1 := Lib.hid t1
  clear t1
  by_cases t2 : dn < up
  rotate_left
  · have t2b : decide (dn < up) = false := decide_eq_false t2
    have T2 := Lib.hid t2
    clear t2
    have HK := Lib.hid (HS.out.trans ((kindLk_4 _ _ _ _ _ _ _ _ _ _ _ _).trans (by simp [H6.out, T1.out, T2.out] : _ = false)))
    go_wp2_with (first | (go_at_call 65; refine (r1isName_any _ _ (by first | exact hn | exact hf | exact ht | exact hs)).mono ?_; rintro e w' ⟨rfl, rfl⟩) | (go_at_call 67; refine (r26lev_any _ _).mono ?_; rintro e w' ⟨rfl, rfl⟩) | (go_at_call 69; refine (r26within_any _ _ _).mono ?_; rintro e w' ⟨rfl, rfl⟩))
    go_ret
    exact ⟨ret_bool HK.out.symm, by repeat' (first | exact Below.refl _ _ | assumption | refine Below.more ?_ ?_ _ | refine Below.alloc ?_ ?_ _ | refine Below.drew ?_ | refine below_drewN ?_ _ | refine Below.setCell ?_ ?_ _ | exact Below.size (by assumption) | (simp [go_sem, size_more]; done) | (simp [go_sem, size_more]; omega))⟩
  have t2b : decide (dn < up) = true := decide_eq_true t2
  have T2 := Lib.hid t2
  cases t3 : emptyB sc
  · have T3 := Lib.hid t3
    have t3b : (sc.toList == []) = false := t3
    have t3c : sc.toList.isEmpty = false := by cases hq : sc.toList <;> simp_all
    have HK := Lib.hid (HS.out.trans ((kindLk_4 _ _ _ _ _ _ _ _ _ _ _ _).trans (by simp [H6.out, T1.out, T2.out, T3.out] : _ = false)))
    go_wp2_with (first | (go_at_call 65; refine (r1isName_any _ _ (by first | exact hn | exact hf | exact ht | exact hs)).mono ?_; rintro e w' ⟨rfl, rfl⟩) | (go_at_call 67; refine (r26lev_any _ _).mono ?_; rintro e w' ⟨rfl, rfl⟩) | (go_at_call 69; refine (r26within_any _ _ _).mono ?_; rintro e w' ⟨rfl, rfl⟩))
    go_ret
    exact ⟨ret_bool HK.out.symm, by repeat' (first | exact Below.refl _ _ | assumption | refine Below.more ?_ ?_ _ | refine Below.alloc ?_ ?_ _ | refine Below.drew ?_ | refine below_drewN ?_ _ | refine Below.setCell ?_ ?_ _ | exact Below.size (by assumption) | (simp [go_sem, size_more]; done) | (simp [go_sem, size_more]; omega))⟩
  have T3 := Lib.hid t3
  have t3b : sc.toList = [] := by simpa [emptyB] using t3
  clear t3
  by_cases t4 : wi = 0
  rotate_left
  · have t4b := beqF t4
    have T4 := Lib.hid t4
    clear t4
    have HK := Lib.hid (HS.out.trans ((kindLk_4 _ _ _ _ _ _ _ _ _ _ _ _).trans (by simp [H6.out, T1.out, T2.out, T3.out, T4.out] : _ = false)))
    go_wp2_with (first | (go_at_call 65; refine (r1isName_any _ _ (by first | exact hn | exact hf | exact ht | exact hs)).mono ?_; rintro e w' ⟨rfl, rfl⟩) | (go_at_call 67; refine (r26lev_any _ _).mono ?_; rintro e w' ⟨rfl, rfl⟩) | (go_at_call 69; refine (r26within_any _ _ _).mono ?_; rintro e w' ⟨rfl, rfl⟩))
    go_ret
    exact ⟨ret_bool HK.out.symm, by repeat' (first | exact Below.refl _ _ | assumption | refine Below.more ?_ ?_ _ | refine Below.alloc ?_ ?_ _ | refine Below.drew ?_ | refine below_drewN ?_ _ | refine Below.setCell ?_ ?_ _ | exact Below.size (by assumption) | (simp [go_sem, size_more]; done) | (simp [go_sem, size_more]; omega))⟩
  have t4b := beqT t4
  have T4 := Lib.hid t4
  clear t4
  by_cases t5 : he = 0
  rotate_left
  · have t5b := beqF t5
    have T5 := Lib.hid t5
    clear t5
    have HK := Lib.hid (HS.out.trans ((kindLk_4 _ _ _ _ _ _ _ _ _ _ _ _).trans (by simp [H6.out, T1.out, T2.out, T3.out, T4.out, T5.out] : _ = false)))
    go_wp2_with (first | (go_at_call 65; refine (r1isName_any _ _ (by first | exact hn | exact hf | exact ht | exact hs)).mono ?_; rintro e w' ⟨rfl, rfl⟩) | (go_at_call 67; refine (r26lev_any _ _).mono ?_; rintro e w' ⟨rfl, rfl⟩) | (go_at_call 69; refine (r26within_any _ _ _).mono ?_; rintro e w' ⟨rfl, rfl⟩))
    go_ret
    exact ⟨ret_bool HK.out.symm, by repeat' (first | exact Below.refl _ _ | assumption | refine Below.more ?_ ?_ _ | refine Below.alloc ?_ ?_ _ | refine Below.drew ?_ | refine below_drewN ?_ _ | refine Below.setCell ?_ ?_ _ | exact Below.size (by assumption) | (simp [go_sem, size_more]; done) | (simp [go_sem, size_more]; omega))⟩
  have t5b := beqT t5
  have T5 := Lib.hid t5
  clear t5
  have HK := Lib.hid (HS.out.trans ((kindLk_4 _ _ _ _ _ _ _ _ _ _ _ _).trans (by simp [H6.out, T1.out, T2.out, T3.out, T4.out, T5.out] : _ = curveB cx)))
  go_wp2_with (first | (go_at_call 65; refine (r1isName_any _ _ (by first | exact hn | exact hf | exact ht | exact hs)).mono ?_; rintro e w' ⟨rfl, rfl⟩) | (go_at_call 67; refine (r26lev_any _ _).mono ?_; rintro e w' ⟨rfl, rfl⟩) | (go_at_call 69; refine (r26within_any _ _ _).mono ?_; rintro e w' ⟨rfl, rfl⟩))
  refine Calls.to (r26curve_any cx _ _ (hcu.mono ((Below.refl _ _).alloc (Nat.le_refl _) _))) ?_
  rintro e w2 rfl hb2
  have hbb : Below w.heap.size w w2 := ((Below.refl _ _).alloc (Nat.le_refl _) _).trans (hb2.mono (by simp))
  clear hb2
  go_wp2_with fail
  go_ret
  exact ⟨ret_bool HK.out.symm, hbb⟩

set_option maxHeartbeats 8000000 in
theorem r26RightLink_any (l : Lk) (w : World) (hg : gLk w l) : Calls Tryz.prog 41 #[vLk l] w fun e w' => e = .returned (.bool (lkB l)) ∧ Below w.heap.size w w' := by
  obtain ⟨nm, fr, tt, kd, ln, up, dn, sc, wi, he, ⟨ca, cc, cx⟩⟩ := l
  have hn := hg.name
  have hf := hg.src
  have ht := hg.dst
  have hs := hg.sec
  have hcu : IsKns w (.slice ca cx.length cc) cx := hg.cu.isL
  clear hg
  simp only at hn hf ht hs
  cases h1 : nameB nm
  · simp only [vLk, vSl]
    have HS : Hid (lkB ⟨nm, fr, tt, kd, ln, up, dn, sc, wi, he, ⟨ca, cc, cx⟩⟩ = false) := by show _ = _; simp [lkB, h1]
    go_enter Tryz.func41, Tryz.ntmps41
    go_wp2_with (first | (go_at_call 65; refine (r1isName_any _ _ (by first | exact hn | exact hf | exact ht | exact hs)).mono ?_; rintro e w' ⟨rfl, rfl⟩) | (go_at_call 67; refine (r26lev_any _ _).mono ?_; rintro e w' ⟨rfl, rfl⟩) | (go_at_call 69; refine (r26within_any _ _ _).mono ?_; rintro e w' ⟨rfl, rfl⟩))
    go_ret
    exact ⟨ret_bool HS.out.symm, by repeat' (first | exact Below.refl _ _ | assumption | refine Below.more ?_ ?_ _ | refine Below.alloc ?_ ?_ _ | refine Below.drew ?_ | refine below_drewN ?_ _ | refine Below.setCell ?_ ?_ _ | exact Below.size (by assumption) | (simp [go_sem, size_more]; done) | (simp [go_sem, size_more]; omega))⟩
  cases h2 : nameB fr
  · simp only [vLk, vSl]
    have HS : Hid (lkB ⟨nm, fr, tt, kd, ln, up, dn, sc, wi, he, ⟨ca, cc, cx⟩⟩ = false) := by show _ = _; simp [lkB, h2]
    go_enter Tryz.func41, Tryz.ntmps41
    go_wp2_with (first | (go_at_call 65; refine (r1isName_any _ _ (by first | exact hn | exact hf | exact ht | exact hs)).mono ?_; rintro e w' ⟨rfl, rfl⟩) | (go_at_call 67; refine (r26lev_any _ _).mono ?_; rintro e w' ⟨rfl, rfl⟩) | (go_at_call 69; refine (r26within_any _ _ _).mono ?_; rintro e w' ⟨rfl, rfl⟩))
    go_ret
    exact ⟨ret_bool HS.out.symm, by repeat' (first | exact Below.refl _ _ | assumption | refine Below.more ?_ ?_ _ | refine Below.alloc ?_ ?_ _ | refine Below.drew ?_ | refine below_drewN ?_ _ | refine Below.setCell ?_ ?_ _ | exact Below.size (by assumption) | (simp [go_sem, size_more]; done) | (simp [go_sem, size_more]; omega))⟩
  cases h3 : nameB tt
  · simp only [vLk, vSl]
    have HS : Hid (lkB ⟨nm, fr, tt, kd, ln, up, dn, sc, wi, he, ⟨ca, cc, cx⟩⟩ = false) := by show _ = _; simp [lkB, h3]
    go_enter Tryz.func41, Tryz.ntmps41
    go_wp2_with (first | (go_at_call 65; refine (r1isName_any _ _ (by first | exact hn | exact hf | exact ht | exact hs)).mono ?_; rintro e w' ⟨rfl, rfl⟩) | (go_at_call 67; refine (r26lev_any _ _).mono ?_; rintro e w' ⟨rfl, rfl⟩) | (go_at_call 69; refine (r26within_any _ _ _).mono ?_; rintro e w' ⟨rfl, rfl⟩))
    go_ret
    exact ⟨ret_bool HS.out.symm, by repeat' (first | exact Below.refl _ _ | assumption | refine Below.more ?_ ?_ _ | refine Below.alloc ?_ ?_ _ | refine Below.drew ?_ | refine below_drewN ?_ _ | refine Below.setCell ?_ ?_ _ | exact Below.size (by assumption) | (simp [go_sem, size_more]; done) | (simp [go_sem, size_more]; omega))⟩
  cases h4 : strB fr tt
  rotate_left
  · simp only [vLk, vSl]
    have h4' : (fr.toList == tt.toList) = true := h4
    have HS : Hid (lkB ⟨nm, fr, tt, kd, ln, up, dn, sc, wi, he, ⟨ca, cc, cx⟩⟩ = false) := by show _ = _; simp [lkB, h4]
    go_enter Tryz.func41, Tryz.ntmps41
    go_wp2_with (first | (go_at_call 65; refine (r1isName_any _ _ (by first | exact hn | exact hf | exact ht | exact hs)).mono ?_; rintro e w' ⟨rfl, rfl⟩) | (go_at_call 67; refine (r26lev_any _ _).mono ?_; rintro e w' ⟨rfl, rfl⟩) | (go_at_call 69; refine (r26within_any _ _ _).mono ?_; rintro e w' ⟨rfl, rfl⟩))
    go_ret
    exact ⟨ret_bool HS.out.symm, by repeat' (first | exact Below.refl _ _ | assumption | refine Below.more ?_ ?_ _ | refine Below.alloc ?_ ?_ _ | refine Below.drew ?_ | refine below_drewN ?_ _ | refine Below.setCell ?_ ?_ _ | exact Below.size (by assumption) | (simp [go_sem, size_more]; done) | (simp [go_sem, size_more]; omega))⟩
  have h4' : (fr.toList == tt.toList) = false := h4
  cases h5 : lvlB up
  · simp only [vLk, vSl]
    have HS : Hid (lkB ⟨nm, fr, tt, kd, ln, up, dn, sc, wi, he, ⟨ca, cc, cx⟩⟩ = false) := by show _ = _; simp [lkB, h5]
    go_enter Tryz.func41, Tryz.ntmps41
    go_wp2_with (first | (go_at_call 65; refine (r1isName_any _ _ (by first | exact hn | exact hf | exact ht | exact hs)).mono ?_; rintro e w' ⟨rfl, rfl⟩) | (go_at_call 67; refine (r26lev_any _ _).mono ?_; rintro e w' ⟨rfl, rfl⟩) | (go_at_call 69; refine (r26within_any _ _ _).mono ?_; rintro e w' ⟨rfl, rfl⟩))
    go_ret
    exact ⟨ret_bool HS.out.symm, by repeat' (first | exact Below.refl _ _ | assumption | refine Below.more ?_ ?_ _ | refine Below.alloc ?_ ?_ _ | refine Below.drew ?_ | refine below_drewN ?_ _ | refine Below.setCell ?_ ?_ _ | exact Below.size (by assumption) | (simp [go_sem, size_more]; done) | (simp [go_sem, size_more]; omega))⟩
  cases h6 : lvlB dn
  · simp only [vLk, vSl]
    have HL := Lib.hid (kindLk_lvl nm fr tt ln up dn sc wi he ca cc cx (kd := kd) h6)
    have HS : Hid (lkB ⟨nm, fr, tt, kd, ln, up, dn, sc, wi, he, ⟨ca, cc, cx⟩⟩ = false) := by show _ = _; simp [lkB, HL.out]
    go_enter Tryz.func41, Tryz.ntmps41
    go_wp2_with (first | (go_at_call 65; refine (r1isName_any _ _ (by first | exact hn | exact hf | exact ht | exact hs)).mono ?_; rintro e w' ⟨rfl, rfl⟩) | (go_at_call 67; refine (r26lev_any _ _).mono ?_; rintro e w' ⟨rfl, rfl⟩) | (go_at_call 69; refine (r26within_any _ _ _).mono ?_; rintro e w' ⟨rfl, rfl⟩))
    go_ret
    exact ⟨ret_bool HS.out.symm, by repeat' (first | exact Below.refl _ _ | assumption | refine Below.more ?_ ?_ _ | refine Below.alloc ?_ ?_ _ | refine Below.drew ?_ | refine below_drewN ?_ _ | refine Below.setCell ?_ ?_ _ | exact Below.size (by assumption) | (simp [go_sem, size_more]; done) | (simp [go_sem, size_more]; omega))⟩
  by_cases k1 : kd = 1
  · subst k1; exact r26RightLink_1 nm fr tt ln up dn sc wi he ca cc cx w hn hf ht hs hcu h1 h2 h3 h4 h5 h6
  by_cases k2 : kd = 2
  · subst k2; exact r26RightLink_2 nm fr tt ln up dn sc wi he ca cc cx w hn hf ht hs hcu h1 h2 h3 h4 h5 h6
  by_cases k3 : kd = 3
  · subst k3; exact r26RightLink_3 nm fr tt ln up dn sc wi he ca cc cx w hn hf ht hs hcu h1 h2 h3 h4 h5 h6
  by_cases k4 : kd = 4
  · subst k4; exact r26RightLink_4 nm fr tt ln up dn sc wi he ca cc cx w hn hf ht hs hcu h1 h2 h3 h4 h5 h6
  have HL : Hid (kindLkB ⟨nm, fr, tt, kd, ln, up, dn, sc, wi, he, ⟨ca, cc, cx⟩⟩ = false) := by show _ = _; simp [kindLkB, k1, k2, k3, k4]
  have n1 := beqF k1
  have n2 := beqF k2
  have n3 := beqF k3
  have n4 := beqF k4
  clear k1 k2 k3 k4
  simp only [vLk, vSl]
  have HS : Hid (lkB ⟨nm, fr, tt, kd, ln, up, dn, sc, wi, he, ⟨ca, cc, cx⟩⟩ = false) := by show _ = _; simp [lkB, HL.out]
  go_enter Tryz.func41, Tryz.ntmps41
  go_wp2_with (first | (go_at_call 65; refine (r1isName_any _ _ (by first | exact hn | exact hf | exact ht | exact hs)).mono ?_; rintro e w' ⟨rfl, rfl⟩) | (go_at_call 67; refine (r26lev_any _ _).mono ?_; rintro e w' ⟨rfl, rfl⟩) | (go_at_call 69; refine (r26within_any _ _ _).mono ?_; rintro e w' ⟨rfl, rfl⟩))
  go_ret
  exact ⟨ret_bool HS.out.symm, by repeat' (first | exact Below.refl _ _ | assumption | refine Below.more ?_ ?_ _ | refine Below.alloc ?_ ?_ _ | refine Below.drew ?_ | refine below_drewN ?_ _ | refine Below.setCell ?_ ?_ _ | exact Below.size (by assumption) | (simp [go_sem, size_more]; done) | (simp [go_sem, size_more]; omega))⟩

end Go.Proofs.YtlcfnbnpkcjjlaaGreat

namespace Go.Proofs.YtlcfnbnpkcjjlaaGreat
open Go.RowKit
set_option linter.unusedVariables false
set_option linter.unusedSimpArgs false

theorem rn_lit {x : Nd} {b : Bool} (h : ndB x = b) (w : World) (hg : gNd w x) : Calls Tryz.prog 40 #[vNd x] w fun e w' => e = .returned (.bool b) ∧ Below w.heap.size w w' := by
  rw [← h]; exact r26RightNode_any x w hg

set_option maxRecDepth 100000 in
set_option maxHeartbeats 8000000 in
theorem r26valid_any (n : Net) (w : World) (hg : gNet w n) : Calls Tryz.prog 14 #[vNet n] w fun e w' => e = .returned (.bool (netB n)) ∧ Below w.heap.size w w' := by
  obtain ⟨⟨na, nc, nxs⟩, ⟨la, lc, lxs⟩⟩ := n
  obtain ⟨hN, hL⟩ := hg
  simp only at hN hL
  have hsN := hN.2.2.1
  have hsL := hL.2.2.1
  have isN : IsNds w (vSl (⟨na, nc, nxs⟩ : Sl Nd)) nxs := hN.isL
  have isL : IsLks w (vSl (⟨la, lc, lxs⟩ : Sl Lk)) lxs := hL.isL
  have gN := hN.2.2.2
  have gL := hL.2.2.2
  clear hN hL
  simp only at hsN hsL gN gL
  simp only [vNet, vSl]
  by_cases z1 : 300 < nxs.length
  · have q1 : decide ((300 : Int) < (nxs.length : Int)) = true := decide_eq_true (by omega)
    have HS := Lib.hid (netB_bad1 (n := ⟨⟨na, nc, nxs⟩, ⟨la, lc, lxs⟩⟩) z1)
    go_enter Tryz.func14, Tryz.ntmps14
    go_wp2_with fail
    go_ret
    exact ⟨ret_bool HS.out.symm, by repeat' (first | exact Below.refl _ _ | assumption | refine Below.more ?_ ?_ _ | refine Below.alloc ?_ ?_ _ | refine Below.drew ?_ | refine below_drewN ?_ _ | refine Below.setCell ?_ ?_ _ | exact Below.size (by assumption) | (simp [go_sem, size_more]; done) | (simp [go_sem, size_more]; omega))⟩
  have q1 : decide ((300 : Int) < (nxs.length : Int)) = false := decide_eq_false (by omega)
  by_cases z2 : 400 < lxs.length
  · have q2 : decide ((400 : Int) < (lxs.length : Int)) = true := decide_eq_true (by omega)
    have HS := Lib.hid (netB_bad2 (n := ⟨⟨na, nc, nxs⟩, ⟨la, lc, lxs⟩⟩) z2)
    go_enter Tryz.func14, Tryz.ntmps14
    go_wp2_with fail
    go_ret
    exact ⟨ret_bool HS.out.symm, by repeat' (first | exact Below.refl _ _ | assumption | refine Below.more ?_ ?_ _ | refine Below.alloc ?_ ?_ _ | refine Below.drew ?_ | refine below_drewN ?_ _ | refine Below.setCell ?_ ?_ _ | exact Below.size (by assumption) | (simp [go_sem, size_more]; done) | (simp [go_sem, size_more]; omega))⟩
  have q2 : decide ((400 : Int) < (lxs.length : Int)) = false := decide_eq_false (by omega)
  have HS := Lib.hid (netB_is (n := ⟨⟨na, nc, nxs⟩, ⟨la, lc, lxs⟩⟩) z1 z2)
  simp only at HS
  go_enter Tryz.func14, Tryz.ntmps14
  go_wp2_with fail
  go_loopw [3] (fun s3 wr => ∃ k : Nat, k ≤ nxs.length ∧ s3 = .int .i64 k ∧ Below (w.heap.size + 1) (w.alloc (.cells #[.slice na nxs.length nc, .slice la lxs.length lc] 25)) wr ∧ Hid (allFrom (okNd nxs) 0 nxs.length = allFrom (okNd nxs) k nxs.length)) (fun i _ => nxs.length - (intOf i).toNat)
  case atStart => exact ⟨0, Nat.zero_le _, rfl, Below.refl _ _, rfl⟩
  case round =>
    as_aux_lemma =>
    obtain ⟨k, hk, rfl, hb, hm⟩ := hrel
    have hbw : Below w.heap.size w wr := ((Below.refl _ _).alloc (Nat.le_refl _) _).trans (hb.mono (by omega))
    obtain ⟨e0, e1⟩ := boxNet w wr 25 ⟨⟨na, nc, nxs⟩, ⟨la, lc, lxs⟩⟩ _ rfl _ rfl hb
    simp only [vSl] at e0 e1
    by_cases hlt : k < nxs.length
    · obtain ⟨b, off, rfl, c0, c1, c2, c3, c4, c5, c6, c7, c8⟩ := (hsN.mono hbw).nd k hlt
      have gxr := rdNd.mono (gN _ (List.getElem_mem hlt)) hbw
      have HO := Lib.hid (okNd_at hlt)
      have HA := Lib.hid (allFrom_step (okNd nxs) hlt)
      have i1 : (0 : Int) ≤ k := by omega
      have i2 : (k : Int) < nxs.length := by omega
      clear hsN hsL gN gL isL
      generalize nxs[k] = x at *
      cases hx : ndB x
      · have HX := Lib.hid hx
        go_wp2_with fail
        refine wp_region_more_lit (by kernel_rfl) (by kernel_rfl) ?_
        repeat (go_big_quiet_step (((first | (go_at_call 40; exact Calls.more_of (rn_lit hx _ (rdNd.mono gxr (below_more _ _)))) | (go_at_call 38; exact Calls.more_of (hfn _ (hbw.trans ((below_more _ _).mono hbw.size))))))))
        refine wpQuiet_nil ?_
        intro _ hwq
        obtain ⟨xq, hwq⟩ := hwq
        subst hwq
        have hfin := Below.more hb (by simpa using hb.size) xq
        have hbw1 : Below w.heap.size w (more wr xq) := hbw.trans ((below_more wr xq).mono hbw.size)
        go_wp2_with fail
        go_ret
        exact ⟨ret_bool (HS.out.trans (by rw [hm.out, HA.out, HO.out, HX.out]; rfl)).symm, hbw1⟩
      have HX := Lib.hid hx
      have hfn := fun W (hW : Below w.heap.size w W) => r26findNode_any ⟨⟨some ⟨b, off, none⟩, nc, nxs⟩, ⟨la, lc, lxs⟩⟩ x.Name W (isN.mono hW)
      simp only [vNet, vSl] at hfn
      by_cases hf : findNd nxs x.Name = k
      · have HF := Lib.hid hf
        rw [hf] at hfn
        clear hf
        have u1 : ((k : Int) != (k : Int)) = false := bneF rfl
        have u2 : (k != k) = false := by simp
        go_wp2_with fail
        refine wp_region_more_lit (by kernel_rfl) (by kernel_rfl) ?_
        repeat (go_big_quiet_step (((first | (go_at_call 40; exact Calls.more_of (rn_lit hx _ (rdNd.mono gxr (below_more _ _)))) | (go_at_call 38; exact Calls.more_of (hfn _ (hbw.trans ((below_more _ _).mono hbw.size))))))))
        refine wpQuiet_nil ?_
        intro _ hwq
        obtain ⟨xq, hwq⟩ := hwq
        subst hwq
        have hfin := Below.more hb (by simpa using hb.size) xq
        have hbw1 : Below w.heap.size w (more wr xq) := hbw.trans ((below_more wr xq).mono hbw.size)
        go_wp2_with fail
        go_roundw
        case rel => exact ⟨k + 1, by omega, by go_num, hfin, hm.out.trans (by rw [HA.out, HO.out, HX.out, HF.out]; simp)⟩
        case measure => simp [intOf]; omega
      · have HF := Lib.hid hf
        generalize findNd nxs x.Name = f at *
        have u1 := bneT hf
        have u2 := beqF hf
        clear hf
        go_wp2_with fail
        refine wp_region_more_lit (by kernel_rfl) (by kernel_rfl) ?_
        repeat (go_big_quiet_step (((first | (go_at_call 40; exact Calls.more_of (rn_lit hx _ (rdNd.mono gxr (below_more _ _)))) | (go_at_call 38; exact Calls.more_of (hfn _ (hbw.trans ((below_more _ _).mono hbw.size))))))))
        refine wpQuiet_nil ?_
        intro _ hwq
        obtain ⟨xq, hwq⟩ := hwq
        subst hwq
        have hfin := Below.more hb (by simpa using hb.size) xq
        have hbw1 : Below w.heap.size w (more wr xq) := hbw.trans ((below_more wr xq).mono hbw.size)
        go_wp2_with fail
        go_ret
        exact ⟨ret_bool (HS.out.trans (by rw [hm.out, HA.out, HO.out, HX.out]; simp [HF.out])).symm, hbw1⟩
    · have HN : Hid (netB ⟨⟨na, nc, nxs⟩, ⟨la, lc, lxs⟩⟩ = allFrom (okLk nxs lxs) 0 lxs.length) := by
        show _ = _
        rw [HS.out, hm.out, allFrom_end _ (by omega)]; rfl
      clear hm HS
      go_wp2_with fail
      go_loopw [4] (fun s41 wr2 => ∃ k : Nat, k ≤ lxs.length ∧ s41 = .int .i64 k ∧ Below (w.heap.size + 1) (w.alloc (.cells #[.slice na nxs.length nc, .slice la lxs.length lc] 25)) wr2 ∧ Hid (allFrom (okLk nxs lxs) 0 lxs.length = allFrom (okLk nxs lxs) k lxs.length)) (fun i _ => lxs.length - (intOf i).toNat)
      case atStart => exact ⟨0, Nat.zero_le _, rfl, hb, rfl⟩
      case round =>
        as_aux_lemma =>
        obtain ⟨k, hk, rfl, hb, hm⟩ := hrel
        have hbw : Below w.heap.size w wr := ((Below.refl _ _).alloc (Nat.le_refl _) _).trans (hb.mono (by omega))
        obtain ⟨e0, e1⟩ := boxNet w wr 25 ⟨⟨na, nc, nxs⟩, ⟨la, lc, lxs⟩⟩ _ rfl _ rfl hb
        simp only [vSl] at e0 e1
        by_cases hlt : k < lxs.length
        · obtain ⟨b, off, rfl, c0, c1, c2, c3, c4, c5, c6, c7, c8, c9, c10⟩ := (hsL.mono hbw).lk k hlt
          have gx := rdLk.mono (gL _ (List.getElem_mem hlt)) hbw
          have HO := Lib.hid (okLk_at (ns := nxs) hlt)
          have HA := Lib.hid (allFrom_step (okLk nxs lxs) hlt)
          have isNr := isN.mono hbw
          have isLr := isL.mono hbw
          have hsNr := hsN.mono hbw
          clear hsN hsL gN gL isN isL
          generalize lxs[k] = x at *
          go_wp2_with fail
          refine Calls.to (r26RightLink_any x _ (rdLk.mono gx ((Below.refl _ _).alloc (Nat.le_refl _) _))) ?_
          rintro e w1 rfl hb1
          have hbx : Below (wr.heap.size + 1) (wr.alloc (.cells (eLk x).toArray 65)) w1 := by simpa using hb1
          obtain ⟨d0, d1, d2, d3, d4, d5, d6, d7, d8, d9, d10⟩ := boxLk wr w1 65 x _ rfl _ rfl hbx
          have hb1' : Below wr.heap.size wr w1 := ((Below.refl _ _).alloc (Nat.le_refl _) _).trans (hbx.mono (by omega))
          have e0 := box_lt e0 hb1'
          have e1 := box_lt e1 hb1'
          have hbw1 := hbw.trans (hb1'.mono hbw.size)
          have hbW := hb.trans (hb1'.mono (by simpa using hb.size))
          have isN1 := isNr.mono hb1'
          have isL1 := isLr.mono hb1'
          have hsN1 := hsNr.mono hb1'
          clear hb1 hbx hb1' isNr isLr hsNr c0 c1 c2 c3 c4 c5 c6 c7 c8 c9 c10 d3 d4 d5 d6 d7 d8 d9 d10
          cases hx : lkB x
          · have HX := Lib.hid hx
            go_wp2_with fail
            go_ret
            exact ⟨ret_bool (HN.out.trans (by rw [hm.out, HA.out, HO.out, HX.out]; rfl)).symm, hbw1⟩
          have HX := Lib.hid hx
          go_wp2_with fail
          refine Calls.to (r26findLink_any ⟨⟨na, nc, nxs⟩, ⟨some ⟨b, off, none⟩, lc, lxs⟩⟩ x.Name _ isL1) ?_
          rintro e w2 rfl hb2
          simp only
          have hbw2 := hbw1.trans (hb2.mono hbw1.size)
          have hbW2 := hbW.trans (hb2.mono (by simpa using hbW.size))
          have e0 := box_lt e0 hb2
          have e1 := box_lt e1 hb2
          have d1 := box_lt d1 hb2
          have d2 := box_lt d2 hb2
          have isN2 := isN1.mono hb2
          have hsN2 := hsN1.mono hb2
          clear hb2 isN1 isL1 hsN1 hbw1 hbW d0 hx
          by_cases hf : findLk lxs x.Name = k
          rotate_left
          · have HF := Lib.hid hf
            have u1 := bneT hf
            have u2 := beqF hf
            clear hf
            go_wp2_with fail
            go_ret
            exact ⟨ret_bool (HN.out.trans (by rw [hm.out, HA.out, HO.out, HX.out]; simp [HF.out])).symm, hbw2⟩
          have HF := Lib.hid hf
          have u1 := bneF hf
          have u2 := beqT hf
          clear hf
          go_wp2_with fail
          refine Calls.to (r26findNode_any ⟨⟨na, nc, nxs⟩, ⟨some ⟨b, off, none⟩, lc, lxs⟩⟩ x.To _ isN2) ?_
          rintro e w3 rfl hb3
          simp only
          have hbw3 := hbw2.trans (hb3.mono hbw2.size)
          have hbW3 := hbW2.trans (hb3.mono (by simpa using hbW2.size))
          have e0 := box_lt e0 hb3
          have e1 := box_lt e1 hb3
          have d1 := box_lt d1 hb3
          have isN3 := isN2.mono hb3
          have hsN3 := hsN2.mono hb3
          have hfb := findNd_bd nxs x.To
          clear hb3 isN2 hsN2 hbw2 hbW2 d2 u1 u2
          generalize findNd nxs x.To = f at *
          by_cases hf0 : f < 0
          · have u1 : decide (f < 0) = true := decide_eq_true hf0
            have HZ : Hid (decide (0 ≤ f) = false) := decide_eq_false (by omega)
            go_wp2_with fail
            go_ret
            exact ⟨ret_bool (HN.out.trans (by rw [hm.out, HA.out, HO.out, HX.out, HZ.out]; simp)).symm, hbw3⟩
          have u1 : decide (f < 0) = false := decide_eq_false hf0
          have HZ : Hid (decide (0 ≤ f) = true) := decide_eq_true (by omega)
          clear hf0
          go_wp2_with fail
          refine Calls.to (r26findNode_any ⟨⟨na, nc, nxs⟩, ⟨some ⟨b, off, none⟩, lc, lxs⟩⟩ x.From _ isN3) ?_
          rintro e w4 rfl hb4
          simp only
          have hbw4 := hbw3.trans (hb4.mono hbw3.size)
          have hbW4 := hbW3.trans (hb4.mono (by simpa using hbW3.size))
          have e0 := box_lt e0 hb4
          have e1 := box_lt e1 hb4
          have hsN4 := hsN3.mono hb4
          have htb := findNd_bd nxs x.From
          clear hb4 isN3 hsN3 hbw3 hbW3 d1
          generalize findNd nxs x.From = g at *
          by_cases hg0 : g < 0
          · have v1 : decide (g < 0) = true := decide_eq_true hg0
            have HY : Hid (decide (0 ≤ g) = false) := decide_eq_false (by omega)
            go_wp2_with fail
            go_ret
            exact ⟨ret_bool (HN.out.trans (by rw [hm.out, HA.out, HO.out, HX.out, HZ.out, HY.out]; simp)).symm, hbw4⟩
          have v1 : decide (g < 0) = false := decide_eq_false hg0
          have HY : Hid (decide (0 ≤ g) = true) := decide_eq_true (by omega)
          obtain ⟨j, rfl⟩ : ∃ j : Nat, g = (j : Int) := ⟨g.toNat, by omega⟩
          have hj : j < nxs.length := by omega
          have v1' : decide ((j : Int) < 0) = false := decide_eq_false (by omega)
          clear hg0
          obtain ⟨nb, noff, rfl, a0, a1, a2, a3, a4, a5, a6, a7, a8⟩ := hsN4.nd j hj
          have HG : Hid ((nxs.getD (j : Int).toNat default).Kind = nxs[j].Kind) := by
            show _ = _
            simp only [Int.toNat_natCast, List.getD, List.getElem?_eq_getElem hj, Option.getD_some]
          clear hsN4 a0 a2 a3 a4 a5 a6 a7 a8
          generalize nxs[j] = y at *
          by_cases hk3 : y.Kind = 3
          · have r1 := beqT hk3
            have HK3 := Lib.hid hk3
            clear hk3
            go_wp2_with fail
            go_ret
            exact ⟨ret_bool (HN.out.trans (by rw [hm.out, HA.out, HO.out, HX.out, HZ.out, HY.out, HG.out]; simp [HK3.out])).symm, hbw4⟩
          · have r1 := beqF hk3
            have HK3 := Lib.hid hk3
            clear hk3
            go_wp2_with fail
            go_roundw
            case rel => exact ⟨k + 1, by omega, by go_num, hbW4, hm.out.trans (by rw [HA.out, HO.out, HX.out, HZ.out, HY.out, HG.out]; simp [HK3.out, HF.out])⟩
            case measure => simp [intOf]; omega
        · go_wp2_with fail
          go_ret
          refine ⟨ret_bool ?_, hbw⟩
          rw [HN.out, hm.out, allFrom_end _ (by omega)]

end Go.Proofs.YtlcfnbnpkcjjlaaGreat
