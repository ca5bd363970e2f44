/- Nodes that are right, the reference's side. Conditions: the node reads as data. | RightNode of the reference. Conditions: the node reads as data. | RightLink of the reference. Conditions: the link reads as data. | Valid of networks, the reference's side. Conditions: the network reads as data. -/
import Derived.Test.YtjgfgbiohbgcaaaNn
import Derived.Test.YtjgfgbiohbgcaaaNo
import Derived.Test.YtjgfgbiohbgcaaaNu
import Derived.Test.YtjgfgbiohbgcaaaMLnk
namespace Go.Proofs.Ytjgfgbiohbgcaaa
open Go.RowKit
set_option linter.unusedVariables false
set_option linter.unusedSimpArgs false

theorem r26pos_any (n : Int) (w : World) : Calls Try.prog 39 #[.int .i64 n] w fun e w' => e = .returned (.bool (posB n)) ∧ w' = w := by
  by_cases h1 : -16777216 ≤ n <;> by_cases h2 : n ≤ 16777216
  all_goals
    go_enter Try.func39, Try.ntmps39
    go_wp2_with fail
    go_ret
    exact ⟨ret_bool (by simp [posB, h1, h2]), rfl⟩
theorem r26lev_any (n : Int) (w : World) : Calls Try.prog 40 #[.int .i64 n] w fun e w' => e = .returned (.bool (lvlB n)) ∧ w' = w := by
  by_cases h1 : -4194304 ≤ n <;> by_cases h2 : n ≤ 4194304
  all_goals
    go_enter Try.func40, Try.ntmps40
    go_wp2_with fail
    go_ret
    exact ⟨ret_bool (by simp [lvlB, h1, h2]), rfl⟩
set_option maxHeartbeats 4000000 in
theorem r6valid_any (xs : List Kn) (v : Value) (w : World) (hv : IsKns w v xs) : Calls Try.prog 14 #[v] w fun e w' => e = .returned (.bool (tabB xs)) ∧ Below w.heap.size w w' := by
  obtain ⟨a, cap, rfl, hcap, hbig, hs⟩ := hv
  by_cases h1 : xs.length < 1
  · have q1 : decide ((xs.length : Int) < 1) = true := decide_eq_true (by omega)
    have HN : Hid (tabB xs = false) := by show _ = _; simp [tabB]; omega
    go_enter Try.func14, Try.ntmps14
    go_wp2_with fail
    go_ret
    exact ⟨ret_bool HN.out.symm, Below.refl _ _⟩
  have q1 : decide ((xs.length : Int) < 1) = false := decide_eq_false (by omega)
  by_cases h2 : 100 < xs.length
  · have q2 : decide ((100 : Int) < (xs.length : Int)) = true := decide_eq_true (by omega)
    have HN : Hid (tabB xs = false) := by show _ = _; simp [tabB]; omega
    go_enter Try.func14, Try.ntmps14
    go_wp2_with fail
    go_ret
    exact ⟨ret_bool HN.out.symm, Below.refl _ _⟩
  have q2 : decide ((100 : Int) < (xs.length : Int)) = false := decide_eq_false (by omega)
  have HT : Hid (tabB xs = allFrom (knB xs) 0 xs.length) := by
    show _ = _
    have : 1 ≤ xs.length ∧ xs.length ≤ 100 := by omega
    simp [tabB, this]
  go_enter Try.func14, Try.ntmps14
  go_wp2_with fail
  go_loopw [3] (fun s3 wr => ∃ k : Nat, k ≤ xs.length ∧ s3 = .int .i64 k ∧ Below w.heap.size w wr ∧ Hid (tabB xs = allFrom (knB xs) k xs.length)) (fun i _ => xs.length - (intOf i).toNat)
  case atStart => exact ⟨0, Nat.zero_le _, rfl, Below.refl _ _, HT⟩
  case round =>
    obtain ⟨k, hk, rfl, hb, hm⟩ := hrel
    by_cases hlt : k < xs.length
    · obtain ⟨b, off, rfl, c1, c2⟩ := (hs.mono hb).kn k hlt
      have HS := Lib.hid (allFrom_step (knB xs) hlt)
      have hblt := World.block_lt_of_cell? _ _ c1
      by_cases h0 : k = 0
      · have HK : Hid (knB xs k = (fitB xs[k].X && fitB xs[k].Y)) := by show _ = _; subst h0; exact knB_0 hlt rfl
        have q0 : decide (0 < k) = false := decide_eq_false (by omega)
        have q0' : decide ((0 : Int) < (k : Int)) = false := decide_eq_false (by omega)
        have H0 := Lib.hid h0
        clear hs h0
        generalize xs[k] = x at *
        cases hfx : fitB x.X
        · go_wp2_with (go_at_call 35; refine (r6num_any _ _).mono ?_; rintro e w' ⟨rfl, rfl⟩)
          go_ret
          exact ⟨ret_bool (hm.out.trans (HS.out.trans (by rw [HK.out, hfx]; rfl))).symm, by repeat' (first | exact Below.refl _ _ | assumption | refine Below.more ?_ ?_ _ | refine Below.alloc ?_ ?_ _ | refine Below.drew ?_ | refine below_drewN ?_ _ | refine Below.setCell ?_ ?_ _ | exact Below.size (by assumption) | (simp [go_sem, size_more]; done) | (simp [go_sem, size_more]; omega))⟩
        · cases hfy : fitB x.Y
          · go_wp2_with (go_at_call 35; refine (r6num_any _ _).mono ?_; rintro e w' ⟨rfl, rfl⟩)
            go_ret
            exact ⟨ret_bool (hm.out.trans (HS.out.trans (by rw [HK.out, hfx, hfy]; rfl))).symm, by repeat' (first | exact Below.refl _ _ | assumption | refine Below.more ?_ ?_ _ | refine Below.alloc ?_ ?_ _ | refine Below.drew ?_ | refine below_drewN ?_ _ | refine Below.setCell ?_ ?_ _ | exact Below.size (by assumption) | (simp [go_sem, size_more]; done) | (simp [go_sem, size_more]; omega))⟩
          · go_wp2_with (go_at_call 35; refine (r6num_any _ _).mono ?_; rintro e w' ⟨rfl, rfl⟩)
            go_quiet (fail)
            go_wp2_with fail
            go_roundw
            case rel => exact ⟨k + 1, by omega, by go_num, by repeat' (first | exact Below.refl _ _ | assumption | refine Below.more ?_ ?_ _ | refine Below.alloc ?_ ?_ _ | refine Below.drew ?_ | refine below_drewN ?_ _ | refine Below.setCell ?_ ?_ _ | exact Below.size (by assumption) | (simp [go_sem, size_more]; done) | (simp [go_sem, size_more]; omega)), hm.out.trans (HS.out.trans (by rw [HK.out, hfx, hfy]; rfl))⟩
            case measure => simp [intOf]; omega
      · have h0' : 0 < k := by omega
        obtain ⟨d1, d2⟩ := (hs.mono hb).knAt (k - 1) (by omega)
        have HK : Hid (knB xs k = (fitB xs[k].X && fitB xs[k].Y && decide ((xs[k - 1]'(by omega)).X < xs[k].X ∧ (xs[k - 1]'(by omega)).Y ≤ xs[k].Y))) := knB_pos hlt h0' rfl rfl
        have q0 : decide (0 < k) = true := decide_eq_true (by omega)
        have q0' : decide ((0 : Int) < (k : Int)) = true := decide_eq_true (by omega)
        clear hs h0
        have hp1 : k - 1 < xs.length := by omega
        generalize xs[k - 1] = p at *
        generalize xs[k] = x at *
        cases hfx : fitB x.X
        · go_wp2_with (go_at_call 35; refine (r6num_any _ _).mono ?_; rintro e w' ⟨rfl, rfl⟩)
          go_ret
          exact ⟨ret_bool (hm.out.trans (HS.out.trans (by rw [HK.out, hfx]; rfl))).symm, by repeat' (first | exact Below.refl _ _ | assumption | refine Below.more ?_ ?_ _ | refine Below.alloc ?_ ?_ _ | refine Below.drew ?_ | refine below_drewN ?_ _ | refine Below.setCell ?_ ?_ _ | exact Below.size (by assumption) | (simp [go_sem, size_more]; done) | (simp [go_sem, size_more]; omega))⟩
        · cases hfy : fitB x.Y
          · go_wp2_with (go_at_call 35; refine (r6num_any _ _).mono ?_; rintro e w' ⟨rfl, rfl⟩)
            go_ret
            exact ⟨ret_bool (hm.out.trans (HS.out.trans (by rw [HK.out, hfx, hfy]; rfl))).symm, by repeat' (first | exact Below.refl _ _ | assumption | refine Below.more ?_ ?_ _ | refine Below.alloc ?_ ?_ _ | refine Below.drew ?_ | refine below_drewN ?_ _ | refine Below.setCell ?_ ?_ _ | exact Below.size (by assumption) | (simp [go_sem, size_more]; done) | (simp [go_sem, size_more]; omega))⟩
          · by_cases hX : x.X ≤ p.X
            · have qX : decide (x.X ≤ p.X) = true := decide_eq_true hX
              have HF : Hid (knB xs k = false) := by show _ = _; rw [HK.out, decide_eq_false (by omega)]; simp
              clear hX
              go_wp2_with (go_at_call 35; refine (r6num_any _ _).mono ?_; rintro e w' ⟨rfl, rfl⟩)
              have w1' : IntKind.i64.wrap ((k : Int) - 1) = (k : Int) - 1 := IntWalk.i64_in _ (by omega)
              have w2' : ((k : Int) - 1).toNat = k - 1 := by omega
              have w3' : 0 ≤ (k : Int) - 1 := by omega
              have w4' : (k : Int) - 1 < xs.length := by omega
              go_quiet (fail)
              clear w1' w2' w3' w4'
              go_wp2_with fail
              go_ret
              exact ⟨ret_bool (hm.out.trans (HS.out.trans (by rw [HF.out]; rfl))).symm, by repeat' (first | exact Below.refl _ _ | assumption | refine Below.more ?_ ?_ _ | refine Below.alloc ?_ ?_ _ | refine Below.drew ?_ | refine below_drewN ?_ _ | refine Below.setCell ?_ ?_ _ | exact Below.size (by assumption) | (simp [go_sem, size_more]; done) | (simp [go_sem, size_more]; omega))⟩
            · have qX : decide (x.X ≤ p.X) = false := decide_eq_false hX
              by_cases hY : x.Y < p.Y
              · have qY : decide (x.Y < p.Y) = true := decide_eq_true hY
                have HF : Hid (knB xs k = false) := by show _ = _; rw [HK.out, decide_eq_false (by omega)]; simp
                clear hX hY
                go_wp2_with (go_at_call 35; refine (r6num_any _ _).mono ?_; rintro e w' ⟨rfl, rfl⟩)
                have w1' : IntKind.i64.wrap ((k : Int) - 1) = (k : Int) - 1 := IntWalk.i64_in _ (by omega)
                have w2' : ((k : Int) - 1).toNat = k - 1 := by omega
                have w3' : 0 ≤ (k : Int) - 1 := by omega
                have w4' : (k : Int) - 1 < xs.length := by omega
                go_quiet (fail)
                clear w1' w2' w3' w4'
                go_wp2_with fail
                go_ret
                exact ⟨ret_bool (hm.out.trans (HS.out.trans (by rw [HF.out]; rfl))).symm, by repeat' (first | exact Below.refl _ _ | assumption | refine Below.more ?_ ?_ _ | refine Below.alloc ?_ ?_ _ | refine Below.drew ?_ | refine below_drewN ?_ _ | refine Below.setCell ?_ ?_ _ | exact Below.size (by assumption) | (simp [go_sem, size_more]; done) | (simp [go_sem, size_more]; omega))⟩
              · have qY : decide (x.Y < p.Y) = false := decide_eq_false hY
                have HF : Hid (knB xs k = true) := by show _ = _; rw [HK.out, hfx, hfy, decide_eq_true (by omega)]; simp
                clear hX hY
                go_wp2_with (go_at_call 35; refine (r6num_any _ _).mono ?_; rintro e w' ⟨rfl, rfl⟩)
                have w1' : IntKind.i64.wrap ((k : Int) - 1) = (k : Int) - 1 := IntWalk.i64_in _ (by omega)
                have w2' : ((k : Int) - 1).toNat = k - 1 := by omega
                have w3' : 0 ≤ (k : Int) - 1 := by omega
                have w4' : (k : Int) - 1 < xs.length := by omega
                go_quiet (fail)
                clear w1' w2' w3' w4'
                go_wp2_with fail
                go_roundw
                case rel => exact ⟨k + 1, by omega, by go_num, by repeat' (first | exact Below.refl _ _ | assumption | refine Below.more ?_ ?_ _ | refine Below.alloc ?_ ?_ _ | refine Below.drew ?_ | refine below_drewN ?_ _ | refine Below.setCell ?_ ?_ _ | exact Below.size (by assumption) | (simp [go_sem, size_more]; done) | (simp [go_sem, size_more]; omega)), hm.out.trans (HS.out.trans (by rw [HF.out]; rfl))⟩
                case measure => simp [intOf]; omega
    · go_wp2_with fail
      go_ret
      refine ⟨ret_bool ?_, hb⟩
      rw [hm.out, allFrom_end _ (by omega)]

set_option maxHeartbeats 2000000 in
theorem r26shape_any (xs : List Kn) (v : Value) (d : Int) (w : World) (hv : IsKns w v xs) :
    Calls Try.prog 41 #[v, .int .i64 d] w fun e w' => e = .returned (.bool (shapeB xs d)) ∧ Below w.heap.size w w' := by
  have hv0 := hv
  obtain ⟨a, cap, rfl, hcap, hbig, hs⟩ := hv
  cases ht : tabB xs
  · have HS := Lib.hid (shapeB_false (d := d) ht)
    have HT := Lib.hid ht
    clear ht
    go_enter Try.func41, Try.ntmps41
    go_wp2_with fail
    refine Calls.to (r6valid_any xs _ _ hv0) ?_
    rintro e w1 rfl hb
    rw [HT.out]
    go_wp2_with fail
    go_ret
    exact ⟨ret_bool HS.out.symm, hb⟩
  · have h1 := (tabB_len ht).1
    have HS := Lib.hid (shapeB_is (d := d) ht h1)
    have HT := Lib.hid ht
    clear ht
    go_enter Try.func41, Try.ntmps41
    go_wp2_with fail
    refine Calls.to (r6valid_any xs _ _ hv0) ?_
    rintro e w1 rfl hb
    rw [HT.out]
    have hs1 := hs.mono hb
    obtain ⟨b, off, rfl, c1, c2⟩ := hs1.kn 0 (by omega)
    obtain ⟨d1, d2⟩ := hs1.knAt (xs.length - 1) (by omega)
    rw [Nat.zero_mul, Nat.add_zero] at c1 c2
    clear hs hs1 hv0
    generalize xs[0] = x0 at *
    generalize xs[xs.length - 1] = xl at *
    by_cases q1 : x0.X = 0
    · have r1 := beqT q1
      have Q1 := Lib.hid q1
      clear q1
      by_cases q0 : x0.Y = 0
      · have r0 := beqT q0
        have Q0 := Lib.hid q0
        clear q0
        by_cases q2 : xl.X = d
        · have r2 := beqT q2
          have Q2 := Lib.hid q2
          clear q2
          by_cases q3 : xl.Y ≤ 1125899906842624
          · have r3 : decide (xl.Y ≤ 1125899906842624) = true := decide_eq_true q3
            go_wp2_with fail
            go_ret
            exact ⟨ret_bool (HS.out.trans (by simp [Q1.out, Q0.out, Q2.out, q3])).symm, by repeat' (first | exact Below.refl _ _ | assumption | refine Below.more ?_ ?_ _ | refine Below.alloc ?_ ?_ _ | refine Below.drew ?_ | refine below_drewN ?_ _ | refine Below.setCell ?_ ?_ _ | exact Below.size (by assumption) | (simp [go_sem, size_more]; done) | (simp [go_sem, size_more]; omega))⟩
          · have r3 : decide (xl.Y ≤ 1125899906842624) = false := decide_eq_false q3
            go_wp2_with fail
            go_ret
            exact ⟨ret_bool (HS.out.trans (by simp [Q1.out, Q0.out, Q2.out, q3])).symm, by repeat' (first | exact Below.refl _ _ | assumption | refine Below.more ?_ ?_ _ | refine Below.alloc ?_ ?_ _ | refine Below.drew ?_ | refine below_drewN ?_ _ | refine Below.setCell ?_ ?_ _ | exact Below.size (by assumption) | (simp [go_sem, size_more]; done) | (simp [go_sem, size_more]; omega))⟩
        · have r2 := beqF q2
          have Q2 := Lib.hid q2
          clear q2
          go_wp2_with fail
          go_ret
          exact ⟨ret_bool (HS.out.trans (by simp [Q1.out, Q0.out, Q2.out])).symm, by repeat' (first | exact Below.refl _ _ | assumption | refine Below.more ?_ ?_ _ | refine Below.alloc ?_ ?_ _ | refine Below.drew ?_ | refine below_drewN ?_ _ | refine Below.setCell ?_ ?_ _ | exact Below.size (by assumption) | (simp [go_sem, size_more]; done) | (simp [go_sem, size_more]; omega))⟩
      · have r0 := beqF q0
        have Q0 := Lib.hid q0
        clear q0
        go_wp2_with fail
        go_ret
        exact ⟨ret_bool (HS.out.trans (by simp [Q1.out, Q0.out])).symm, by repeat' (first | exact Below.refl _ _ | assumption | refine Below.more ?_ ?_ _ | refine Below.alloc ?_ ?_ _ | refine Below.drew ?_ | refine below_drewN ?_ _ | refine Below.setCell ?_ ?_ _ | exact Below.size (by assumption) | (simp [go_sem, size_more]; done) | (simp [go_sem, size_more]; omega))⟩
    · have r1 := beqF q1
      have Q1 := Lib.hid q1
      clear q1
      go_wp2_with fail
      go_ret
      exact ⟨ret_bool (HS.out.trans (by simp [Q1.out])).symm, by repeat' (first | exact Below.refl _ _ | assumption | refine Below.more ?_ ?_ _ | refine Below.alloc ?_ ?_ _ | refine Below.drew ?_ | refine below_drewN ?_ _ | refine Below.setCell ?_ ?_ _ | exact Below.size (by assumption) | (simp [go_sem, size_more]; done) | (simp [go_sem, size_more]; omega))⟩

theorem curveB_false {xs : List Kn} (h : tabB xs = false) : curveB xs = false := by simp [curveB, h]
theorem curveB_is {xs : List Kn} (h : tabB xs = true) (h1 : 1 ≤ xs.length) : curveB xs = (decide (0 ≤ (xs[0]'(by omega)).X) && decide ((xs[xs.length - 1]'(by omega)).X ≤ 4194304) && decide (0 ≤ (xs[0]'(by omega)).Y) && decide ((xs[xs.length - 1]'(by omega)).Y ≤ 1099511627776)) := by
  rw [curveB, h, Bool.true_and, Bool.eq_iff_iff, List.all_eq_true]
  simp only [Bool.and_eq_true, decide_eq_true_eq]
  constructor
  · intro hall
    have a := hall (xs[0]'(by omega)) (List.getElem_mem _)
    have b := hall (xs[xs.length - 1]'(by omega)) (List.getElem_mem _)
    omega
  · rintro ⟨⟨⟨a1, a2⟩, a3⟩, a4⟩ k hk
    obtain ⟨i, hi, rfl⟩ := List.mem_iff_getElem.1 hk
    have l1 := tabB_le h i 0 (by omega)
    have l2 := tabB_le h (xs.length - 1 - i) i (by omega)
    simp only [Nat.zero_add] at l1
    have e : i + (xs.length - 1 - i) = xs.length - 1 := by omega
    simp only [e] at l2
    omega

end Go.Proofs.Ytjgfgbiohbgcaaa

namespace Go.Proofs.Ytjgfgbiohbgcaaa
open Go.RowKit
set_option linter.unusedVariables false
set_option linter.unusedSimpArgs false

set_option maxHeartbeats 4000000 in
theorem r26RightNode_any (x : Nd) (w : World) (hg : gNd w x) : Calls Try.prog 16 #[vNd x] w fun e w' => e = .returned (.bool (ndB x)) ∧ Below w.heap.size w w' := by
  obtain ⟨nm, kd, ax, ay, iv, gr, ⟨sa, scap, sxs⟩, pr, rs⟩ := x
  have hn := hg.name
  have hsh : IsKns w (.slice sa sxs.length scap) sxs := hg.sh.isL
  clear hg
  simp only at hn
  simp only [vNd]
  cases h1 : nameB nm
  · have HS : Hid (ndB ⟨nm, kd, ax, ay, iv, gr, ⟨sa, scap, sxs⟩, pr, rs⟩ = false) := by show _ = _; simp [ndB, h1]
    go_enter Try.func16, Try.ntmps16
    go_wp2_with (first | (go_at_call 38; refine (r1isName_any _ _ hn).mono ?_; rintro e w' ⟨rfl, rfl⟩) | (go_at_call 39; refine (r26pos_any _ _).mono ?_; rintro e w' ⟨rfl, rfl⟩) | (go_at_call 40; refine (r26lev_any _ _).mono ?_; rintro e w' ⟨rfl, rfl⟩))
    go_ret
    exact ⟨ret_bool HS.out.symm, by repeat' (first | exact Below.refl _ _ | assumption | refine Below.more ?_ ?_ _ | refine Below.alloc ?_ ?_ _ | refine Below.drew ?_ | refine below_drewN ?_ _ | refine Below.setCell ?_ ?_ _ | exact Below.size (by assumption) | (simp [go_sem, size_more]; done) | (simp [go_sem, size_more]; omega))⟩
  cases h2 : posB ax
  · have HS : Hid (ndB ⟨nm, kd, ax, ay, iv, gr, ⟨sa, scap, sxs⟩, pr, rs⟩ = false) := by show _ = _; simp [ndB, h2]
    go_enter Try.func16, Try.ntmps16
    go_wp2_with (first | (go_at_call 38; refine (r1isName_any _ _ hn).mono ?_; rintro e w' ⟨rfl, rfl⟩) | (go_at_call 39; refine (r26pos_any _ _).mono ?_; rintro e w' ⟨rfl, rfl⟩) | (go_at_call 40; refine (r26lev_any _ _).mono ?_; rintro e w' ⟨rfl, rfl⟩))
    go_ret
    exact ⟨ret_bool HS.out.symm, by repeat' (first | exact Below.refl _ _ | assumption | refine Below.more ?_ ?_ _ | refine Below.alloc ?_ ?_ _ | refine Below.drew ?_ | refine below_drewN ?_ _ | refine Below.setCell ?_ ?_ _ | exact Below.size (by assumption) | (simp [go_sem, size_more]; done) | (simp [go_sem, size_more]; omega))⟩
  cases h3 : posB ay
  · have HS : Hid (ndB ⟨nm, kd, ax, ay, iv, gr, ⟨sa, scap, sxs⟩, pr, rs⟩ = false) := by show _ = _; simp [ndB, h3]
    go_enter Try.func16, Try.ntmps16
    go_wp2_with (first | (go_at_call 38; refine (r1isName_any _ _ hn).mono ?_; rintro e w' ⟨rfl, rfl⟩) | (go_at_call 39; refine (r26pos_any _ _).mono ?_; rintro e w' ⟨rfl, rfl⟩) | (go_at_call 40; refine (r26lev_any _ _).mono ?_; rintro e w' ⟨rfl, rfl⟩))
    go_ret
    exact ⟨ret_bool HS.out.symm, by repeat' (first | exact Below.refl _ _ | assumption | refine Below.more ?_ ?_ _ | refine Below.alloc ?_ ?_ _ | refine Below.drew ?_ | refine below_drewN ?_ _ | refine Below.setCell ?_ ?_ _ | exact Below.size (by assumption) | (simp [go_sem, size_more]; done) | (simp [go_sem, size_more]; omega))⟩
  cases h4 : lvlB iv
  · have HS : Hid (ndB ⟨nm, kd, ax, ay, iv, gr, ⟨sa, scap, sxs⟩, pr, rs⟩ = false) := by show _ = _; simp [ndB, h4]
    go_enter Try.func16, Try.ntmps16
    go_wp2_with (first | (go_at_call 38; refine (r1isName_any _ _ hn).mono ?_; rintro e w' ⟨rfl, rfl⟩) | (go_at_call 39; refine (r26pos_any _ _).mono ?_; rintro e w' ⟨rfl, rfl⟩) | (go_at_call 40; refine (r26lev_any _ _).mono ?_; rintro e w' ⟨rfl, rfl⟩))
    go_ret
    exact ⟨ret_bool HS.out.symm, by repeat' (first | exact Below.refl _ _ | assumption | refine Below.more ?_ ?_ _ | refine Below.alloc ?_ ?_ _ | refine Below.drew ?_ | refine below_drewN ?_ _ | refine Below.setCell ?_ ?_ _ | exact Below.size (by assumption) | (simp [go_sem, size_more]; done) | (simp [go_sem, size_more]; omega))⟩
  cases h5 : lvlB gr
  · have HS : Hid (ndB ⟨nm, kd, ax, ay, iv, gr, ⟨sa, scap, sxs⟩, pr, rs⟩ = false) := by show _ = _; simp [ndB, h5]
    go_enter Try.func16, Try.ntmps16
    go_wp2_with (first | (go_at_call 38; refine (r1isName_any _ _ hn).mono ?_; rintro e w' ⟨rfl, rfl⟩) | (go_at_call 39; refine (r26pos_any _ _).mono ?_; rintro e w' ⟨rfl, rfl⟩) | (go_at_call 40; refine (r26lev_any _ _).mono ?_; rintro e w' ⟨rfl, rfl⟩))
    go_ret
    exact ⟨ret_bool HS.out.symm, by repeat' (first | exact Below.refl _ _ | assumption | refine Below.more ?_ ?_ _ | refine Below.alloc ?_ ?_ _ | refine Below.drew ?_ | refine below_drewN ?_ _ | refine Below.setCell ?_ ?_ _ | exact Below.size (by assumption) | (simp [go_sem, size_more]; done) | (simp [go_sem, size_more]; omega))⟩
  have HS := Lib.hid (ndB_of (x := ⟨nm, kd, ax, ay, iv, gr, ⟨sa, scap, sxs⟩, pr, rs⟩) h1 h2 h3 h4 h5)
  have b4 : -4194304 ≤ iv ∧ iv ≤ 4194304 := by simpa [lvlB] using h4
  have b5 : -4194304 ≤ gr ∧ gr ≤ 4194304 := by simpa [lvlB] using h5
  by_cases k1 : kd = 1
  · subst k1
    by_cases g1 : gr ≤ iv
    · have q1 : decide (gr ≤ iv) = true := decide_eq_true g1
      have g2 : ¬ iv < gr := by omega
      have HK := Lib.hid (HS.out.trans (show kindNdB _ = false from by simp [kindNdB, g2]))
      go_enter Try.func16, Try.ntmps16
      go_wp2_with (first | (go_at_call 38; refine (r1isName_any _ _ hn).mono ?_; rintro e w' ⟨rfl, rfl⟩) | (go_at_call 39; refine (r26pos_any _ _).mono ?_; rintro e w' ⟨rfl, rfl⟩) | (go_at_call 40; refine (r26lev_any _ _).mono ?_; rintro e w' ⟨rfl, rfl⟩))
      go_ret
      exact ⟨ret_bool HK.out.symm, by repeat' (first | exact Below.refl _ _ | assumption | refine Below.more ?_ ?_ _ | refine Below.alloc ?_ ?_ _ | refine Below.drew ?_ | refine below_drewN ?_ _ | refine Below.setCell ?_ ?_ _ | exact Below.size (by assumption) | (simp [go_sem, size_more]; done) | (simp [go_sem, size_more]; omega))⟩
    have q1 : decide (gr ≤ iv) = false := decide_eq_false g1
    have g2 : iv < gr := by omega
    go_enter Try.func16, Try.ntmps16
    go_wp2_with (first | (go_at_call 38; refine (r1isName_any _ _ hn).mono ?_; rintro e w' ⟨rfl, rfl⟩) | (go_at_call 39; refine (r26pos_any _ _).mono ?_; rintro e w' ⟨rfl, rfl⟩) | (go_at_call 40; refine (r26lev_any _ _).mono ?_; rintro e w' ⟨rfl, rfl⟩))
    refine Calls.to (r26shape_any sxs _ (gr - iv) _ (hsh.mono ((Below.refl _ _).alloc (Nat.le_refl _) _))) ?_
    rintro e w2 rfl hb2
    have hbx2 : Below (w.heap.size + 1) (w.alloc (.cells #[.string nm, .int .i64 1, .int .i64 ax, .int .i64 ay, .int .i64 iv, .int .i64 gr, .slice sa sxs.length scap, .bool pr, .int .i64 rs] 42)) w2 := by simpa using hb2
    have hbw2 : Below w.heap.size w w2 := ((Below.refl _ _).alloc (Nat.le_refl _) _).trans (hbx2.mono (by omega))
    have hsh2 := hsh.mono hbw2
    obtain ⟨c0, c1, c2, c3, c4, c5, c6, c7, c8⟩ := boxNd w w2 42 ⟨nm, 1, ax, ay, iv, gr, ⟨sa, scap, sxs⟩, pr, rs⟩ _ rfl _ rfl hbx2
    simp only at c0 c1 c2 c3 c4 c5 c6 c7 c8
    clear hb2 hsh hbx2
    cases hS : shapeB sxs (gr - iv)
    · have HK := Lib.hid (HS.out.trans (show kindNdB _ = false from by simp [kindNdB, hS]))
      go_wp2_with fail
      go_ret
      exact ⟨ret_bool HK.out.symm, by repeat' (first | exact Below.refl _ _ | assumption | refine Below.more ?_ ?_ _ | refine Below.alloc ?_ ?_ _ | refine Below.drew ?_ | refine below_drewN ?_ _ | refine Below.setCell ?_ ?_ _ | exact Below.size (by assumption) | (simp [go_sem, size_more]; done) | (simp [go_sem, size_more]; omega))⟩
    have hS' := Lib.hid hS
    cases pr
    · by_cases r0 : rs = 0
      · have q3 := beqT r0
        have R0 := Lib.hid r0
        clear r0
        have HK := Lib.hid (HS.out.trans (show kindNdB _ = true from by simp [kindNdB, g2, hS, R0.out]))
        go_wp2_with fail
        go_ret
        exact ⟨ret_bool HK.out.symm, by repeat' (first | exact Below.refl _ _ | assumption | refine Below.more ?_ ?_ _ | refine Below.alloc ?_ ?_ _ | refine Below.drew ?_ | refine below_drewN ?_ _ | refine Below.setCell ?_ ?_ _ | exact Below.size (by assumption) | (simp [go_sem, size_more]; done) | (simp [go_sem, size_more]; omega))⟩
      · have q3 := beqF r0
        have R0 := Lib.hid r0
        clear r0
        have HK := Lib.hid (HS.out.trans (show kindNdB _ = false from by simp [kindNdB, g2, hS, R0.out]))
        go_wp2_with fail
        go_ret
        exact ⟨ret_bool HK.out.symm, by repeat' (first | exact Below.refl _ _ | assumption | refine Below.more ?_ ?_ _ | refine Below.alloc ?_ ?_ _ | refine Below.drew ?_ | refine below_drewN ?_ _ | refine Below.setCell ?_ ?_ _ | exact Below.size (by assumption) | (simp [go_sem, size_more]; done) | (simp [go_sem, size_more]; omega))⟩
    · have HK := Lib.hid (HS.out.trans (show kindNdB _ = false from by simp [kindNdB, g2, hS]))
      go_wp2_with fail
      go_quiet (fail)
      go_wp2_with fail
      go_ret
      exact ⟨ret_bool HK.out.symm, by repeat' (first | exact Below.refl _ _ | assumption | refine Below.more ?_ ?_ _ | refine Below.alloc ?_ ?_ _ | refine Below.drew ?_ | refine below_drewN ?_ _ | refine Below.setCell ?_ ?_ _ | exact Below.size (by assumption) | (simp [go_sem, size_more]; done) | (simp [go_sem, size_more]; omega))⟩
  by_cases k2 : kd = 2
  · subst k2
    by_cases g1 : gr ≤ iv
    · have q1 : decide (gr ≤ iv) = true := decide_eq_true g1
      have g2 : ¬ iv < gr := by omega
      have HK := Lib.hid (HS.out.trans (show kindNdB _ = false from by simp [kindNdB, g2]))
      go_enter Try.func16, Try.ntmps16
      go_wp2_with (first | (go_at_call 38; refine (r1isName_any _ _ hn).mono ?_; rintro e w' ⟨rfl, rfl⟩) | (go_at_call 39; refine (r26pos_any _ _).mono ?_; rintro e w' ⟨rfl, rfl⟩) | (go_at_call 40; refine (r26lev_any _ _).mono ?_; rintro e w' ⟨rfl, rfl⟩))
      go_ret
      exact ⟨ret_bool HK.out.symm, by repeat' (first | exact Below.refl _ _ | assumption | refine Below.more ?_ ?_ _ | refine Below.alloc ?_ ?_ _ | refine Below.drew ?_ | refine below_drewN ?_ _ | refine Below.setCell ?_ ?_ _ | exact Below.size (by assumption) | (simp [go_sem, size_more]; done) | (simp [go_sem, size_more]; omega))⟩
    have q1 : decide (gr ≤ iv) = false := decide_eq_false g1
    have g2 : iv < gr := by omega
    go_enter Try.func16, Try.ntmps16
    go_wp2_with (first | (go_at_call 38; refine (r1isName_any _ _ hn).mono ?_; rintro e w' ⟨rfl, rfl⟩) | (go_at_call 39; refine (r26pos_any _ _).mono ?_; rintro e w' ⟨rfl, rfl⟩) | (go_at_call 40; refine (r26lev_any _ _).mono ?_; rintro e w' ⟨rfl, rfl⟩))
    refine Calls.to (r26shape_any sxs _ (gr - iv) _ (hsh.mono ((Below.refl _ _).alloc (Nat.le_refl _) _))) ?_
    rintro e w2 rfl hb2
    have hbx2 : Below (w.heap.size + 1) (w.alloc (.cells #[.string nm, .int .i64 2, .int .i64 ax, .int .i64 ay, .int .i64 iv, .int .i64 gr, .slice sa sxs.length scap, .bool pr, .int .i64 rs] 42)) w2 := by simpa using hb2
    have hbw2 : Below w.heap.size w w2 := ((Below.refl _ _).alloc (Nat.le_refl _) _).trans (hbx2.mono (by omega))
    have hsh2 := hsh.mono hbw2
    obtain ⟨c0, c1, c2, c3, c4, c5, c6, c7, c8⟩ := boxNd w w2 42 ⟨nm, 2, ax, ay, iv, gr, ⟨sa, scap, sxs⟩, pr, rs⟩ _ rfl _ rfl hbx2
    simp only at c0 c1 c2 c3 c4 c5 c6 c7 c8
    clear hb2 hsh hbx2
    cases hS : shapeB sxs (gr - iv)
    · have HK := Lib.hid (HS.out.trans (show kindNdB _ = false from by simp [kindNdB, hS]))
      go_wp2_with fail
      go_ret
      exact ⟨ret_bool HK.out.symm, by repeat' (first | exact Below.refl _ _ | assumption | refine Below.more ?_ ?_ _ | refine Below.alloc ?_ ?_ _ | refine Below.drew ?_ | refine below_drewN ?_ _ | refine Below.setCell ?_ ?_ _ | exact Below.size (by assumption) | (simp [go_sem, size_more]; done) | (simp [go_sem, size_more]; omega))⟩
    have hS' := Lib.hid hS
    cases pr
    · by_cases r0 : rs = 0
      · have q3 := beqT r0
        have R0 := Lib.hid r0
        clear r0
        have HK := Lib.hid (HS.out.trans (show kindNdB _ = true from by simp [kindNdB, g2, hS, R0.out]))
        go_wp2_with fail
        go_ret
        exact ⟨ret_bool HK.out.symm, by repeat' (first | exact Below.refl _ _ | assumption | refine Below.more ?_ ?_ _ | refine Below.alloc ?_ ?_ _ | refine Below.drew ?_ | refine below_drewN ?_ _ | refine Below.setCell ?_ ?_ _ | exact Below.size (by assumption) | (simp [go_sem, size_more]; done) | (simp [go_sem, size_more]; omega))⟩
      · have q3 := beqF r0
        have R0 := Lib.hid r0
        clear r0
        have HK := Lib.hid (HS.out.trans (show kindNdB _ = false from by simp [kindNdB, g2, hS, R0.out]))
        go_wp2_with fail
        go_ret
        exact ⟨ret_bool HK.out.symm, by repeat' (first | exact Below.refl _ _ | assumption | refine Below.more ?_ ?_ _ | refine Below.alloc ?_ ?_ _ | refine Below.drew ?_ | refine below_drewN ?_ _ | refine Below.setCell ?_ ?_ _ | exact Below.size (by assumption) | (simp [go_sem, size_more]; done) | (simp [go_sem, size_more]; omega))⟩
    · obtain ⟨a0, cp, e0, hcap, hbig, hs2⟩ := hsh2
      simp only [Value.slice.injEq] at e0
      obtain ⟨rfl, _, rfl⟩ := e0
      have hlen := tabB_len (xs := sxs) (by simp only [shapeB, Bool.and_eq_true] at hS; exact hS.1.1.1)
      obtain ⟨b, off, rfl, d1, d2⟩ := hs2.kn (sxs.length - 1) (by omega)
      have HLK := Lib.hid (lastK_eq hlen.1)
      have HK0 := Lib.hid (HS.out.trans (show kindNdB _ = (decide (0 ≤ rs) && decide (rs ≤ (sxs[sxs.length - 1]'(by omega)).Y)) from by simp [kindNdB, g2, hS, HLK.out]))
      clear hs2 HLK
      generalize sxs[sxs.length - 1] = xl at *
      cases z1 : decide (0 ≤ rs) <;> cases z2 : decide (rs ≤ xl.Y)
      all_goals
        have HK := Lib.hid (HK0.out.trans (by rw [z1, z2]))
        go_wp2_with fail
        have w1' : IntKind.i64.wrap ((sxs.length : Int) - 1) = (sxs.length : Int) - 1 := IntWalk.i64_in _ (by omega)
        have w2' : ((sxs.length : Int) - 1).toNat = sxs.length - 1 := by omega
        have w3' : 0 ≤ (sxs.length : Int) - 1 := by omega
        have w4' : (sxs.length : Int) - 1 < sxs.length := by omega
        go_quiet (fail)
        clear w1' w2' w3' w4'
        go_wp2_with fail
        go_ret
        exact ⟨ret_bool HK.out.symm, by repeat' (first | exact Below.refl _ _ | assumption | refine Below.more ?_ ?_ _ | refine Below.alloc ?_ ?_ _ | refine Below.drew ?_ | refine below_drewN ?_ _ | refine Below.setCell ?_ ?_ _ | exact Below.size (by assumption) | (simp [go_sem, size_more]; done) | (simp [go_sem, size_more]; omega))⟩
  have n1 := beqF k1
  have n2 := beqF k2
  by_cases k3 : kd = 3
  · subst k3
    clear k1 k2
    by_cases g1 : iv ≤ gr
    · have q1 : decide (iv ≤ gr) = true := decide_eq_true g1
      by_cases l0 : sxs.length = 0
      · have q2 : ((sxs.length : Int) == 0) = true := beqT (by omega)
        have L0 := Lib.hid l0
        clear l0
        cases pr
        · by_cases r0 : rs = 0
          · have q3 := beqT r0
            have R0 := Lib.hid r0
            clear r0
            have HK := Lib.hid (HS.out.trans (show kindNdB _ = true from by simp [kindNdB, g1, L0.out, R0.out]))
            go_enter Try.func16, Try.ntmps16
            go_wp2_with (first | (go_at_call 38; refine (r1isName_any _ _ hn).mono ?_; rintro e w' ⟨rfl, rfl⟩) | (go_at_call 39; refine (r26pos_any _ _).mono ?_; rintro e w' ⟨rfl, rfl⟩) | (go_at_call 40; refine (r26lev_any _ _).mono ?_; rintro e w' ⟨rfl, rfl⟩))
            go_ret
            exact ⟨ret_bool HK.out.symm, by repeat' (first | exact Below.refl _ _ | assumption | refine Below.more ?_ ?_ _ | refine Below.alloc ?_ ?_ _ | refine Below.drew ?_ | refine below_drewN ?_ _ | refine Below.setCell ?_ ?_ _ | exact Below.size (by assumption) | (simp [go_sem, size_more]; done) | (simp [go_sem, size_more]; omega))⟩
          · have q3 := beqF r0
            have R0 := Lib.hid r0
            clear r0
            have HK := Lib.hid (HS.out.trans (show kindNdB _ = false from by simp [kindNdB, g1, L0.out, R0.out]))
            go_enter Try.func16, Try.ntmps16
            go_wp2_with (first | (go_at_call 38; refine (r1isName_any _ _ hn).mono ?_; rintro e w' ⟨rfl, rfl⟩) | (go_at_call 39; refine (r26pos_any _ _).mono ?_; rintro e w' ⟨rfl, rfl⟩) | (go_at_call 40; refine (r26lev_any _ _).mono ?_; rintro e w' ⟨rfl, rfl⟩))
            go_ret
            exact ⟨ret_bool HK.out.symm, by repeat' (first | exact Below.refl _ _ | assumption | refine Below.more ?_ ?_ _ | refine Below.alloc ?_ ?_ _ | refine Below.drew ?_ | refine below_drewN ?_ _ | refine Below.setCell ?_ ?_ _ | exact Below.size (by assumption) | (simp [go_sem, size_more]; done) | (simp [go_sem, size_more]; omega))⟩
        · have HK := Lib.hid (HS.out.trans (show kindNdB _ = false from by simp [kindNdB, g1, L0.out]))
          go_enter Try.func16, Try.ntmps16
          go_wp2_with (first | (go_at_call 38; refine (r1isName_any _ _ hn).mono ?_; rintro e w' ⟨rfl, rfl⟩) | (go_at_call 39; refine (r26pos_any _ _).mono ?_; rintro e w' ⟨rfl, rfl⟩) | (go_at_call 40; refine (r26lev_any _ _).mono ?_; rintro e w' ⟨rfl, rfl⟩))
          go_ret
          exact ⟨ret_bool HK.out.symm, by repeat' (first | exact Below.refl _ _ | assumption | refine Below.more ?_ ?_ _ | refine Below.alloc ?_ ?_ _ | refine Below.drew ?_ | refine below_drewN ?_ _ | refine Below.setCell ?_ ?_ _ | exact Below.size (by assumption) | (simp [go_sem, size_more]; done) | (simp [go_sem, size_more]; omega))⟩
      · have q2 : ((sxs.length : Int) == 0) = false := beqF (by omega)
        have L0 := Lib.hid l0
        clear l0
        have HK := Lib.hid (HS.out.trans (show kindNdB _ = false from by simp [kindNdB, g1, L0.out]))
        go_enter Try.func16, Try.ntmps16
        go_wp2_with (first | (go_at_call 38; refine (r1isName_any _ _ hn).mono ?_; rintro e w' ⟨rfl, rfl⟩) | (go_at_call 39; refine (r26pos_any _ _).mono ?_; rintro e w' ⟨rfl, rfl⟩) | (go_at_call 40; refine (r26lev_any _ _).mono ?_; rintro e w' ⟨rfl, rfl⟩))
        go_ret
        exact ⟨ret_bool HK.out.symm, by repeat' (first | exact Below.refl _ _ | assumption | refine Below.more ?_ ?_ _ | refine Below.alloc ?_ ?_ _ | refine Below.drew ?_ | refine below_drewN ?_ _ | refine Below.setCell ?_ ?_ _ | exact Below.size (by assumption) | (simp [go_sem, size_more]; done) | (simp [go_sem, size_more]; omega))⟩
    · have q1 : decide (iv ≤ gr) = false := decide_eq_false g1
      have g1' : gr < iv := by omega
      have HK := Lib.hid (HS.out.trans (show kindNdB _ = false from by simp [kindNdB, Int.not_le.2 g1']))
      go_enter Try.func16, Try.ntmps16
      go_wp2_with (first | (go_at_call 38; refine (r1isName_any _ _ hn).mono ?_; rintro e w' ⟨rfl, rfl⟩) | (go_at_call 39; refine (r26pos_any _ _).mono ?_; rintro e w' ⟨rfl, rfl⟩) | (go_at_call 40; refine (r26lev_any _ _).mono ?_; rintro e w' ⟨rfl, rfl⟩))
      go_ret
      exact ⟨ret_bool HK.out.symm, by repeat' (first | exact Below.refl _ _ | assumption | refine Below.more ?_ ?_ _ | refine Below.alloc ?_ ?_ _ | refine Below.drew ?_ | refine below_drewN ?_ _ | refine Below.setCell ?_ ?_ _ | exact Below.size (by assumption) | (simp [go_sem, size_more]; done) | (simp [go_sem, size_more]; omega))⟩
  · have n3 := beqF k3
    have K1 := Lib.hid k1
    have K2 := Lib.hid k2
    have K3 := Lib.hid k3
    clear k1 k2 k3
    have HK := Lib.hid (HS.out.trans (show kindNdB _ = false from by simp [kindNdB, K1.out, K2.out, K3.out]))
    go_enter Try.func16, Try.ntmps16
    go_wp2_with (first | (go_at_call 38; refine (r1isName_any _ _ hn).mono ?_; rintro e w' ⟨rfl, rfl⟩) | (go_at_call 39; refine (r26pos_any _ _).mono ?_; rintro e w' ⟨rfl, rfl⟩) | (go_at_call 40; refine (r26lev_any _ _).mono ?_; rintro e w' ⟨rfl, rfl⟩))
    go_ret
    exact ⟨ret_bool HK.out.symm, by repeat' (first | exact Below.refl _ _ | assumption | refine Below.more ?_ ?_ _ | refine Below.alloc ?_ ?_ _ | refine Below.drew ?_ | refine below_drewN ?_ _ | refine Below.setCell ?_ ?_ _ | exact Below.size (by assumption) | (simp [go_sem, size_more]; done) | (simp [go_sem, size_more]; omega))⟩

end Go.Proofs.Ytjgfgbiohbgcaaa

namespace Go.Proofs.Ytjgfgbiohbgcaaa
open Go.RowKit
set_option linter.unusedVariables false
set_option linter.unusedSimpArgs false

section
variable (nm fr tt : ByteArray) (ln up dn : Int) (sc : ByteArray) (wi he : Int) (ca : Option Addr) (cc : Nat) (cx : List Kn)
theorem kindLk_1 : kindLkB ⟨nm, fr, tt, 1, ln, up, dn, sc, wi, he, ⟨ca, cc, cx⟩⟩ = (btwB ln 1 16777216 && lvlB dn && nameB sc && decide (wi = 0) && decide (he = 0) && decide (cx.length = 0)) := by
  simp [kindLkB, btwB]
theorem kindLk_2 : kindLkB ⟨nm, fr, tt, 2, ln, up, dn, sc, wi, he, ⟨ca, cc, cx⟩⟩ = (decide (ln = 0) && decide (dn = 0) && emptyB sc && btwB wi 1 1048576 && decide (he = 0) && decide (cx.length = 0)) := by
  simp [kindLkB, btwB]
theorem kindLk_3 : kindLkB ⟨nm, fr, tt, 3, ln, up, dn, sc, wi, he, ⟨ca, cc, cx⟩⟩ = (decide (ln = 0) && decide (dn = 0) && emptyB sc && btwB wi 1 32768 && btwB he 1 32768 && decide (cx.length = 0)) := by
  simp [kindLkB, btwB]
theorem kindLk_4 : kindLkB ⟨nm, fr, tt, 4, ln, up, dn, sc, wi, he, ⟨ca, cc, cx⟩⟩ = (decide (ln = 0) && lvlB dn && decide (dn < up) && emptyB sc && decide (wi = 0) && decide (he = 0) && curveB cx) := by
  simp [kindLkB]
theorem kindLk_lvl {kd : Int} (h : lvlB dn = false) : kindLkB ⟨nm, fr, tt, kd, ln, up, dn, sc, wi, he, ⟨ca, cc, cx⟩⟩ = false := by
  have h0 : ¬ dn = 0 := by rintro rfl; simp [lvlB] at h
  unfold kindLkB
  simp only [h, h0]
  simp
end
theorem lkB_of {l : Lk} (h1 : nameB l.Name = true) (h2 : nameB l.From = true) (h3 : nameB l.To = true) (h4 : strB l.From l.To = false) (h5 : lvlB l.Up = true) : lkB l = kindLkB l := by simp [lkB, h1, h2, h3, h4, h5]

end Go.Proofs.Ytjgfgbiohbgcaaa

namespace Go.Proofs.Ytjgfgbiohbgcaaa
open Go.RowKit
set_option linter.unusedVariables false
set_option linter.unusedSimpArgs false

theorem rn_lit {x : Nd} {b : Bool} (h : ndB x = b) (w : World) (hg : gNd w x) : Calls Try.prog 16 #[vNd x] w fun e w' => e = .returned (.bool b) ∧ Below w.heap.size w w' := by
  rw [← h]; exact r26RightNode_any x w hg

end Go.Proofs.Ytjgfgbiohbgcaaa
