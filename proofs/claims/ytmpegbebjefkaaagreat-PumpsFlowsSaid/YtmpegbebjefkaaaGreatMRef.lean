/- Nodes that are right, the reference's side. Conditions: the node reads as data. | RightNode of the reference. Conditions: the node reads as data. | RightLink of the reference. Conditions: the link reads as data. | Valid of networks, the reference's side. Conditions: the network reads as data. -/
import Derived.Test.YtmpegbebjefkaaaGreatNn
import Derived.Test.YtmpegbebjefkaaaGreatNo
import Derived.Test.YtmpegbebjefkaaaGreatNu
import Derived.Test.YtmpegbebjefkaaaGreatMLnk
namespace Go.Proofs.YtmpegbebjefkaaaGreat
open Go.RowKit
set_option linter.unusedVariables false
set_option linter.unusedSimpArgs false

theorem r26lev_any (n : Int) (w : World) : Calls Tryz.prog 29 #[.int .i64 n] w fun e w' => e = .returned (.bool (lvlB n)) ∧ w' = w := by
  by_cases h1 : -4194304 ≤ n <;> by_cases h2 : n ≤ 4194304
  all_goals
    go_enter Tryz.func29, Tryz.ntmps29
    go_wp2_with fail
    go_ret
    exact ⟨ret_bool (by simp [lvlB, h1, h2]), rfl⟩
theorem r26within_any (n m : Int) (w : World) : Calls Tryz.prog 30 #[.int .i64 n, .int .i64 m] w fun e w' => e = .returned (.bool (btwB n 1 m)) ∧ w' = w := by
  by_cases h1 : 1 ≤ n <;> by_cases h2 : n ≤ m
  all_goals
    go_enter Tryz.func30, Tryz.ntmps30
    go_wp2_with fail
    go_ret
    exact ⟨ret_bool (by simp [btwB, h1, h2]), rfl⟩

set_option maxHeartbeats 4000000 in
theorem r6valid_any (xs : List Kn) (v : Value) (w : World) (hv : IsKns w v xs) : Calls Tryz.prog 44 #[v] w fun e w' => e = .returned (.bool (tabB xs)) ∧ Below w.heap.size w w' := by
  obtain ⟨a, cap, rfl, hcap, hbig, hs⟩ := hv
  by_cases h1 : xs.length < 1
  · have q1 : decide ((xs.length : Int) < 1) = true := decide_eq_true (by omega)
    have HN : Hid (tabB xs = false) := by show _ = _; simp [tabB]; omega
    go_enter Tryz.func44, Tryz.ntmps44
    go_wp2_with fail
    go_ret
    exact ⟨ret_bool HN.out.symm, Below.refl _ _⟩
  have q1 : decide ((xs.length : Int) < 1) = false := decide_eq_false (by omega)
  by_cases h2 : 100 < xs.length
  · have q2 : decide ((100 : Int) < (xs.length : Int)) = true := decide_eq_true (by omega)
    have HN : Hid (tabB xs = false) := by show _ = _; simp [tabB]; omega
    go_enter Tryz.func44, Tryz.ntmps44
    go_wp2_with fail
    go_ret
    exact ⟨ret_bool HN.out.symm, Below.refl _ _⟩
  have q2 : decide ((100 : Int) < (xs.length : Int)) = false := decide_eq_false (by omega)
  have HT : Hid (tabB xs = allFrom (knB xs) 0 xs.length) := by
    show _ = _
    have : 1 ≤ xs.length ∧ xs.length ≤ 100 := by omega
    simp [tabB, this]
  go_enter Tryz.func44, Tryz.ntmps44
  go_wp2_with fail
  go_loopw [3] (fun s3 wr => ∃ k : Nat, k ≤ xs.length ∧ s3 = .int .i64 k ∧ Below w.heap.size w wr ∧ Hid (tabB xs = allFrom (knB xs) k xs.length)) (fun i _ => xs.length - (intOf i).toNat)
  case atStart => exact ⟨0, Nat.zero_le _, rfl, Below.refl _ _, HT⟩
  case round =>
    obtain ⟨k, hk, rfl, hb, hm⟩ := hrel
    by_cases hlt : k < xs.length
    · obtain ⟨b, off, rfl, c1, c2⟩ := (hs.mono hb).kn k hlt
      have HS := Lib.hid (allFrom_step (knB xs) hlt)
      have hblt := World.block_lt_of_cell? _ _ c1
      by_cases h0 : k = 0
      · have HK : Hid (knB xs k = (fitB xs[k].X && fitB xs[k].Y)) := by show _ = _; subst h0; exact knB_0 hlt rfl
        have q0 : decide (0 < k) = false := decide_eq_false (by omega)
        have q0' : decide ((0 : Int) < (k : Int)) = false := decide_eq_false (by omega)
        have H0 := Lib.hid h0
        clear hs h0
        generalize xs[k] = x at *
        cases hfx : fitB x.X
        · go_wp2_with (go_at_call 69; refine (r6num_any _ _).mono ?_; rintro e w' ⟨rfl, rfl⟩)
          go_ret
          exact ⟨ret_bool (hm.out.trans (HS.out.trans (by rw [HK.out, hfx]; rfl))).symm, by repeat' (first | exact Below.refl _ _ | assumption | refine Below.more ?_ ?_ _ | refine Below.alloc ?_ ?_ _ | refine Below.drew ?_ | refine below_drewN ?_ _ | refine Below.setCell ?_ ?_ _ | exact Below.size (by assumption) | (simp [go_sem, size_more]; done) | (simp [go_sem, size_more]; omega))⟩
        · cases hfy : fitB x.Y
          · go_wp2_with (go_at_call 69; refine (r6num_any _ _).mono ?_; rintro e w' ⟨rfl, rfl⟩)
            go_ret
            exact ⟨ret_bool (hm.out.trans (HS.out.trans (by rw [HK.out, hfx, hfy]; rfl))).symm, by repeat' (first | exact Below.refl _ _ | assumption | refine Below.more ?_ ?_ _ | refine Below.alloc ?_ ?_ _ | refine Below.drew ?_ | refine below_drewN ?_ _ | refine Below.setCell ?_ ?_ _ | exact Below.size (by assumption) | (simp [go_sem, size_more]; done) | (simp [go_sem, size_more]; omega))⟩
          · go_wp2_with (go_at_call 69; refine (r6num_any _ _).mono ?_; rintro e w' ⟨rfl, rfl⟩)
            go_quiet (fail)
            go_wp2_with fail
            go_roundw
            case rel => exact ⟨k + 1, by omega, by go_num, by repeat' (first | exact Below.refl _ _ | assumption | refine Below.more ?_ ?_ _ | refine Below.alloc ?_ ?_ _ | refine Below.drew ?_ | refine below_drewN ?_ _ | refine Below.setCell ?_ ?_ _ | exact Below.size (by assumption) | (simp [go_sem, size_more]; done) | (simp [go_sem, size_more]; omega)), hm.out.trans (HS.out.trans (by rw [HK.out, hfx, hfy]; rfl))⟩
            case measure => simp [intOf]; omega
      · have h0' : 0 < k := by omega
        obtain ⟨d1, d2⟩ := (hs.mono hb).knAt (k - 1) (by omega)
        have HK : Hid (knB xs k = (fitB xs[k].X && fitB xs[k].Y && decide ((xs[k - 1]'(by omega)).X < xs[k].X ∧ (xs[k - 1]'(by omega)).Y ≤ xs[k].Y))) := knB_pos hlt h0' rfl rfl
        have q0 : decide (0 < k) = true := decide_eq_true (by omega)
        have q0' : decide ((0 : Int) < (k : Int)) = true := decide_eq_true (by omega)
        clear hs h0
        have hp1 : k - 1 < xs.length := by omega
        generalize xs[k - 1] = p at *
        generalize xs[k] = x at *
        cases hfx : fitB x.X
        · go_wp2_with (go_at_call 69; refine (r6num_any _ _).mono ?_; rintro e w' ⟨rfl, rfl⟩)
          go_ret
          exact ⟨ret_bool (hm.out.trans (HS.out.trans (by rw [HK.out, hfx]; rfl))).symm, by repeat' (first | exact Below.refl _ _ | assumption | refine Below.more ?_ ?_ _ | refine Below.alloc ?_ ?_ _ | refine Below.drew ?_ | refine below_drewN ?_ _ | refine Below.setCell ?_ ?_ _ | exact Below.size (by assumption) | (simp [go_sem, size_more]; done) | (simp [go_sem, size_more]; omega))⟩
        · cases hfy : fitB x.Y
          · go_wp2_with (go_at_call 69; refine (r6num_any _ _).mono ?_; rintro e w' ⟨rfl, rfl⟩)
            go_ret
            exact ⟨ret_bool (hm.out.trans (HS.out.trans (by rw [HK.out, hfx, hfy]; rfl))).symm, by repeat' (first | exact Below.refl _ _ | assumption | refine Below.more ?_ ?_ _ | refine Below.alloc ?_ ?_ _ | refine Below.drew ?_ | refine below_drewN ?_ _ | refine Below.setCell ?_ ?_ _ | exact Below.size (by assumption) | (simp [go_sem, size_more]; done) | (simp [go_sem, size_more]; omega))⟩
          · by_cases hX : x.X ≤ p.X
            · have qX : decide (x.X ≤ p.X) = true := decide_eq_true hX
              have HF : Hid (knB xs k = false) := by show _ = _; rw [HK.out, decide_eq_false (by omega)]; simp
              clear hX
              go_wp2_with (go_at_call 69; refine (r6num_any _ _).mono ?_; rintro e w' ⟨rfl, rfl⟩)
              have w1' : IntKind.i64.wrap ((k : Int) - 1) = (k : Int) - 1 := IntWalk.i64_in _ (by omega)
              have w2' : ((k : Int) - 1).toNat = k - 1 := by omega
              have w3' : 0 ≤ (k : Int) - 1 := by omega
              have w4' : (k : Int) - 1 < xs.length := by omega
              go_quiet (fail)
              clear w1' w2' w3' w4'
              go_wp2_with fail
              go_ret
              exact ⟨ret_bool (hm.out.trans (HS.out.trans (by rw [HF.out]; rfl))).symm, by repeat' (first | exact Below.refl _ _ | assumption | refine Below.more ?_ ?_ _ | refine Below.alloc ?_ ?_ _ | refine Below.drew ?_ | refine below_drewN ?_ _ | refine Below.setCell ?_ ?_ _ | exact Below.size (by assumption) | (simp [go_sem, size_more]; done) | (simp [go_sem, size_more]; omega))⟩
            · have qX : decide (x.X ≤ p.X) = false := decide_eq_false hX
              by_cases hY : x.Y < p.Y
              · have qY : decide (x.Y < p.Y) = true := decide_eq_true hY
                have HF : Hid (knB xs k = false) := by show _ = _; rw [HK.out, decide_eq_false (by omega)]; simp
                clear hX hY
                go_wp2_with (go_at_call 69; refine (r6num_any _ _).mono ?_; rintro e w' ⟨rfl, rfl⟩)
                have w1' : IntKind.i64.wrap ((k : Int) - 1) = (k : Int) - 1 := IntWalk.i64_in _ (by omega)
                have w2' : ((k : Int) - 1).toNat = k - 1 := by omega
                have w3' : 0 ≤ (k : Int) - 1 := by omega
                have w4' : (k : Int) - 1 < xs.length := by omega
                go_quiet (fail)
                clear w1' w2' w3' w4'
                go_wp2_with fail
                go_ret
                exact ⟨ret_bool (hm.out.trans (HS.out.trans (by rw [HF.out]; rfl))).symm, by repeat' (first | exact Below.refl _ _ | assumption | refine Below.more ?_ ?_ _ | refine Below.alloc ?_ ?_ _ | refine Below.drew ?_ | refine below_drewN ?_ _ | refine Below.setCell ?_ ?_ _ | exact Below.size (by assumption) | (simp [go_sem, size_more]; done) | (simp [go_sem, size_more]; omega))⟩
              · have qY : decide (x.Y < p.Y) = false := decide_eq_false hY
                have HF : Hid (knB xs k = true) := by show _ = _; rw [HK.out, hfx, hfy, decide_eq_true (by omega)]; simp
                clear hX hY
                go_wp2_with (go_at_call 69; refine (r6num_any _ _).mono ?_; rintro e w' ⟨rfl, rfl⟩)
                have w1' : IntKind.i64.wrap ((k : Int) - 1) = (k : Int) - 1 := IntWalk.i64_in _ (by omega)
                have w2' : ((k : Int) - 1).toNat = k - 1 := by omega
                have w3' : 0 ≤ (k : Int) - 1 := by omega
                have w4' : (k : Int) - 1 < xs.length := by omega
                go_quiet (fail)
                clear w1' w2' w3' w4'
                go_wp2_with fail
                go_roundw
                case rel => exact ⟨k + 1, by omega, by go_num, by repeat' (first | exact Below.refl _ _ | assumption | refine Below.more ?_ ?_ _ | refine Below.alloc ?_ ?_ _ | refine Below.drew ?_ | refine below_drewN ?_ _ | refine Below.setCell ?_ ?_ _ | exact Below.size (by assumption) | (simp [go_sem, size_more]; done) | (simp [go_sem, size_more]; omega)), hm.out.trans (HS.out.trans (by rw [HF.out]; rfl))⟩
                case measure => simp [intOf]; omega
    · go_wp2_with fail
      go_ret
      refine ⟨ret_bool ?_, hb⟩
      rw [hm.out, allFrom_end _ (by omega)]

theorem curveB_false {xs : List Kn} (h : tabB xs = false) : curveB xs = false := by simp [curveB, h]
theorem curveB_is {xs : List Kn} (h : tabB xs = true) (h1 : 1 ≤ xs.length) : curveB xs = (decide (0 ≤ (xs[0]'(by omega)).X) && decide ((xs[xs.length - 1]'(by omega)).X ≤ 4194304) && decide (0 ≤ (xs[0]'(by omega)).Y) && decide ((xs[xs.length - 1]'(by omega)).Y ≤ 1099511627776)) := by
  rw [curveB, h, Bool.true_and, Bool.eq_iff_iff, List.all_eq_true]
  simp only [Bool.and_eq_true, decide_eq_true_eq]
  constructor
  · intro hall
    have a := hall (xs[0]'(by omega)) (List.getElem_mem _)
    have b := hall (xs[xs.length - 1]'(by omega)) (List.getElem_mem _)
    omega
  · rintro ⟨⟨⟨a1, a2⟩, a3⟩, a4⟩ k hk
    obtain ⟨i, hi, rfl⟩ := List.mem_iff_getElem.1 hk
    have l1 := tabB_le h i 0 (by omega)
    have l2 := tabB_le h (xs.length - 1 - i) i (by omega)
    simp only [Nat.zero_add] at l1
    have e : i + (xs.length - 1 - i) = xs.length - 1 := by omega
    simp only [e] at l2
    omega

set_option maxHeartbeats 2000000 in
theorem r26curve_any (xs : List Kn) (v : Value) (w : World) (hv : IsKns w v xs) :
    Calls Tryz.prog 31 #[v] w fun e w' => e = .returned (.bool (curveB xs)) ∧ Below w.heap.size w w' := by
  have hv0 := hv
  obtain ⟨a, cap, rfl, hcap, hbig, hs⟩ := hv
  cases ht : tabB xs
  · have HS := Lib.hid (curveB_false ht)
    have HT := Lib.hid ht
    clear ht
    go_enter Tryz.func31, Tryz.ntmps31
    go_wp2_with fail
    refine Calls.to (r6valid_any xs _ _ hv0) ?_
    rintro e w1 rfl hb
    rw [HT.out]
    go_wp2_with fail
    go_ret
    exact ⟨ret_bool HS.out.symm, hb⟩
  · have h1 := (tabB_len ht).1
    have HS := Lib.hid (curveB_is ht h1)
    have HT := Lib.hid ht
    clear ht
    go_enter Tryz.func31, Tryz.ntmps31
    go_wp2_with fail
    refine Calls.to (r6valid_any xs _ _ hv0) ?_
    rintro e w1 rfl hb
    rw [HT.out]
    have hs1 := hs.mono hb
    obtain ⟨b, off, rfl, c1, c2⟩ := hs1.kn 0 (by omega)
    obtain ⟨d1, d2⟩ := hs1.knAt (xs.length - 1) (by omega)
    rw [Nat.zero_mul, Nat.add_zero] at c1 c2
    clear hs hs1 hv0
    generalize xs[0] = x0 at *
    generalize xs[xs.length - 1] = xl at *
    by_cases q1 : 0 ≤ x0.X
    · have r1 : decide (0 ≤ x0.X) = true := decide_eq_true q1
      by_cases q2 : xl.X ≤ 4194304
      · have r2 : decide (xl.X ≤ 4194304) = true := decide_eq_true q2
        by_cases q3 : 0 ≤ x0.Y
        · have r3 : decide (0 ≤ x0.Y) = true := decide_eq_true q3
          by_cases q4 : xl.Y ≤ 1099511627776
          · have r4 : decide (xl.Y ≤ 1099511627776) = true := decide_eq_true q4
            have HK : Hid (curveB xs = true) := by show _ = _; rw [HS.out]; simp [q1, q2, q3, q4]
            go_wp2_with fail
            go_ret
            exact ⟨ret_bool HK.out.symm, by repeat' (first | exact Below.refl _ _ | assumption | refine Below.more ?_ ?_ _ | refine Below.alloc ?_ ?_ _ | refine Below.drew ?_ | refine below_drewN ?_ _ | refine Below.setCell ?_ ?_ _ | exact Below.size (by assumption) | (simp [go_sem, size_more]; done) | (simp [go_sem, size_more]; omega))⟩
          · have r4 : decide (xl.Y ≤ 1099511627776) = false := decide_eq_false q4
            have HK : Hid (curveB xs = false) := by show _ = _; rw [HS.out]; simp [q1, q2, q3, q4]
            go_wp2_with fail
            go_ret
            exact ⟨ret_bool HK.out.symm, by repeat' (first | exact Below.refl _ _ | assumption | refine Below.more ?_ ?_ _ | refine Below.alloc ?_ ?_ _ | refine Below.drew ?_ | refine below_drewN ?_ _ | refine Below.setCell ?_ ?_ _ | exact Below.size (by assumption) | (simp [go_sem, size_more]; done) | (simp [go_sem, size_more]; omega))⟩
        · have r3 : decide (0 ≤ x0.Y) = false := decide_eq_false q3
          have HK : Hid (curveB xs = false) := by show _ = _; rw [HS.out]; simp [q1, q2, q3]
          go_wp2_with fail
          go_ret
          exact ⟨ret_bool HK.out.symm, by repeat' (first | exact Below.refl _ _ | assumption | refine Below.more ?_ ?_ _ | refine Below.alloc ?_ ?_ _ | refine Below.drew ?_ | refine below_drewN ?_ _ | refine Below.setCell ?_ ?_ _ | exact Below.size (by assumption) | (simp [go_sem, size_more]; done) | (simp [go_sem, size_more]; omega))⟩
      · have r2 : decide (xl.X ≤ 4194304) = false := decide_eq_false q2
        have HK : Hid (curveB xs = false) := by show _ = _; rw [HS.out]; simp [q1, q2]
        go_wp2_with fail
        go_ret
        exact ⟨ret_bool HK.out.symm, by repeat' (first | exact Below.refl _ _ | assumption | refine Below.more ?_ ?_ _ | refine Below.alloc ?_ ?_ _ | refine Below.drew ?_ | refine below_drewN ?_ _ | refine Below.setCell ?_ ?_ _ | exact Below.size (by assumption) | (simp [go_sem, size_more]; done) | (simp [go_sem, size_more]; omega))⟩
    · have r1 : decide (0 ≤ x0.X) = false := decide_eq_false q1
      have HK : Hid (curveB xs = false) := by show _ = _; rw [HS.out]; simp [q1]
      go_wp2_with fail
      go_ret
      exact ⟨ret_bool HK.out.symm, by repeat' (first | exact Below.refl _ _ | assumption | refine Below.more ?_ ?_ _ | refine Below.alloc ?_ ?_ _ | refine Below.drew ?_ | refine below_drewN ?_ _ | refine Below.setCell ?_ ?_ _ | exact Below.size (by assumption) | (simp [go_sem, size_more]; done) | (simp [go_sem, size_more]; omega))⟩

end Go.Proofs.YtmpegbebjefkaaaGreat

namespace Go.Proofs.YtmpegbebjefkaaaGreat
open Go.RowKit
set_option linter.unusedVariables false
set_option linter.unusedSimpArgs false

end Go.Proofs.YtmpegbebjefkaaaGreat

namespace Go.Proofs.YtmpegbebjefkaaaGreat
open Go.RowKit
set_option linter.unusedVariables false
set_option linter.unusedSimpArgs false

section
variable (nm fr tt : ByteArray) (ln up dn : Int) (sc : ByteArray) (wi he : Int) (ca : Option Addr) (cc : Nat) (cx : List Kn)
theorem kindLk_1 : kindLkB ⟨nm, fr, tt, 1, ln, up, dn, sc, wi, he, ⟨ca, cc, cx⟩⟩ = (btwB ln 1 16777216 && lvlB dn && nameB sc && decide (wi = 0) && decide (he = 0) && decide (cx.length = 0)) := by
  simp [kindLkB, btwB]
theorem kindLk_2 : kindLkB ⟨nm, fr, tt, 2, ln, up, dn, sc, wi, he, ⟨ca, cc, cx⟩⟩ = (decide (ln = 0) && decide (dn = 0) && emptyB sc && btwB wi 1 1048576 && decide (he = 0) && decide (cx.length = 0)) := by
  simp [kindLkB, btwB]
theorem kindLk_3 : kindLkB ⟨nm, fr, tt, 3, ln, up, dn, sc, wi, he, ⟨ca, cc, cx⟩⟩ = (decide (ln = 0) && decide (dn = 0) && emptyB sc && btwB wi 1 32768 && btwB he 1 32768 && decide (cx.length = 0)) := by
  simp [kindLkB, btwB]
theorem kindLk_4 : kindLkB ⟨nm, fr, tt, 4, ln, up, dn, sc, wi, he, ⟨ca, cc, cx⟩⟩ = (decide (ln = 0) && lvlB dn && decide (dn < up) && emptyB sc && decide (wi = 0) && decide (he = 0) && curveB cx) := by
  simp [kindLkB]
theorem kindLk_lvl {kd : Int} (h : lvlB dn = false) : kindLkB ⟨nm, fr, tt, kd, ln, up, dn, sc, wi, he, ⟨ca, cc, cx⟩⟩ = false := by
  have h0 : ¬ dn = 0 := by rintro rfl; simp [lvlB] at h
  unfold kindLkB
  simp only [h, h0]
  simp
end
theorem lkB_of {l : Lk} (h1 : nameB l.Name = true) (h2 : nameB l.From = true) (h3 : nameB l.To = true) (h4 : strB l.From l.To = false) (h5 : lvlB l.Up = true) : lkB l = kindLkB l := by simp [lkB, h1, h2, h3, h4, h5]

set_option maxHeartbeats 8000000 in
theorem r26RightLink_1 (nm fr tt : ByteArray) (ln up dn : Int) (sc : ByteArray) (wi he : Int) (ca : Option Addr) (cc : Nat) (cx : List Kn) (w : World) (hn : nm.size ≤ maxLen) (hf : fr.size ≤ maxLen) (ht : tt.size ≤ maxLen) (hs : sc.size ≤ maxLen) (hcu : IsKns w (.slice ca cx.length cc) cx) (h1 : nameB nm = true) (h2 : nameB fr = true) (h3 : nameB tt = true) (h4 : strB fr tt = false) (h5 : lvlB up = true) (h6 : lvlB dn = true) :
    Calls Tryz.prog 23 #[vLk ⟨nm, fr, tt, 1, ln, up, dn, sc, wi, he, ⟨ca, cc, cx⟩⟩] w fun e w' => e = .returned (.bool (lkB ⟨nm, fr, tt, 1, ln, up, dn, sc, wi, he, ⟨ca, cc, cx⟩⟩)) ∧ Below w.heap.size w w' := by
  have HS := Lib.hid (lkB_of (l := ⟨nm, fr, tt, 1, ln, up, dn, sc, wi, he, ⟨ca, cc, cx⟩⟩) h1 h2 h3 h4 h5)
  have h4' : (fr.toList == tt.toList) = false := h4
  have H6 := Lib.hid h6
  simp only [vLk, vSl]
  go_enter Tryz.func23, Tryz.ntmps23
  go_upto_region 3 with (first | (go_at_call 28; refine (r1isName_any _ _ (by first | exact hn | exact hf | exact ht | exact hs)).mono ?_; rintro e w' ⟨rfl, rfl⟩) | (go_at_call 29; refine (r26lev_any _ _).mono ?_; rintro e w' ⟨rfl, rfl⟩))
  cases t1 : btwB ln 1 16777216
  · have T1 := Lib.hid t1
    have HK := Lib.hid (HS.out.trans ((kindLk_1 _ _ _ _ _ _ _ _ _ _ _ _).trans (by simp [H6.out, T1.out] : _ = false)))
    go_wp2_with (first | (go_at_call 28; refine (r1isName_any _ _ (by first | exact hn | exact hf | exact ht | exact hs)).mono ?_; rintro e w' ⟨rfl, rfl⟩) | (go_at_call 29; refine (r26lev_any _ _).mono ?_; rintro e w' ⟨rfl, rfl⟩) | (go_at_call 30; refine (r26within_any _ _ _).mono ?_; rintro e w' ⟨rfl, rfl⟩))
    go_ret
    exact ⟨ret_bool HK.out.symm, by repeat' (first | exact Below.refl _ _ | assumption | refine Below.more ?_ ?_ _ | refine Below.alloc ?_ ?_ _ | refine Below.drew ?_ | refine below_drewN ?_ _ | refine Below.setCell ?_ ?_ _ | exact Below.size (by assumption) | (simp [go_sem, size_more]; done) | (simp [go_sem, size_more]; omega))⟩
  have T1 := Lib.hid t1
  cases t2 : nameB sc
  · have T2 := Lib.hid t2
    have HK := Lib.hid (HS.out.trans ((kindLk_1 _ _ _ _ _ _ _ _ _ _ _ _).trans (by simp [H6.out, T1.out, T2.out] : _ = false)))
    go_wp2_with (first | (go_at_call 28; refine (r1isName_any _ _ (by first | exact hn | exact hf | exact ht | exact hs)).mono ?_; rintro e w' ⟨rfl, rfl⟩) | (go_at_call 29; refine (r26lev_any _ _).mono ?_; rintro e w' ⟨rfl, rfl⟩) | (go_at_call 30; refine (r26within_any _ _ _).mono ?_; rintro e w' ⟨rfl, rfl⟩))
    go_ret
    exact ⟨ret_bool HK.out.symm, by repeat' (first | exact Below.refl _ _ | assumption | refine Below.more ?_ ?_ _ | refine Below.alloc ?_ ?_ _ | refine Below.drew ?_ | refine below_drewN ?_ _ | refine Below.setCell ?_ ?_ _ | exact Below.size (by assumption) | (simp [go_sem, size_more]; done) | (simp [go_sem, size_more]; omega))⟩
  have T2 := Lib.hid t2
  by_cases t3 : wi = 0
  rotate_left
  · have t3b := beqF t3
    have T3 := Lib.hid t3
    clear t3
    have HK := Lib.hid (HS.out.trans ((kindLk_1 _ _ _ _ _ _ _ _ _ _ _ _).trans (by simp [H6.out, T1.out, T2.out, T3.out] : _ = false)))
    go_wp2_with (first | (go_at_call 28; refine (r1isName_any _ _ (by first | exact hn | exact hf | exact ht | exact hs)).mono ?_; rintro e w' ⟨rfl, rfl⟩) | (go_at_call 29; refine (r26lev_any _ _).mono ?_; rintro e w' ⟨rfl, rfl⟩) | (go_at_call 30; refine (r26within_any _ _ _).mono ?_; rintro e w' ⟨rfl, rfl⟩))
    go_ret
    exact ⟨ret_bool HK.out.symm, by repeat' (first | exact Below.refl _ _ | assumption | refine Below.more ?_ ?_ _ | refine Below.alloc ?_ ?_ _ | refine Below.drew ?_ | refine below_drewN ?_ _ | refine Below.setCell ?_ ?_ _ | exact Below.size (by assumption) | (simp [go_sem, size_more]; done) | (simp [go_sem, size_more]; omega))⟩
  have t3b := beqT t3
  have T3 := Lib.hid t3
  clear t3
  by_cases t4 : he = 0
  rotate_left
  · have t4b := beqF t4
    have T4 := Lib.hid t4
    clear t4
    have HK := Lib.hid (HS.out.trans ((kindLk_1 _ _ _ _ _ _ _ _ _ _ _ _).trans (by simp [H6.out, T1.out, T2.out, T3.out, T4.out] : _ = false)))
    go_wp2_with (first | (go_at_call 28; refine (r1isName_any _ _ (by first | exact hn | exact hf | exact ht | exact hs)).mono ?_; rintro e w' ⟨rfl, rfl⟩) | (go_at_call 29; refine (r26lev_any _ _).mono ?_; rintro e w' ⟨rfl, rfl⟩) | (go_at_call 30; refine (r26within_any _ _ _).mono ?_; rintro e w' ⟨rfl, rfl⟩))
    go_ret
    exact ⟨ret_bool HK.out.symm, by repeat' (first | exact Below.refl _ _ | assumption | refine Below.more ?_ ?_ _ | refine Below.alloc ?_ ?_ _ | refine Below.drew ?_ | refine below_drewN ?_ _ | refine Below.setCell ?_ ?_ _ | exact Below.size (by assumption) | (simp [go_sem, size_more]; done) | (simp [go_sem, size_more]; omega))⟩
  have t4b := beqT t4
  have T4 := Lib.hid t4
  clear t4
  by_cases t5 : cx.length = 0
  rotate_left
  · have t5b : ((cx.length : Int) == 0) = false := beqF (by omega)
    have T5 := Lib.hid t5
    clear t5
    have HK := Lib.hid (HS.out.trans ((kindLk_1 _ _ _ _ _ _ _ _ _ _ _ _).trans (by simp [H6.out, T1.out, T2.out, T3.out, T4.out, T5.out] : _ = false)))
    go_wp2_with (first | (go_at_call 28; refine (r1isName_any _ _ (by first | exact hn | exact hf | exact ht | exact hs)).mono ?_; rintro e w' ⟨rfl, rfl⟩) | (go_at_call 29; refine (r26lev_any _ _).mono ?_; rintro e w' ⟨rfl, rfl⟩) | (go_at_call 30; refine (r26within_any _ _ _).mono ?_; rintro e w' ⟨rfl, rfl⟩))
    go_ret
    exact ⟨ret_bool HK.out.symm, by repeat' (first | exact Below.refl _ _ | assumption | refine Below.more ?_ ?_ _ | refine Below.alloc ?_ ?_ _ | refine Below.drew ?_ | refine below_drewN ?_ _ | refine Below.setCell ?_ ?_ _ | exact Below.size (by assumption) | (simp [go_sem, size_more]; done) | (simp [go_sem, size_more]; omega))⟩
  have t5b : ((cx.length : Int) == 0) = true := beqT (by omega)
  have T5 := Lib.hid t5
  clear t5
  have HK := Lib.hid (HS.out.trans ((kindLk_1 _ _ _ _ _ _ _ _ _ _ _ _).trans (by simp [H6.out, T1.out, T2.out, T3.out, T4.out, T5.out] : _ = true)))
  go_wp2_with (first | (go_at_call 28; refine (r1isName_any _ _ (by first | exact hn | exact hf | exact ht | exact hs)).mono ?_; rintro e w' ⟨rfl, rfl⟩) | (go_at_call 29; refine (r26lev_any _ _).mono ?_; rintro e w' ⟨rfl, rfl⟩) | (go_at_call 30; refine (r26within_any _ _ _).mono ?_; rintro e w' ⟨rfl, rfl⟩))
  go_ret
  exact ⟨ret_bool HK.out.symm, by repeat' (first | exact Below.refl _ _ | assumption | refine Below.more ?_ ?_ _ | refine Below.alloc ?_ ?_ _ | refine Below.drew ?_ | refine below_drewN ?_ _ | refine Below.setCell ?_ ?_ _ | exact Below.size (by assumption) | (simp [go_sem, size_more]; done) | (simp [go_sem, size_more]; omega))⟩

set_option maxHeartbeats 8000000 in
theorem r26RightLink_2 (nm fr tt : ByteArray) (ln up dn : Int) (sc : ByteArray) (wi he : Int) (ca : Option Addr) (cc : Nat) (cx : List Kn) (w : World) (hn : nm.size ≤ maxLen) (hf : fr.size ≤ maxLen) (ht : tt.size ≤ maxLen) (hs : sc.size ≤ maxLen) (hcu : IsKns w (.slice ca cx.length cc) cx) (h1 : nameB nm = true) (h2 : nameB fr = true) (h3 : nameB tt = true) (h4 : strB fr tt = false) (h5 : lvlB up = true) (h6 : lvlB dn = true) :
    Calls Tryz.prog 23 #[vLk ⟨nm, fr, tt, 2, ln, up, dn, sc, wi, he, ⟨ca, cc, cx⟩⟩] w fun e w' => e = .returned (.bool (lkB ⟨nm, fr, tt, 2, ln, up, dn, sc, wi, he, ⟨ca, cc, cx⟩⟩)) ∧ Below w.heap.size w w' := by
  have HS := Lib.hid (lkB_of (l := ⟨nm, fr, tt, 2, ln, up, dn, sc, wi, he, ⟨ca, cc, cx⟩⟩) h1 h2 h3 h4 h5)
  have h4' : (fr.toList == tt.toList) = false := h4
  have H6 := Lib.hid h6
  simp only [vLk, vSl]
  go_enter Tryz.func23, Tryz.ntmps23
  go_upto_region 3 with (first | (go_at_call 28; refine (r1isName_any _ _ (by first | exact hn | exact hf | exact ht | exact hs)).mono ?_; rintro e w' ⟨rfl, rfl⟩) | (go_at_call 29; refine (r26lev_any _ _).mono ?_; rintro e w' ⟨rfl, rfl⟩))
  by_cases t1 : ln = 0
  rotate_left
  · have t1b := beqF t1
    have T1 := Lib.hid t1
    clear t1
    have HK := Lib.hid (HS.out.trans ((kindLk_2 _ _ _ _ _ _ _ _ _ _ _ _).trans (by simp [H6.out, T1.out] : _ = false)))
    go_wp2_with (first | (go_at_call 28; refine (r1isName_any _ _ (by first | exact hn | exact hf | exact ht | exact hs)).mono ?_; rintro e w' ⟨rfl, rfl⟩) | (go_at_call 29; refine (r26lev_any _ _).mono ?_; rintro e w' ⟨rfl, rfl⟩) | (go_at_call 30; refine (r26within_any _ _ _).mono ?_; rintro e w' ⟨rfl, rfl⟩))
    go_ret
    exact ⟨ret_bool HK.out.symm, by repeat' (first | exact Below.refl _ _ | assumption | refine Below.more ?_ ?_ _ | refine Below.alloc ?_ ?_ _ | refine Below.drew ?_ | refine below_drewN ?_ _ | refine Below.setCell ?_ ?_ _ | exact Below.size (by assumption) | (simp [go_sem, size_more]; done) | (simp [go_sem, size_more]; omega))⟩
  have t1b := beqT t1
  have T1 := Lib.hid t1
  clear t1
  by_cases t2 : dn = 0
  rotate_left
  · have t2b := beqF t2
    have T2 := Lib.hid t2
    clear t2
    have HK := Lib.hid (HS.out.trans ((kindLk_2 _ _ _ _ _ _ _ _ _ _ _ _).trans (by simp [H6.out, T1.out, T2.out] : _ = false)))
    go_wp2_with (first | (go_at_call 28; refine (r1isName_any _ _ (by first | exact hn | exact hf | exact ht | exact hs)).mono ?_; rintro e w' ⟨rfl, rfl⟩) | (go_at_call 29; refine (r26lev_any _ _).mono ?_; rintro e w' ⟨rfl, rfl⟩) | (go_at_call 30; refine (r26within_any _ _ _).mono ?_; rintro e w' ⟨rfl, rfl⟩))
    go_ret
    exact ⟨ret_bool HK.out.symm, by repeat' (first | exact Below.refl _ _ | assumption | refine Below.more ?_ ?_ _ | refine Below.alloc ?_ ?_ _ | refine Below.drew ?_ | refine below_drewN ?_ _ | refine Below.setCell ?_ ?_ _ | exact Below.size (by assumption) | (simp [go_sem, size_more]; done) | (simp [go_sem, size_more]; omega))⟩
  have t2b := beqT t2
  have T2 := Lib.hid t2
  clear t2
  cases t3 : emptyB sc
  · have T3 := Lib.hid t3
    have t3b : (sc.toList == []) = false := t3
    have t3c : sc.toList.isEmpty = false := by cases hq : sc.toList <;> simp_all
    have HK := Lib.hid (HS.out.trans ((kindLk_2 _ _ _ _ _ _ _ _ _ _ _ _).trans (by simp [H6.out, T1.out, T2.out, T3.out] : _ = false)))
    go_wp2_with (first | (go_at_call 28; refine (r1isName_any _ _ (by first | exact hn | exact hf | exact ht | exact hs)).mono ?_; rintro e w' ⟨rfl, rfl⟩) | (go_at_call 29; refine (r26lev_any _ _).mono ?_; rintro e w' ⟨rfl, rfl⟩) | (go_at_call 30; refine (r26within_any _ _ _).mono ?_; rintro e w' ⟨rfl, rfl⟩))
    go_ret
    exact ⟨ret_bool HK.out.symm, by repeat' (first | exact Below.refl _ _ | assumption | refine Below.more ?_ ?_ _ | refine Below.alloc ?_ ?_ _ | refine Below.drew ?_ | refine below_drewN ?_ _ | refine Below.setCell ?_ ?_ _ | exact Below.size (by assumption) | (simp [go_sem, size_more]; done) | (simp [go_sem, size_more]; omega))⟩
  have T3 := Lib.hid t3
  have t3b : sc.toList = [] := by simpa [emptyB] using t3
  clear t3
  cases t4 : btwB wi 1 1048576
  · have T4 := Lib.hid t4
    have HK := Lib.hid (HS.out.trans ((kindLk_2 _ _ _ _ _ _ _ _ _ _ _ _).trans (by simp [H6.out, T1.out, T2.out, T3.out, T4.out] : _ = false)))
    go_wp2_with (first | (go_at_call 28; refine (r1isName_any _ _ (by first | exact hn | exact hf | exact ht | exact hs)).mono ?_; rintro e w' ⟨rfl, rfl⟩) | (go_at_call 29; refine (r26lev_any _ _).mono ?_; rintro e w' ⟨rfl, rfl⟩) | (go_at_call 30; refine (r26within_any _ _ _).mono ?_; rintro e w' ⟨rfl, rfl⟩))
    go_ret
    exact ⟨ret_bool HK.out.symm, by repeat' (first | exact Below.refl _ _ | assumption | refine Below.more ?_ ?_ _ | refine Below.alloc ?_ ?_ _ | refine Below.drew ?_ | refine below_drewN ?_ _ | refine Below.setCell ?_ ?_ _ | exact Below.size (by assumption) | (simp [go_sem, size_more]; done) | (simp [go_sem, size_more]; omega))⟩
  have T4 := Lib.hid t4
  by_cases t5 : he = 0
  rotate_left
  · have t5b := beqF t5
    have T5 := Lib.hid t5
    clear t5
    have HK := Lib.hid (HS.out.trans ((kindLk_2 _ _ _ _ _ _ _ _ _ _ _ _).trans (by simp [H6.out, T1.out, T2.out, T3.out, T4.out, T5.out] : _ = false)))
    go_wp2_with (first | (go_at_call 28; refine (r1isName_any _ _ (by first | exact hn | exact hf | exact ht | exact hs)).mono ?_; rintro e w' ⟨rfl, rfl⟩) | (go_at_call 29; refine (r26lev_any _ _).mono ?_; rintro e w' ⟨rfl, rfl⟩) | (go_at_call 30; refine (r26within_any _ _ _).mono ?_; rintro e w' ⟨rfl, rfl⟩))
    go_ret
    exact ⟨ret_bool HK.out.symm, by repeat' (first | exact Below.refl _ _ | assumption | refine Below.more ?_ ?_ _ | refine Below.alloc ?_ ?_ _ | refine Below.drew ?_ | refine below_drewN ?_ _ | refine Below.setCell ?_ ?_ _ | exact Below.size (by assumption) | (simp [go_sem, size_more]; done) | (simp [go_sem, size_more]; omega))⟩
  have t5b := beqT t5
  have T5 := Lib.hid t5
  clear t5
  by_cases t6 : cx.length = 0
  rotate_left
  · have t6b : ((cx.length : Int) == 0) = false := beqF (by omega)
    have T6 := Lib.hid t6
    clear t6
    have HK := Lib.hid (HS.out.trans ((kindLk_2 _ _ _ _ _ _ _ _ _ _ _ _).trans (by simp [H6.out, T1.out, T2.out, T3.out, T4.out, T5.out, T6.out] : _ = false)))
    go_wp2_with (first | (go_at_call 28; refine (r1isName_any _ _ (by first | exact hn | exact hf | exact ht | exact hs)).mono ?_; rintro e w' ⟨rfl, rfl⟩) | (go_at_call 29; refine (r26lev_any _ _).mono ?_; rintro e w' ⟨rfl, rfl⟩) | (go_at_call 30; refine (r26within_any _ _ _).mono ?_; rintro e w' ⟨rfl, rfl⟩))
    go_ret
    exact ⟨ret_bool HK.out.symm, by repeat' (first | exact Below.refl _ _ | assumption | refine Below.more ?_ ?_ _ | refine Below.alloc ?_ ?_ _ | refine Below.drew ?_ | refine below_drewN ?_ _ | refine Below.setCell ?_ ?_ _ | exact Below.size (by assumption) | (simp [go_sem, size_more]; done) | (simp [go_sem, size_more]; omega))⟩
  have t6b : ((cx.length : Int) == 0) = true := beqT (by omega)
  have T6 := Lib.hid t6
  clear t6
  have HK := Lib.hid (HS.out.trans ((kindLk_2 _ _ _ _ _ _ _ _ _ _ _ _).trans (by simp [H6.out, T1.out, T2.out, T3.out, T4.out, T5.out, T6.out] : _ = true)))
  go_wp2_with (first | (go_at_call 28; refine (r1isName_any _ _ (by first | exact hn | exact hf | exact ht | exact hs)).mono ?_; rintro e w' ⟨rfl, rfl⟩) | (go_at_call 29; refine (r26lev_any _ _).mono ?_; rintro e w' ⟨rfl, rfl⟩) | (go_at_call 30; refine (r26within_any _ _ _).mono ?_; rintro e w' ⟨rfl, rfl⟩))
  go_ret
  exact ⟨ret_bool HK.out.symm, by repeat' (first | exact Below.refl _ _ | assumption | refine Below.more ?_ ?_ _ | refine Below.alloc ?_ ?_ _ | refine Below.drew ?_ | refine below_drewN ?_ _ | refine Below.setCell ?_ ?_ _ | exact Below.size (by assumption) | (simp [go_sem, size_more]; done) | (simp [go_sem, size_more]; omega))⟩

set_option maxHeartbeats 8000000 in
theorem r26RightLink_3 (nm fr tt : ByteArray) (ln up dn : Int) (sc : ByteArray) (wi he : Int) (ca : Option Addr) (cc : Nat) (cx : List Kn) (w : World) (hn : nm.size ≤ maxLen) (hf : fr.size ≤ maxLen) (ht : tt.size ≤ maxLen) (hs : sc.size ≤ maxLen) (hcu : IsKns w (.slice ca cx.length cc) cx) (h1 : nameB nm = true) (h2 : nameB fr = true) (h3 : nameB tt = true) (h4 : strB fr tt = false) (h5 : lvlB up = true) (h6 : lvlB dn = true) :
    Calls Tryz.prog 23 #[vLk ⟨nm, fr, tt, 3, ln, up, dn, sc, wi, he, ⟨ca, cc, cx⟩⟩] w fun e w' => e = .returned (.bool (lkB ⟨nm, fr, tt, 3, ln, up, dn, sc, wi, he, ⟨ca, cc, cx⟩⟩)) ∧ Below w.heap.size w w' := by
  have HS := Lib.hid (lkB_of (l := ⟨nm, fr, tt, 3, ln, up, dn, sc, wi, he, ⟨ca, cc, cx⟩⟩) h1 h2 h3 h4 h5)
  have h4' : (fr.toList == tt.toList) = false := h4
  have H6 := Lib.hid h6
  simp only [vLk, vSl]
  go_enter Tryz.func23, Tryz.ntmps23
  go_upto_region 3 with (first | (go_at_call 28; refine (r1isName_any _ _ (by first | exact hn | exact hf | exact ht | exact hs)).mono ?_; rintro e w' ⟨rfl, rfl⟩) | (go_at_call 29; refine (r26lev_any _ _).mono ?_; rintro e w' ⟨rfl, rfl⟩))
  by_cases t1 : ln = 0
  rotate_left
  · have t1b := beqF t1
    have T1 := Lib.hid t1
    clear t1
    have HK := Lib.hid (HS.out.trans ((kindLk_3 _ _ _ _ _ _ _ _ _ _ _ _).trans (by simp [H6.out, T1.out] : _ = false)))
    go_wp2_with (first | (go_at_call 28; refine (r1isName_any _ _ (by first | exact hn | exact hf | exact ht | exact hs)).mono ?_; rintro e w' ⟨rfl, rfl⟩) | (go_at_call 29; refine (r26lev_any _ _).mono ?_; rintro e w' ⟨rfl, rfl⟩) | (go_at_call 30; refine (r26within_any _ _ _).mono ?_; rintro e w' ⟨rfl, rfl⟩))
    go_ret
    exact ⟨ret_bool HK.out.symm, by repeat' (first | exact Below.refl _ _ | assumption | refine Below.more ?_ ?_ _ | refine Below.alloc ?_ ?_ _ | refine Below.drew ?_ | refine below_drewN ?_ _ | refine Below.setCell ?_ ?_ _ | exact Below.size (by assumption) | (simp [go_sem, size_more]; done) | (simp [go_sem, size_more]; omega))⟩
  have t1b := beqT t1
  have T1 := Lib.hid t1
  clear t1
  by_cases t2 : dn = 0
  rotate_left
  · have t2b := beqF t2
    have T2 := Lib.hid t2
    clear t2
    have HK := Lib.hid (HS.out.trans ((kindLk_3 _ _ _ _ _ _ _ _ _ _ _ _).trans (by simp [H6.out, T1.out, T2.out] : _ = false)))
    go_wp2_with (first | (go_at_call 28; refine (r1isName_any _ _ (by first | exact hn | exact hf | exact ht | exact hs)).mono ?_; rintro e w' ⟨rfl, rfl⟩) | (go_at_call 29; refine (r26lev_any _ _).mono ?_; rintro e w' ⟨rfl, rfl⟩) | (go_at_call 30; refine (r26within_any _ _ _).mono ?_; rintro e w' ⟨rfl, rfl⟩))
    go_ret
    exact ⟨ret_bool HK.out.symm, by repeat' (first | exact Below.refl _ _ | assumption | refine Below.more ?_ ?_ _ | refine Below.alloc ?_ ?_ _ | refine Below.drew ?_ | refine below_drewN ?_ _ | refine Below.setCell ?_ ?_ _ | exact Below.size (by assumption) | (simp [go_sem, size_more]; done) | (simp [go_sem, size_more]; omega))⟩
  have t2b := beqT t2
  have T2 := Lib.hid t2
  clear t2
  cases t3 : emptyB sc
  · have T3 := Lib.hid t3
    have t3b : (sc.toList == []) = false := t3
    have t3c : sc.toList.isEmpty = false := by cases hq : sc.toList <;> simp_all
    have HK := Lib.hid (HS.out.trans ((kindLk_3 _ _ _ _ _ _ _ _ _ _ _ _).trans (by simp [H6.out, T1.out, T2.out, T3.out] : _ = false)))
    go_wp2_with (first | (go_at_call 28; refine (r1isName_any _ _ (by first | exact hn | exact hf | exact ht | exact hs)).mono ?_; rintro e w' ⟨rfl, rfl⟩) | (go_at_call 29; refine (r26lev_any _ _).mono ?_; rintro e w' ⟨rfl, rfl⟩) | (go_at_call 30; refine (r26within_any _ _ _).mono ?_; rintro e w' ⟨rfl, rfl⟩))
    go_ret
    exact ⟨ret_bool HK.out.symm, by repeat' (first | exact Below.refl _ _ | assumption | refine Below.more ?_ ?_ _ | refine Below.alloc ?_ ?_ _ | refine Below.drew ?_ | refine below_drewN ?_ _ | refine Below.setCell ?_ ?_ _ | exact Below.size (by assumption) | (simp [go_sem, size_more]; done) | (simp [go_sem, size_more]; omega))⟩
  have T3 := Lib.hid t3
  have t3b : sc.toList = [] := by simpa [emptyB] using t3
  clear t3
  cases t4 : btwB wi 1 32768
  · have T4 := Lib.hid t4
    have HK := Lib.hid (HS.out.trans ((kindLk_3 _ _ _ _ _ _ _ _ _ _ _ _).trans (by simp [H6.out, T1.out, T2.out, T3.out, T4.out] : _ = false)))
    go_wp2_with (first | (go_at_call 28; refine (r1isName_any _ _ (by first | exact hn | exact hf | exact ht | exact hs)).mono ?_; rintro e w' ⟨rfl, rfl⟩) | (go_at_call 29; refine (r26lev_any _ _).mono ?_; rintro e w' ⟨rfl, rfl⟩) | (go_at_call 30; refine (r26within_any _ _ _).mono ?_; rintro e w' ⟨rfl, rfl⟩))
    go_ret
    exact ⟨ret_bool HK.out.symm, by repeat' (first | exact Below.refl _ _ | assumption | refine Below.more ?_ ?_ _ | refine Below.alloc ?_ ?_ _ | refine Below.drew ?_ | refine below_drewN ?_ _ | refine Below.setCell ?_ ?_ _ | exact Below.size (by assumption) | (simp [go_sem, size_more]; done) | (simp [go_sem, size_more]; omega))⟩
  have T4 := Lib.hid t4
  cases t5 : btwB he 1 32768
  · have T5 := Lib.hid t5
    have HK := Lib.hid (HS.out.trans ((kindLk_3 _ _ _ _ _ _ _ _ _ _ _ _).trans (by simp [H6.out, T1.out, T2.out, T3.out, T4.out, T5.out] : _ = false)))
    go_wp2_with (first | (go_at_call 28; refine (r1isName_any _ _ (by first | exact hn | exact hf | exact ht | exact hs)).mono ?_; rintro e w' ⟨rfl, rfl⟩) | (go_at_call 29; refine (r26lev_any _ _).mono ?_; rintro e w' ⟨rfl, rfl⟩) | (go_at_call 30; refine (r26within_any _ _ _).mono ?_; rintro e w' ⟨rfl, rfl⟩))
    go_ret
    exact ⟨ret_bool HK.out.symm, by repeat' (first | exact Below.refl _ _ | assumption | refine Below.more ?_ ?_ _ | refine Below.alloc ?_ ?_ _ | refine Below.drew ?_ | refine below_drewN ?_ _ | refine Below.setCell ?_ ?_ _ | exact Below.size (by assumption) | (simp [go_sem, size_more]; done) | (simp [go_sem, size_more]; omega))⟩
  have T5 := Lib.hid t5
  by_cases t6 : cx.length = 0
  rotate_left
  · have t6b : ((cx.length : Int) == 0) = false := beqF (by omega)
    have T6 := Lib.hid t6
    clear t6
    have HK := Lib.hid (HS.out.trans ((kindLk_3 _ _ _ _ _ _ _ _ _ _ _ _).trans (by simp [H6.out, T1.out, T2.out, T3.out, T4.out, T5.out, T6.out] : _ = false)))
    go_wp2_with (first | (go_at_call 28; refine (r1isName_any _ _ (by first | exact hn | exact hf | exact ht | exact hs)).mono ?_; rintro e w' ⟨rfl, rfl⟩) | (go_at_call 29; refine (r26lev_any _ _).mono ?_; rintro e w' ⟨rfl, rfl⟩) | (go_at_call 30; refine (r26within_any _ _ _).mono ?_; rintro e w' ⟨rfl, rfl⟩))
    go_ret
    exact ⟨ret_bool HK.out.symm, by repeat' (first | exact Below.refl _ _ | assumption | refine Below.more ?_ ?_ _ | refine Below.alloc ?_ ?_ _ | refine Below.drew ?_ | refine below_drewN ?_ _ | refine Below.setCell ?_ ?_ _ | exact Below.size (by assumption) | (simp [go_sem, size_more]; done) | (simp [go_sem, size_more]; omega))⟩
  have t6b : ((cx.length : Int) == 0) = true := beqT (by omega)
  have T6 := Lib.hid t6
  clear t6
  have HK := Lib.hid (HS.out.trans ((kindLk_3 _ _ _ _ _ _ _ _ _ _ _ _).trans (by simp [H6.out, T1.out, T2.out, T3.out, T4.out, T5.out, T6.out] : _ = true)))
  go_wp2_with (first | (go_at_call 28; refine (r1isName_any _ _ (by first | exact hn | exact hf | exact ht | exact hs)).mono ?_; rintro e w' ⟨rfl, rfl⟩) | (go_at_call 29; refine (r26lev_any _ _).mono ?_; rintro e w' ⟨rfl, rfl⟩) | (go_at_call 30; refine (r26within_any _ _ _).mono ?_; rintro e w' ⟨rfl, rfl⟩))
  go_ret
  exact ⟨ret_bool HK.out.symm, by repeat' (first | exact Below.refl _ _ | assumption | refine Below.more ?_ ?_ _ | refine Below.alloc ?_ ?_ _ | refine Below.drew ?_ | refine below_drewN ?_ _ | refine Below.setCell ?_ ?_ _ | exact Below.size (by assumption) | (simp [go_sem, size_more]; done) | (simp [go_sem, size_more]; omega))⟩

set_option maxHeartbeats 8000000 in
theorem r26RightLink_4 (nm fr tt : ByteArray) (ln up dn : Int) (sc : ByteArray) (wi he : Int) (ca : Option Addr) (cc : Nat) (cx : List Kn) (w : World) (hn : nm.size ≤ maxLen) (hf : fr.size ≤ maxLen) (ht : tt.size ≤ maxLen) (hs : sc.size ≤ maxLen) (hcu : IsKns w (.slice ca cx.length cc) cx) (h1 : nameB nm = true) (h2 : nameB fr = true) (h3 : nameB tt = true) (h4 : strB fr tt = false) (h5 : lvlB up = true) (h6 : lvlB dn = true) :
    Calls Tryz.prog 23 #[vLk ⟨nm, fr, tt, 4, ln, up, dn, sc, wi, he, ⟨ca, cc, cx⟩⟩] w fun e w' => e = .returned (.bool (lkB ⟨nm, fr, tt, 4, ln, up, dn, sc, wi, he, ⟨ca, cc, cx⟩⟩)) ∧ Below w.heap.size w w' := by
  have HS := Lib.hid (lkB_of (l := ⟨nm, fr, tt, 4, ln, up, dn, sc, wi, he, ⟨ca, cc, cx⟩⟩) h1 h2 h3 h4 h5)
  have h4' : (fr.toList == tt.toList) = false := h4
  have H6 := Lib.hid h6
  simp only [vLk, vSl]
  go_enter Tryz.func23, Tryz.ntmps23
  go_upto_region 3 with (first | (go_at_call 28; refine (r1isName_any _ _ (by first | exact hn | exact hf | exact ht | exact hs)).mono ?_; rintro e w' ⟨rfl, rfl⟩) | (go_at_call 29; refine (r26lev_any _ _).mono ?_; rintro e w' ⟨rfl, rfl⟩))
  by_cases t1 : ln = 0
  rotate_left
  · have t1b := beqF t1
    have T1 := Lib.hid t1
    clear t1
    have HK := Lib.hid (HS.out.trans ((kindLk_4 _ _ _ _ _ _ _ _ _ _ _ _).trans (by simp [H6.out, T1.out] : _ = false)))
    go_wp2_with (first | (go_at_call 28; refine (r1isName_any _ _ (by first | exact hn | exact hf | exact ht | exact hs)).mono ?_; rintro e w' ⟨rfl, rfl⟩) | (go_at_call 29; refine (r26lev_any _ _).mono ?_; rintro e w' ⟨rfl, rfl⟩) | (go_at_call 30; refine (r26within_any _ _ _).mono ?_; rintro e w' ⟨rfl, rfl⟩))
    go_ret
    exact ⟨ret_bool HK.out.symm, by repeat' (first | exact Below.refl _ _ | assumption | refine Below.more ?_ ?_ _ | refine Below.alloc ?_ ?_ _ | refine Below.drew ?_ | refine below_drewN ?_ _ | refine Below.setCell ?_ ?_ _ | exact Below.size (by assumption) | (simp [go_sem, size_more]; done) | (simp [go_sem, size_more]; omega))⟩
  have t1b := beqT t1
  have T1 := Lib.hid t1
  clear t1
  by_cases t2 : dn < up
  rotate_left
  · have t2b : decide (dn < up) = false := decide_eq_false t2
    have T2 := Lib.hid t2
    clear t2
    have HK := Lib.hid (HS.out.trans ((kindLk_4 _ _ _ _ _ _ _ _ _ _ _ _).trans (by simp [H6.out, T1.out, T2.out] : _ = false)))
    go_wp2_with (first | (go_at_call 28; refine (r1isName_any _ _ (by first | exact hn | exact hf | exact ht | exact hs)).mono ?_; rintro e w' ⟨rfl, rfl⟩) | (go_at_call 29; refine (r26lev_any _ _).mono ?_; rintro e w' ⟨rfl, rfl⟩) | (go_at_call 30; refine (r26within_any _ _ _).mono ?_; rintro e w' ⟨rfl, rfl⟩))
    go_ret
    exact ⟨ret_bool HK.out.symm, by repeat' (first | exact Below.refl _ _ | assumption | refine Below.more ?_ ?_ _ | refine Below.alloc ?_ ?_ _ | refine Below.drew ?_ | refine below_drewN ?_ _ | refine Below.setCell ?_ ?_ _ | exact Below.size (by assumption) | (simp [go_sem, size_more]; done) | (simp [go_sem, size_more]; omega))⟩
  have t2b : decide (dn < up) = true := decide_eq_true t2
  have T2 := Lib.hid t2
  cases t3 : emptyB sc
  · have T3 := Lib.hid t3
    have t3b : (sc.toList == []) = false := t3
    have t3c : sc.toList.isEmpty = false := by cases hq : sc.toList <;> simp_all
    have HK := Lib.hid (HS.out.trans ((kindLk_4 _ _ _ _ _ _ _ _ _ _ _ _).trans (by simp [H6.out, T1.out, T2.out, T3.out] : _ = false)))
    go_wp2_with (first | (go_at_call 28; refine (r1isName_any _ _ (by first | exact hn | exact hf | exact ht | exact hs)).mono ?_; rintro e w' ⟨rfl, rfl⟩) | (go_at_call 29; refine (r26lev_any _ _).mono ?_; rintro e w' ⟨rfl, rfl⟩) | (go_at_call 30; refine (r26within_any _ _ _).mono ?_; rintro e w' ⟨rfl, rfl⟩))
    go_ret
    exact ⟨ret_bool HK.out.symm, by repeat' (first | exact Below.refl _ _ | assumption | refine Below.more ?_ ?_ _ | refine Below.alloc ?_ ?_ _ | refine Below.drew ?_ | refine below_drewN ?_ _ | refine Below.setCell ?_ ?_ _ | exact Below.size (by assumption) | (simp [go_sem, size_more]; done) | (simp [go_sem, size_more]; omega))⟩
  have T3 := Lib.hid t3
  have t3b : sc.toList = [] := by simpa [emptyB] using t3
  clear t3
  by_cases t4 : wi = 0
  rotate_left
  · have t4b := beqF t4
    have T4 := Lib.hid t4
    clear t4
    have HK := Lib.hid (HS.out.trans ((kindLk_4 _ _ _ _ _ _ _ _ _ _ _ _).trans (by simp [H6.out, T1.out, T2.out, T3.out, T4.out] : _ = false)))
    go_wp2_with (first | (go_at_call 28; refine (r1isName_any _ _ (by first | exact hn | exact hf | exact ht | exact hs)).mono ?_; rintro e w' ⟨rfl, rfl⟩) | (go_at_call 29; refine (r26lev_any _ _).mono ?_; rintro e w' ⟨rfl, rfl⟩) | (go_at_call 30; refine (r26within_any _ _ _).mono ?_; rintro e w' ⟨rfl, rfl⟩))
    go_ret
    exact ⟨ret_bool HK.out.symm, by repeat' (first | exact Below.refl _ _ | assumption | refine Below.more ?_ ?_ _ | refine Below.alloc ?_ ?_ _ | refine Below.drew ?_ | refine below_drewN ?_ _ | refine Below.setCell ?_ ?_ _ | exact Below.size (by assumption) | (simp [go_sem, size_more]; done) | (simp [go_sem, size_more]; omega))⟩
  have t4b := beqT t4
  have T4 := Lib.hid t4
  clear t4
  by_cases t5 : he = 0
  rotate_left
  · have t5b := beqF t5
    have T5 := Lib.hid t5
    clear t5
    have HK := Lib.hid (HS.out.trans ((kindLk_4 _ _ _ _ _ _ _ _ _ _ _ _).trans (by simp [H6.out, T1.out, T2.out, T3.out, T4.out, T5.out] : _ = false)))
    go_wp2_with (first | (go_at_call 28; refine (r1isName_any _ _ (by first | exact hn | exact hf | exact ht | exact hs)).mono ?_; rintro e w' ⟨rfl, rfl⟩) | (go_at_call 29; refine (r26lev_any _ _).mono ?_; rintro e w' ⟨rfl, rfl⟩) | (go_at_call 30; refine (r26within_any _ _ _).mono ?_; rintro e w' ⟨rfl, rfl⟩))
    go_ret
    exact ⟨ret_bool HK.out.symm, by repeat' (first | exact Below.refl _ _ | assumption | refine Below.more ?_ ?_ _ | refine Below.alloc ?_ ?_ _ | refine Below.drew ?_ | refine below_drewN ?_ _ | refine Below.setCell ?_ ?_ _ | exact Below.size (by assumption) | (simp [go_sem, size_more]; done) | (simp [go_sem, size_more]; omega))⟩
  have t5b := beqT t5
  have T5 := Lib.hid t5
  clear t5
  have HK := Lib.hid (HS.out.trans ((kindLk_4 _ _ _ _ _ _ _ _ _ _ _ _).trans (by simp [H6.out, T1.out, T2.out, T3.out, T4.out, T5.out] : _ = curveB cx)))
  go_wp2_with (first | (go_at_call 28; refine (r1isName_any _ _ (by first | exact hn | exact hf | exact ht | exact hs)).mono ?_; rintro e w' ⟨rfl, rfl⟩) | (go_at_call 29; refine (r26lev_any _ _).mono ?_; rintro e w' ⟨rfl, rfl⟩) | (go_at_call 30; refine (r26within_any _ _ _).mono ?_; rintro e w' ⟨rfl, rfl⟩))
  refine Calls.to (r26curve_any cx _ _ (hcu.mono ((Below.refl _ _).alloc (Nat.le_refl _) _))) ?_
  rintro e w2 rfl hb2
  have hbb : Below w.heap.size w w2 := ((Below.refl _ _).alloc (Nat.le_refl _) _).trans (hb2.mono (by simp))
  clear hb2
  go_wp2_with fail
  go_ret
  exact ⟨ret_bool HK.out.symm, hbb⟩

set_option maxHeartbeats 8000000 in
theorem r26RightLink_any (l : Lk) (w : World) (hg : gLk w l) : Calls Tryz.prog 23 #[vLk l] w fun e w' => e = .returned (.bool (lkB l)) ∧ Below w.heap.size w w' := by
  obtain ⟨nm, fr, tt, kd, ln, up, dn, sc, wi, he, ⟨ca, cc, cx⟩⟩ := l
  have hn := hg.name
  have hf := hg.src
  have ht := hg.dst
  have hs := hg.sec
  have hcu : IsKns w (.slice ca cx.length cc) cx := hg.cu.isL
  clear hg
  simp only at hn hf ht hs
  cases h1 : nameB nm
  · simp only [vLk, vSl]
    have HS : Hid (lkB ⟨nm, fr, tt, kd, ln, up, dn, sc, wi, he, ⟨ca, cc, cx⟩⟩ = false) := by show _ = _; simp [lkB, h1]
    go_enter Tryz.func23, Tryz.ntmps23
    go_wp2_with (first | (go_at_call 28; refine (r1isName_any _ _ (by first | exact hn | exact hf | exact ht | exact hs)).mono ?_; rintro e w' ⟨rfl, rfl⟩) | (go_at_call 29; refine (r26lev_any _ _).mono ?_; rintro e w' ⟨rfl, rfl⟩) | (go_at_call 30; refine (r26within_any _ _ _).mono ?_; rintro e w' ⟨rfl, rfl⟩))
    go_ret
    exact ⟨ret_bool HS.out.symm, by repeat' (first | exact Below.refl _ _ | assumption | refine Below.more ?_ ?_ _ | refine Below.alloc ?_ ?_ _ | refine Below.drew ?_ | refine below_drewN ?_ _ | refine Below.setCell ?_ ?_ _ | exact Below.size (by assumption) | (simp [go_sem, size_more]; done) | (simp [go_sem, size_more]; omega))⟩
  cases h2 : nameB fr
  · simp only [vLk, vSl]
    have HS : Hid (lkB ⟨nm, fr, tt, kd, ln, up, dn, sc, wi, he, ⟨ca, cc, cx⟩⟩ = false) := by show _ = _; simp [lkB, h2]
    go_enter Tryz.func23, Tryz.ntmps23
    go_wp2_with (first | (go_at_call 28; refine (r1isName_any _ _ (by first | exact hn | exact hf | exact ht | exact hs)).mono ?_; rintro e w' ⟨rfl, rfl⟩) | (go_at_call 29; refine (r26lev_any _ _).mono ?_; rintro e w' ⟨rfl, rfl⟩) | (go_at_call 30; refine (r26within_any _ _ _).mono ?_; rintro e w' ⟨rfl, rfl⟩))
    go_ret
    exact ⟨ret_bool HS.out.symm, by repeat' (first | exact Below.refl _ _ | assumption | refine Below.more ?_ ?_ _ | refine Below.alloc ?_ ?_ _ | refine Below.drew ?_ | refine below_drewN ?_ _ | refine Below.setCell ?_ ?_ _ | exact Below.size (by assumption) | (simp [go_sem, size_more]; done) | (simp [go_sem, size_more]; omega))⟩
  cases h3 : nameB tt
  · simp only [vLk, vSl]
    have HS : Hid (lkB ⟨nm, fr, tt, kd, ln, up, dn, sc, wi, he, ⟨ca, cc, cx⟩⟩ = false) := by show _ = _; simp [lkB, h3]
    go_enter Tryz.func23, Tryz.ntmps23
    go_wp2_with (first | (go_at_call 28; refine (r1isName_any _ _ (by first | exact hn | exact hf | exact ht | exact hs)).mono ?_; rintro e w' ⟨rfl, rfl⟩) | (go_at_call 29; refine (r26lev_any _ _).mono ?_; rintro e w' ⟨rfl, rfl⟩) | (go_at_call 30; refine (r26within_any _ _ _).mono ?_; rintro e w' ⟨rfl, rfl⟩))
    go_ret
    exact ⟨ret_bool HS.out.symm, by repeat' (first | exact Below.refl _ _ | assumption | refine Below.more ?_ ?_ _ | refine Below.alloc ?_ ?_ _ | refine Below.drew ?_ | refine below_drewN ?_ _ | refine Below.setCell ?_ ?_ _ | exact Below.size (by assumption) | (simp [go_sem, size_more]; done) | (simp [go_sem, size_more]; omega))⟩
  cases h4 : strB fr tt
  rotate_left
  · simp only [vLk, vSl]
    have h4' : (fr.toList == tt.toList) = true := h4
    have HS : Hid (lkB ⟨nm, fr, tt, kd, ln, up, dn, sc, wi, he, ⟨ca, cc, cx⟩⟩ = false) := by show _ = _; simp [lkB, h4]
    go_enter Tryz.func23, Tryz.ntmps23
    go_wp2_with (first | (go_at_call 28; refine (r1isName_any _ _ (by first | exact hn | exact hf | exact ht | exact hs)).mono ?_; rintro e w' ⟨rfl, rfl⟩) | (go_at_call 29; refine (r26lev_any _ _).mono ?_; rintro e w' ⟨rfl, rfl⟩) | (go_at_call 30; refine (r26within_any _ _ _).mono ?_; rintro e w' ⟨rfl, rfl⟩))
    go_ret
    exact ⟨ret_bool HS.out.symm, by repeat' (first | exact Below.refl _ _ | assumption | refine Below.more ?_ ?_ _ | refine Below.alloc ?_ ?_ _ | refine Below.drew ?_ | refine below_drewN ?_ _ | refine Below.setCell ?_ ?_ _ | exact Below.size (by assumption) | (simp [go_sem, size_more]; done) | (simp [go_sem, size_more]; omega))⟩
  have h4' : (fr.toList == tt.toList) = false := h4
  cases h5 : lvlB up
  · simp only [vLk, vSl]
    have HS : Hid (lkB ⟨nm, fr, tt, kd, ln, up, dn, sc, wi, he, ⟨ca, cc, cx⟩⟩ = false) := by show _ = _; simp [lkB, h5]
    go_enter Tryz.func23, Tryz.ntmps23
    go_wp2_with (first | (go_at_call 28; refine (r1isName_any _ _ (by first | exact hn | exact hf | exact ht | exact hs)).mono ?_; rintro e w' ⟨rfl, rfl⟩) | (go_at_call 29; refine (r26lev_any _ _).mono ?_; rintro e w' ⟨rfl, rfl⟩) | (go_at_call 30; refine (r26within_any _ _ _).mono ?_; rintro e w' ⟨rfl, rfl⟩))
    go_ret
    exact ⟨ret_bool HS.out.symm, by repeat' (first | exact Below.refl _ _ | assumption | refine Below.more ?_ ?_ _ | refine Below.alloc ?_ ?_ _ | refine Below.drew ?_ | refine below_drewN ?_ _ | refine Below.setCell ?_ ?_ _ | exact Below.size (by assumption) | (simp [go_sem, size_more]; done) | (simp [go_sem, size_more]; omega))⟩
  cases h6 : lvlB dn
  · simp only [vLk, vSl]
    have HL := Lib.hid (kindLk_lvl nm fr tt ln up dn sc wi he ca cc cx (kd := kd) h6)
    have HS : Hid (lkB ⟨nm, fr, tt, kd, ln, up, dn, sc, wi, he, ⟨ca, cc, cx⟩⟩ = false) := by show _ = _; simp [lkB, HL.out]
    go_enter Tryz.func23, Tryz.ntmps23
    go_wp2_with (first | (go_at_call 28; refine (r1isName_any _ _ (by first | exact hn | exact hf | exact ht | exact hs)).mono ?_; rintro e w' ⟨rfl, rfl⟩) | (go_at_call 29; refine (r26lev_any _ _).mono ?_; rintro e w' ⟨rfl, rfl⟩) | (go_at_call 30; refine (r26within_any _ _ _).mono ?_; rintro e w' ⟨rfl, rfl⟩))
    go_ret
    exact ⟨ret_bool HS.out.symm, by repeat' (first | exact Below.refl _ _ | assumption | refine Below.more ?_ ?_ _ | refine Below.alloc ?_ ?_ _ | refine Below.drew ?_ | refine below_drewN ?_ _ | refine Below.setCell ?_ ?_ _ | exact Below.size (by assumption) | (simp [go_sem, size_more]; done) | (simp [go_sem, size_more]; omega))⟩
  by_cases k1 : kd = 1
  · subst k1; exact r26RightLink_1 nm fr tt ln up dn sc wi he ca cc cx w hn hf ht hs hcu h1 h2 h3 h4 h5 h6
  by_cases k2 : kd = 2
  · subst k2; exact r26RightLink_2 nm fr tt ln up dn sc wi he ca cc cx w hn hf ht hs hcu h1 h2 h3 h4 h5 h6
  by_cases k3 : kd = 3
  · subst k3; exact r26RightLink_3 nm fr tt ln up dn sc wi he ca cc cx w hn hf ht hs hcu h1 h2 h3 h4 h5 h6
  by_cases k4 : kd = 4
  · subst k4; exact r26RightLink_4 nm fr tt ln up dn sc wi he ca cc cx w hn hf ht hs hcu h1 h2 h3 h4 h5 h6
  have HL : Hid (kindLkB ⟨nm, fr, tt, kd, ln, up, dn, sc, wi, he, ⟨ca, cc, cx⟩⟩ = false) := by show _ = _; simp [kindLkB, k1, k2, k3, k4]
  have n1 := beqF k1
  have n2 := beqF k2
  have n3 := beqF k3
  have n4 := beqF k4
  clear k1 k2 k3 k4
  simp only [vLk, vSl]
  have HS : Hid (lkB ⟨nm, fr, tt, kd, ln, up, dn, sc, wi, he, ⟨ca, cc, cx⟩⟩ = false) := by show _ = _; simp [lkB, HL.out]
  go_enter Tryz.func23, Tryz.ntmps23
  go_wp2_with (first | (go_at_call 28; refine (r1isName_any _ _ (by first | exact hn | exact hf | exact ht | exact hs)).mono ?_; rintro e w' ⟨rfl, rfl⟩) | (go_at_call 29; refine (r26lev_any _ _).mono ?_; rintro e w' ⟨rfl, rfl⟩) | (go_at_call 30; refine (r26within_any _ _ _).mono ?_; rintro e w' ⟨rfl, rfl⟩))
  go_ret
  exact ⟨ret_bool HS.out.symm, by repeat' (first | exact Below.refl _ _ | assumption | refine Below.more ?_ ?_ _ | refine Below.alloc ?_ ?_ _ | refine Below.drew ?_ | refine below_drewN ?_ _ | refine Below.setCell ?_ ?_ _ | exact Below.size (by assumption) | (simp [go_sem, size_more]; done) | (simp [go_sem, size_more]; omega))⟩

end Go.Proofs.YtmpegbebjefkaaaGreat

namespace Go.Proofs.YtmpegbebjefkaaaGreat
open Go.RowKit
set_option linter.unusedVariables false
set_option linter.unusedSimpArgs false

end Go.Proofs.YtmpegbebjefkaaaGreat
