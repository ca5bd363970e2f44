/- Whether a list of events is right, on both sides. Conditions: the slice reads as a list. -/
import Derived.Test.YtdlaghjijfgncaaEqs
namespace Go.Proofs.Ytdlaghjijfgncaa
open Go.RowKit
set_option linter.unusedVariables false
set_option linter.unusedSimpArgs false

theorem IsC.ev' {w : World} {b off : Nat} {xs : List Ev} (h : IsC eEv 4 w (some ⟨b, off, none⟩) xs) (i : Nat) (hi : i < xs.length) :
    w.cell? ⟨b, off + i * 4, none⟩ = some (.int .i64 xs[i].From) ∧ w.cell? ⟨b, off + i * 4 + 1, none⟩ = some (.int .i64 xs[i].To) ∧ w.cell? ⟨b, off + i * 4 + 2, none⟩ = some (.int .i64 xs[i].Total) ∧ w.cell? ⟨b, off + i * 4 + 3, none⟩ = some (.int .i64 xs[i].Peak) := by
  obtain ⟨b', off', e, c1, c2, c3, c4⟩ := h.ev i hi
  simp only [Option.some.injEq, Addr.mk.injEq, and_true] at e
  obtain ⟨rfl, rfl⟩ := e
  exact ⟨c1, c2, c3, c4⟩

def evBad (last : Int) (x : Ev) : Bool :=
  decide (x.From < last) || decide (x.To ≤ x.From) || decide (10000 < x.To) || decide (x.Peak < 1) || decide (x.Total < x.Peak) || decide (1099511627776 < x.Total)
def validGo (last : Int) : List Ev → Bool
  | [] => true
  | x :: r => if evBad last x then false else validGo x.To r
def validM (xs : List Ev) : Bool := if 1000 < xs.length then false else validGo 0 xs

set_option maxRecDepth 100000 in
set_option maxHeartbeats 2000000 in
theorem evalid_any (xs : List Ev) (v : Value) (w : World) (hv : IsEvs w v xs) :
    Calls Try.prog 43 #[v] w fun e w' => e = .returned (.bool (validM xs)) ∧ Below w.heap.size w w' := by
  obtain ⟨a, cap, rfl, hcap, hbig, hs⟩ := hv
  unfold validM
  by_cases h0 : 1000 < xs.length
  · rw [if_pos h0]
    go_enter Try.func43, Try.ntmps43
    go_wp2_with fail
    go_ret
    exact ⟨rfl, Below.refl _ _⟩
  · rw [if_neg h0]
    go_enter Try.func43, Try.ntmps43
    go_wp2_with fail
    go_loopw [3, 11] (fun s3 s6 wr => ∃ (k : Nat) (t : Int), k ≤ xs.length ∧ s6 = .int .i64 k ∧ s3 = .int .i64 t ∧ Below w.heap.size w wr ∧ Hid (validGo 0 xs = validGo t (xs.drop k))) (fun _ i _ => xs.length - (intOf i).toNat)
    case atStart => exact ⟨0, 0, Nat.zero_le _, rfl, rfl, Below.refl _ _, rfl⟩
    case round =>
      as_aux_lemma =>
      obtain ⟨k, t, hk, rfl, rfl, hb, hm⟩ := hrel
      by_cases hlt : k < xs.length
      · obtain ⟨b, off, rfl, c1, c2, c3, c4⟩ := (hs.mono hb).ev k hlt
        have hdrop : Hid (xs.drop k = xs[k] :: xs.drop (k + 1)) := List.drop_eq_getElem_cons hlt
        clear hs
        generalize xs[k] = x at *
        have HF : Hid (evBad t x = true → validGo 0 xs = false) := by
          intro h; rw [hm.out, hdrop.out]; simp [validGo, h]
        have HG : Hid (evBad t x = false → validGo 0 xs = validGo x.To (xs.drop (k + 1))) := by
          intro h; rw [hm.out, hdrop.out]; simp [validGo, h]
        have hbA : Below w.heap.size w (wr.alloc (.cells #[.int .i64 x.From, .int .i64 x.To, .int .i64 x.Total, .int .i64 x.Peak] 34)) := hb.alloc hb.size _
        by_cases q1 : x.From < t
        · have u1 := decide_eq_true q1
          go_wp2_with fail
          go_ret
          exact ⟨ret_bool (HF.out (by simp [evBad, q1])).symm, by repeat' (first | exact Below.refl _ _ | assumption | refine Below.more ?_ ?_ _ | refine Below.alloc ?_ ?_ _ | refine Below.drew ?_ | refine below_drewN ?_ _ | refine Below.setCell ?_ ?_ _ | exact Below.size (by assumption) | (simp [go_sem, size_more]; done) | (simp [go_sem, size_more]; omega))⟩
        have u1 := decide_eq_false q1
        by_cases q2 : x.To ≤ x.From
        · have u2 := decide_eq_true q2
          go_wp2_with fail
          go_ret
          exact ⟨ret_bool (HF.out (by simp [evBad, q2])).symm, by repeat' (first | exact Below.refl _ _ | assumption | refine Below.more ?_ ?_ _ | refine Below.alloc ?_ ?_ _ | refine Below.drew ?_ | refine below_drewN ?_ _ | refine Below.setCell ?_ ?_ _ | exact Below.size (by assumption) | (simp [go_sem, size_more]; done) | (simp [go_sem, size_more]; omega))⟩
        have u2 := decide_eq_false q2
        by_cases q3 : 10000 < x.To
        · have u3 := decide_eq_true q3
          go_wp2_with fail
          go_ret
          exact ⟨ret_bool (HF.out (by simp [evBad, q3])).symm, by repeat' (first | exact Below.refl _ _ | assumption | refine Below.more ?_ ?_ _ | refine Below.alloc ?_ ?_ _ | refine Below.drew ?_ | refine below_drewN ?_ _ | refine Below.setCell ?_ ?_ _ | exact Below.size (by assumption) | (simp [go_sem, size_more]; done) | (simp [go_sem, size_more]; omega))⟩
        have u3 := decide_eq_false q3
        by_cases q4 : x.Peak < 1
        · have u4 := decide_eq_true q4
          go_wp2_with fail
          go_ret
          exact ⟨ret_bool (HF.out (by simp [evBad, q4])).symm, by repeat' (first | exact Below.refl _ _ | assumption | refine Below.more ?_ ?_ _ | refine Below.alloc ?_ ?_ _ | refine Below.drew ?_ | refine below_drewN ?_ _ | refine Below.setCell ?_ ?_ _ | exact Below.size (by assumption) | (simp [go_sem, size_more]; done) | (simp [go_sem, size_more]; omega))⟩
        have u4 := decide_eq_false q4
        by_cases q5 : x.Total < x.Peak
        · have u5 := decide_eq_true q5
          go_wp2_with fail
          go_ret
          exact ⟨ret_bool (HF.out (by simp [evBad, q5])).symm, by repeat' (first | exact Below.refl _ _ | assumption | refine Below.more ?_ ?_ _ | refine Below.alloc ?_ ?_ _ | refine Below.drew ?_ | refine below_drewN ?_ _ | refine Below.setCell ?_ ?_ _ | exact Below.size (by assumption) | (simp [go_sem, size_more]; done) | (simp [go_sem, size_more]; omega))⟩
        have u5 := decide_eq_false q5
        by_cases q6 : 1099511627776 < x.Total
        · have u6 := decide_eq_true q6
          go_wp2_with fail
          go_ret
          exact ⟨ret_bool (HF.out (by simp [evBad, q6])).symm, by repeat' (first | exact Below.refl _ _ | assumption | refine Below.more ?_ ?_ _ | refine Below.alloc ?_ ?_ _ | refine Below.drew ?_ | refine below_drewN ?_ _ | refine Below.setCell ?_ ?_ _ | exact Below.size (by assumption) | (simp [go_sem, size_more]; done) | (simp [go_sem, size_more]; omega))⟩
        have u6 := decide_eq_false q6
        have HB : Hid (evBad t x = false) := by show _ = _; simp only [evBad, u1, u2, u3, u4, u5, u6, Bool.or_false]
        have hwk : IntKind.i64.wrap ((k : Int) + 1) = k + 1 := IntWalk.i64_in _ (by omega)
        clear q1 q2 q3 q4 q5 q6
        go_wp2_with fail
        go_roundw
        case measure => simp [intOf]; omega
        case rel => exact ⟨k + 1, x.To, by omega, by go_num, rfl, by repeat' (first | exact Below.refl _ _ | assumption | refine Below.more ?_ ?_ _ | refine Below.alloc ?_ ?_ _ | refine Below.drew ?_ | refine below_drewN ?_ _ | refine Below.setCell ?_ ?_ _ | exact Below.size (by assumption) | (simp [go_sem, size_more]; done) | (simp [go_sem, size_more]; omega)), HG.out HB.out⟩
      · go_wp2_with fail
        go_ret
        refine ⟨ret_bool ?_, hb⟩
        rw [hm.out, List.drop_eq_nil_of_le (by omega)]; rfl

set_option maxRecDepth 100000 in
set_option maxHeartbeats 8000000 in
theorem r21valid_any (xs : List Ev) (v : Value) (w : World) (hv : IsEvs w v xs) :
    Calls Try.prog 19 #[v] w fun e w' => e = .returned (.bool (validM xs)) ∧ Below w.heap.size w w' := by
  obtain ⟨a, cap, rfl, hcap, hbig, hs⟩ := hv
  unfold validM
  by_cases h0 : 1000 < xs.length
  · rw [if_pos h0]
    go_enter Try.func19, Try.ntmps19
    go_wp2_with fail
    go_ret
    exact ⟨rfl, Below.refl _ _⟩
  · rw [if_neg h0]
    go_enter Try.func19, Try.ntmps19
    go_wp2_with fail
    go_loopw [3] (fun s6 wr => ∃ (k : Nat) (t : Int), k ≤ xs.length ∧ s6 = .int .i64 k ∧ 0 ≤ t ∧ Below w.heap.size w wr ∧ Hid (k = 0 → t = 0) ∧ Hid (∀ (h : k - 1 < xs.length), 0 < k → t = xs[k - 1].To) ∧ Hid (validGo 0 xs = validGo t (xs.drop k))) (fun i _ => xs.length - (intOf i).toNat)
    case atStart => exact ⟨0, 0, Nat.zero_le _, rfl, by omega, Below.refl _ _, fun _ => rfl, fun _ h => absurd h (by omega), rfl⟩
    case round =>
      as_aux_lemma =>
      obtain ⟨k, t, hk, rfl, ht0, hb, hk0, hkt, hm⟩ := hrel
      by_cases hlt : k < xs.length
      · obtain ⟨b, off, rfl, c1, c2, c3, c4⟩ := (hs.mono hb).ev k hlt
        have hdrop : Hid (xs.drop k = xs[k] :: xs.drop (k + 1)) := List.drop_eq_getElem_cons hlt
        have HX : ∃ x, Hid (xs[k] = x) := ⟨_, rfl⟩
        obtain ⟨x, HX⟩ := HX
        rw [HX.out] at c1 c2 c3 c4 hdrop
        have HF : Hid (evBad t x = true → validGo 0 xs = false) := by
          intro h; rw [hm.out, hdrop.out]; simp [validGo, h]
        have HG : Hid (evBad t x = false → validGo 0 xs = validGo x.To (xs.drop (k + 1))) := by
          intro h; rw [hm.out, hdrop.out]; simp [validGo, h]
        have hbA : Below w.heap.size w (wr.alloc (.cells #[.int .i64 x.From, .int .i64 x.To, .int .i64 x.Total, .int .i64 x.Peak] 34)) := hb.alloc hb.size _
        have kk : IntKind.i64.wrap ((k : Int) - 1) = (k : Int) - 1 := IntWalk.i64_in _ (by omega)
        by_cases k0 : k = 0
        · obtain rfl := hk0.out k0
          subst k0
          simp only [Nat.zero_mul, Nat.add_zero, Nat.zero_add] at c1 c2 c3 c4
          have g0 : decide ((0 : Int) < ((0 : Nat) : Int)) = false := rfl
          clear hs hkt hk0
          cases u1 : decide (x.From < 0)
          rotate_left
          · go_wp2_with fail
            go_quiet (fail)
            go_wp2_with fail
            go_ret
            exact ⟨ret_bool (HF.out (by simp only [evBad, u1]; simp)).symm, by repeat' (first | exact Below.refl _ _ | assumption | refine Below.more ?_ ?_ _ | refine Below.alloc ?_ ?_ _ | refine Below.drew ?_ | refine below_drewN ?_ _ | refine Below.setCell ?_ ?_ _ | exact Below.size (by assumption) | (simp [go_sem, size_more]; done) | (simp [go_sem, size_more]; omega))⟩
          cases u2 : decide (x.To ≤ x.From)
          rotate_left
          · go_wp2_with fail
            go_quiet (fail)
            go_wp2_with fail
            go_ret
            exact ⟨ret_bool (HF.out (by simp only [evBad, u1, u2]; simp)).symm, by repeat' (first | exact Below.refl _ _ | assumption | refine Below.more ?_ ?_ _ | refine Below.alloc ?_ ?_ _ | refine Below.drew ?_ | refine below_drewN ?_ _ | refine Below.setCell ?_ ?_ _ | exact Below.size (by assumption) | (simp [go_sem, size_more]; done) | (simp [go_sem, size_more]; omega))⟩
          cases u3 : decide (10000 < x.To)
          rotate_left
          · go_wp2_with fail
            go_quiet (fail)
            go_wp2_with fail
            go_ret
            exact ⟨ret_bool (HF.out (by simp only [evBad, u1, u2, u3]; simp)).symm, by repeat' (first | exact Below.refl _ _ | assumption | refine Below.more ?_ ?_ _ | refine Below.alloc ?_ ?_ _ | refine Below.drew ?_ | refine below_drewN ?_ _ | refine Below.setCell ?_ ?_ _ | exact Below.size (by assumption) | (simp [go_sem, size_more]; done) | (simp [go_sem, size_more]; omega))⟩
          cases u4 : decide (x.Peak < 1)
          rotate_left
          · go_wp2_with fail
            go_quiet (fail)
            go_wp2_with fail
            go_ret
            exact ⟨ret_bool (HF.out (by simp only [evBad, u1, u2, u3, u4]; simp)).symm, by repeat' (first | exact Below.refl _ _ | assumption | refine Below.more ?_ ?_ _ | refine Below.alloc ?_ ?_ _ | refine Below.drew ?_ | refine below_drewN ?_ _ | refine Below.setCell ?_ ?_ _ | exact Below.size (by assumption) | (simp [go_sem, size_more]; done) | (simp [go_sem, size_more]; omega))⟩
          cases u5 : decide (x.Total < x.Peak)
          rotate_left
          · go_wp2_with fail
            go_quiet (fail)
            go_wp2_with fail
            go_ret
            exact ⟨ret_bool (HF.out (by simp only [evBad, u1, u2, u3, u4, u5]; simp)).symm, by repeat' (first | exact Below.refl _ _ | assumption | refine Below.more ?_ ?_ _ | refine Below.alloc ?_ ?_ _ | refine Below.drew ?_ | refine below_drewN ?_ _ | refine Below.setCell ?_ ?_ _ | exact Below.size (by assumption) | (simp [go_sem, size_more]; done) | (simp [go_sem, size_more]; omega))⟩
          cases u6 : decide (1099511627776 < x.Total)
          rotate_left
          · go_wp2_with fail
            go_quiet (fail)
            go_wp2_with fail
            go_ret
            exact ⟨ret_bool (HF.out (by simp only [evBad, u1, u2, u3, u4, u5, u6]; simp)).symm, by repeat' (first | exact Below.refl _ _ | assumption | refine Below.more ?_ ?_ _ | refine Below.alloc ?_ ?_ _ | refine Below.drew ?_ | refine below_drewN ?_ _ | refine Below.setCell ?_ ?_ _ | exact Below.size (by assumption) | (simp [go_sem, size_more]; done) | (simp [go_sem, size_more]; omega))⟩
          have HB : Hid (evBad 0 x = false) := by show _ = _; simp only [evBad, u1, u2, u3, u4, u5, u6, Bool.or_false]
          have hto : 0 ≤ x.To := by simp at u1 u2; omega
          go_wp2_with fail
          go_quiet (fail)
          go_wp2_with fail
          go_roundw
          case measure => simp [intOf]; omega
          case rel => exact ⟨1, x.To, by omega, by go_num, hto, by repeat' (first | exact Below.refl _ _ | assumption | refine Below.more ?_ ?_ _ | refine Below.alloc ?_ ?_ _ | refine Below.drew ?_ | refine below_drewN ?_ _ | refine Below.setCell ?_ ?_ _ | exact Below.size (by assumption) | (simp [go_sem, size_more]; done) | (simp [go_sem, size_more]; omega)), fun h => absurd h (by omega), fun h _ => by show x.To = xs[1 - 1].To; rw [← HX.out], HG.out HB.out⟩
        · obtain ⟨m, rfl⟩ : ∃ m, k = m + 1 := ⟨k - 1, by omega⟩
          have ht := hkt.out (by omega) (by omega)
          simp only [Nat.add_sub_cancel] at ht
          have c5 := ((hs.mono hb).ev' m (by omega)).2.1
          rw [← ht] at c5
          have g0 : decide ((0 : Int) < ((m + 1 : Nat) : Int)) = true := decide_eq_true (by omega)
          have g1 : ((m + 1 : Nat) : Int) - 1 = (m : Int) := by omega
          rw [g1] at kk
          have y1 : (0 : Int) ≤ m := by omega
          have y2 : (m : Int) < xs.length := by omega
          clear hs hkt hk0 ht g1
          cases u1 : decide (x.From < t)
          rotate_left
          · cases v1 : decide (x.From < 0)
            rotate_left
            · go_wp2_with fail
              go_quiet (fail)
              go_wp2_with fail
              go_ret
              exact ⟨ret_bool (HF.out (by simp only [evBad, u1]; simp)).symm, by repeat' (first | exact Below.refl _ _ | assumption | refine Below.more ?_ ?_ _ | refine Below.alloc ?_ ?_ _ | refine Below.drew ?_ | refine below_drewN ?_ _ | refine Below.setCell ?_ ?_ _ | exact Below.size (by assumption) | (simp [go_sem, size_more]; done) | (simp [go_sem, size_more]; omega))⟩
            cases u2 : decide (x.To ≤ x.From)
            rotate_left
            · go_wp2_with fail
              go_quiet (fail)
              go_wp2_with fail
              go_ret
              exact ⟨ret_bool (HF.out (by simp only [evBad, u1]; simp)).symm, by repeat' (first | exact Below.refl _ _ | assumption | refine Below.more ?_ ?_ _ | refine Below.alloc ?_ ?_ _ | refine Below.drew ?_ | refine below_drewN ?_ _ | refine Below.setCell ?_ ?_ _ | exact Below.size (by assumption) | (simp [go_sem, size_more]; done) | (simp [go_sem, size_more]; omega))⟩
            cases u3 : decide (10000 < x.To)
            rotate_left
            · go_wp2_with fail
              go_quiet (fail)
              go_wp2_with fail
              go_ret
              exact ⟨ret_bool (HF.out (by simp only [evBad, u1]; simp)).symm, by repeat' (first | exact Below.refl _ _ | assumption | refine Below.more ?_ ?_ _ | refine Below.alloc ?_ ?_ _ | refine Below.drew ?_ | refine below_drewN ?_ _ | refine Below.setCell ?_ ?_ _ | exact Below.size (by assumption) | (simp [go_sem, size_more]; done) | (simp [go_sem, size_more]; omega))⟩
            cases u4 : decide (x.Peak < 1)
            rotate_left
            · go_wp2_with fail
              go_quiet (fail)
              go_wp2_with fail
              go_ret
              exact ⟨ret_bool (HF.out (by simp only [evBad, u1]; simp)).symm, by repeat' (first | exact Below.refl _ _ | assumption | refine Below.more ?_ ?_ _ | refine Below.alloc ?_ ?_ _ | refine Below.drew ?_ | refine below_drewN ?_ _ | refine Below.setCell ?_ ?_ _ | exact Below.size (by assumption) | (simp [go_sem, size_more]; done) | (simp [go_sem, size_more]; omega))⟩
            cases u5 : decide (x.Total < x.Peak)
            rotate_left
            · go_wp2_with fail
              go_quiet (fail)
              go_wp2_with fail
              go_ret
              exact ⟨ret_bool (HF.out (by simp only [evBad, u1]; simp)).symm, by repeat' (first | exact Below.refl _ _ | assumption | refine Below.more ?_ ?_ _ | refine Below.alloc ?_ ?_ _ | refine Below.drew ?_ | refine below_drewN ?_ _ | refine Below.setCell ?_ ?_ _ | exact Below.size (by assumption) | (simp [go_sem, size_more]; done) | (simp [go_sem, size_more]; omega))⟩
            cases u6 : decide (1099511627776 < x.Total)
            rotate_left
            · go_wp2_with fail
              go_quiet (fail)
              go_wp2_with fail
              go_ret
              exact ⟨ret_bool (HF.out (by simp only [evBad, u1]; simp)).symm, by repeat' (first | exact Below.refl _ _ | assumption | refine Below.more ?_ ?_ _ | refine Below.alloc ?_ ?_ _ | refine Below.drew ?_ | refine below_drewN ?_ _ | refine Below.setCell ?_ ?_ _ | exact Below.size (by assumption) | (simp [go_sem, size_more]; done) | (simp [go_sem, size_more]; omega))⟩
            go_wp2_with fail
            go_quiet (fail)
            go_wp2_with fail
            go_ret
            exact ⟨ret_bool (HF.out (by simp only [evBad, u1]; simp)).symm, by repeat' (first | exact Below.refl _ _ | assumption | refine Below.more ?_ ?_ _ | refine Below.alloc ?_ ?_ _ | refine Below.drew ?_ | refine below_drewN ?_ _ | refine Below.setCell ?_ ?_ _ | exact Below.size (by assumption) | (simp [go_sem, size_more]; done) | (simp [go_sem, size_more]; omega))⟩
          have v1 : decide (x.From < 0) = false := by simp at u1 ⊢; omega
          cases u2 : decide (x.To ≤ x.From)
          rotate_left
          · go_wp2_with fail
            go_quiet (fail)
            go_wp2_with fail
            go_ret
            exact ⟨ret_bool (HF.out (by simp only [evBad, u1, u2]; simp)).symm, by repeat' (first | exact Below.refl _ _ | assumption | refine Below.more ?_ ?_ _ | refine Below.alloc ?_ ?_ _ | refine Below.drew ?_ | refine below_drewN ?_ _ | refine Below.setCell ?_ ?_ _ | exact Below.size (by assumption) | (simp [go_sem, size_more]; done) | (simp [go_sem, size_more]; omega))⟩
          cases u3 : decide (10000 < x.To)
          rotate_left
          · go_wp2_with fail
            go_quiet (fail)
            go_wp2_with fail
            go_ret
            exact ⟨ret_bool (HF.out (by simp only [evBad, u1, u2, u3]; simp)).symm, by repeat' (first | exact Below.refl _ _ | assumption | refine Below.more ?_ ?_ _ | refine Below.alloc ?_ ?_ _ | refine Below.drew ?_ | refine below_drewN ?_ _ | refine Below.setCell ?_ ?_ _ | exact Below.size (by assumption) | (simp [go_sem, size_more]; done) | (simp [go_sem, size_more]; omega))⟩
          cases u4 : decide (x.Peak < 1)
          rotate_left
          · go_wp2_with fail
            go_quiet (fail)
            go_wp2_with fail
            go_ret
            exact ⟨ret_bool (HF.out (by simp only [evBad, u1, u2, u3, u4]; simp)).symm, by repeat' (first | exact Below.refl _ _ | assumption | refine Below.more ?_ ?_ _ | refine Below.alloc ?_ ?_ _ | refine Below.drew ?_ | refine below_drewN ?_ _ | refine Below.setCell ?_ ?_ _ | exact Below.size (by assumption) | (simp [go_sem, size_more]; done) | (simp [go_sem, size_more]; omega))⟩
          cases u5 : decide (x.Total < x.Peak)
          rotate_left
          · go_wp2_with fail
            go_quiet (fail)
            go_wp2_with fail
            go_ret
            exact ⟨ret_bool (HF.out (by simp only [evBad, u1, u2, u3, u4, u5]; simp)).symm, by repeat' (first | exact Below.refl _ _ | assumption | refine Below.more ?_ ?_ _ | refine Below.alloc ?_ ?_ _ | refine Below.drew ?_ | refine below_drewN ?_ _ | refine Below.setCell ?_ ?_ _ | exact Below.size (by assumption) | (simp [go_sem, size_more]; done) | (simp [go_sem, size_more]; omega))⟩
          cases u6 : decide (1099511627776 < x.Total)
          rotate_left
          · go_wp2_with fail
            go_quiet (fail)
            go_wp2_with fail
            go_ret
            exact ⟨ret_bool (HF.out (by simp only [evBad, u1, u2, u3, u4, u5, u6]; simp)).symm, by repeat' (first | exact Below.refl _ _ | assumption | refine Below.more ?_ ?_ _ | refine Below.alloc ?_ ?_ _ | refine Below.drew ?_ | refine below_drewN ?_ _ | refine Below.setCell ?_ ?_ _ | exact Below.size (by assumption) | (simp [go_sem, size_more]; done) | (simp [go_sem, size_more]; omega))⟩
          have HB : Hid (evBad t x = false) := by show _ = _; simp only [evBad, u1, u2, u3, u4, u5, u6, Bool.or_false]
          have hto : 0 ≤ x.To := by simp at u1 u2; omega
          go_wp2_with fail
          go_quiet (fail)
          go_wp2_with fail
          go_roundw
          case measure => simp [intOf]; omega
          case rel => exact ⟨m + 1 + 1, x.To, by omega, by go_num, hto, by repeat' (first | exact Below.refl _ _ | assumption | refine Below.more ?_ ?_ _ | refine Below.alloc ?_ ?_ _ | refine Below.drew ?_ | refine below_drewN ?_ _ | refine Below.setCell ?_ ?_ _ | exact Below.size (by assumption) | (simp [go_sem, size_more]; done) | (simp [go_sem, size_more]; omega)), fun h => absurd h (by omega), fun h _ => by show x.To = xs[m + 1 + 1 - 1].To; rw [← HX.out]; rfl, HG.out HB.out⟩
      · go_wp2_with fail
        go_ret
        refine ⟨ret_bool ?_, hb⟩
        rw [hm.out, List.drop_eq_nil_of_le (by omega)]; rfl

end Go.Proofs.Ytdlaghjijfgncaa
