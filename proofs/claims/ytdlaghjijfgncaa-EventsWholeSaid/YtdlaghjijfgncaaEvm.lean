/- Ranks in the reference; Longest on both sides. Conditions: the slice reads as a list; the list is right. -/
import Derived.Test.YtdlaghjijfgncaaEvl
import Derived.Test.YtdlaghjijfgncaaEvp
namespace Go.Proofs.Ytdlaghjijfgncaa
open Go.RowKit
set_option linter.unusedVariables false
set_option linter.unusedSimpArgs false

structure EvR (x : Ev) : Prop where
  f0 : 0 ≤ x.From
  ft : x.From < x.To
  t1 : x.To ≤ 10000
  p1 : 1 ≤ x.Peak
  pt : x.Peak ≤ x.Total
  tt : x.Total ≤ 1099511627776
theorem validGo_all : ∀ {l : List Ev} {t : Int}, 0 ≤ t → validGo t l = true → ∀ x ∈ l, EvR x
  | [], _, _, _, x, hx => absurd hx (by simp)
  | y :: r, t, ht, h, x, hx => by
    simp only [validGo] at h
    cases hb : evBad t y
    · rw [hb] at h
      simp [evBad] at hb
      rcases List.mem_cons.1 hx with rfl | hx
      · exact ⟨by omega, by omega, by omega, by omega, by omega, by omega⟩
      · exact validGo_all (t := y.To) (by omega) (by simpa using h) x hx
    · rw [hb] at h; simp at h
theorem validM_all {l : List Ev} (h : validM l = true) : ∀ x ∈ l, EvR x := by
  unfold validM at h
  split at h
  · cases h
  · exact validGo_all (by omega) h

theorem rank_step (l : List Ev) (k : Int) (i : Nat) : (iota (i + 1)).countP (fun x => wRb l x k) + 1 = (iota i).countP (fun x => wRb l x k) + 1 + (if wRb l i k then 1 else 0) := by
  rw [iota_succ, List.countP_append]
  simp [List.countP_cons]
  omega

set_option maxRecDepth 100000 in
set_option maxHeartbeats 4000000 in
theorem r21rankOf_any (l : List Ev) (v : Value) (kn : Nat) (w : World) (hv : IsEvs w v l) (hl : l.length ≤ 1000) (hkn : kn < l.length) :
    Calls Try.prog 47 #[v, .int .i64 kn] w fun e w' => e = .returned (.int .i64 (rankN l kn)) ∧ Below w.heap.size w w' := by
  obtain ⟨a, cap, rfl, hcap, hbig, hs⟩ := hv
  have hk0 : (0 : Int) ≤ kn := by omega
  have hk1 : (kn : Int) < l.length := by omega
  have HD : Hid (rankN l kn = (iota l.length).countP (fun x => wRb l x kn) + 1) := rfl
  generalize rankN l kn = R at *
  go_enter Try.func47, Try.ntmps47
  go_wp2_with fail
  go_loopw [5, 6] (fun s5 s6 wr => ∃ i c : Nat, i ≤ l.length ∧ s6 = .int .i64 i ∧ s5 = .int .i64 c ∧ c ≤ i + 1 ∧ Below w.heap.size w wr ∧ Hid ((iota i).countP (fun x => wRb l x kn) + 1 = c)) (fun _ i _ => l.length - (intOf i).toNat)
  case atStart => exact ⟨0, 1, Nat.zero_le _, rfl, rfl, by omega, Below.refl _ _, by show _ = _; simp [iota]⟩
  case round =>
    as_aux_lemma =>
    obtain ⟨i, c, hi, rfl, rfl, hc, hb, hm⟩ := hrel
    by_cases hlt : i < l.length
    · obtain ⟨b, off, rfl, c1, c2, c3, c4⟩ := (hs.mono hb).ev i hlt
      have d3 := ((hs.mono hb).ev' kn hkn).2.2.1
      have HST := Lib.hid (rank_step l kn i)
      have e1 : totalAt l (i : Int) = l[i].Total := by simp [totalAt, hlt]
      have e2 : totalAt l (kn : Int) = l[kn].Total := by simp [totalAt, hkn]
      have HW : Hid (wRb l i kn = (decide (l[kn].Total < l[i].Total) || (decide (l[i].Total = l[kn].Total) && decide ((i : Int) < (kn : Int))))) := by
        show _ = _
        simp only [wRb, e1, e2]
      clear hs e1 e2 c1 c2 c4
      generalize l[i].Total = X at *
      generalize l[kn].Total = Y at *
      have x1 : IntKind.i64.wrap ((i : Int) + 1) = i + 1 := IntWalk.i64_in _ (by omega)
      have x2 : IntKind.i64.wrap ((c : Int) + 1) = c + 1 := IntWalk.i64_in _ (by omega)
      have i0 : (0 : Int) ≤ i := by omega
      have i1 : (i : Int) < l.length := by omega
      by_cases q1 : Y < X
      · have u1 := decide_eq_true q1
        have HB : Hid (wRb l i kn = true) := by show _ = _; rw [HW.out, u1]; rfl
        clear HW q1
        go_wp2_with fail
        go_quiet (fail)
        go_wp2_with fail
        go_roundw
        case measure => simp [intOf]; omega
        case rel => exact ⟨i + 1, c + 1, by omega, by go_num, by go_num, by omega, by repeat' (first | exact Below.refl _ _ | assumption | refine Below.more ?_ ?_ _ | refine Below.alloc ?_ ?_ _ | refine Below.drew ?_ | refine below_drewN ?_ _ | refine Below.setCell ?_ ?_ _ | exact Below.size (by assumption) | (simp [go_sem, size_more]; done) | (simp [go_sem, size_more]; omega)), HST.out.trans (by rw [hm.out, HB.out]; rfl)⟩
      have u1 := decide_eq_false q1
      by_cases q2 : X = Y
      · have u2 := beqT q2
        have D2 := Lib.hid (decide_eq_true q2)
        clear q2
        by_cases q3 : i < kn
        · have u3 : decide ((i : Int) < (kn : Int)) = true := decide_eq_true (by omega)
          have u4 : decide (i < kn) = true := decide_eq_true q3
          have HB : Hid (wRb l i kn = true) := by show _ = _; rw [HW.out, u1, D2.out, u3]; rfl
          clear HW q1
          go_wp2_with fail
          go_quiet (fail)
          go_wp2_with fail
          go_roundw
          case measure => simp [intOf]; omega
          case rel => exact ⟨i + 1, c + 1, by omega, by go_num, by go_num, by omega, by repeat' (first | exact Below.refl _ _ | assumption | refine Below.more ?_ ?_ _ | refine Below.alloc ?_ ?_ _ | refine Below.drew ?_ | refine below_drewN ?_ _ | refine Below.setCell ?_ ?_ _ | exact Below.size (by assumption) | (simp [go_sem, size_more]; done) | (simp [go_sem, size_more]; omega)), HST.out.trans (by rw [hm.out, HB.out]; rfl)⟩
        · have u3 : decide ((i : Int) < (kn : Int)) = false := decide_eq_false (by omega)
          have u4 : decide (i < kn) = false := decide_eq_false q3
          have HB : Hid (wRb l i kn = false) := by show _ = _; rw [HW.out, u1, D2.out, u3]; rfl
          clear HW q1
          go_wp2_with fail
          go_quiet (fail)
          go_wp2_with fail
          go_roundw
          case measure => simp [intOf]; omega
          case rel => exact ⟨i + 1, c, by omega, by go_num, rfl, by omega, by repeat' (first | exact Below.refl _ _ | assumption | refine Below.more ?_ ?_ _ | refine Below.alloc ?_ ?_ _ | refine Below.drew ?_ | refine below_drewN ?_ _ | refine Below.setCell ?_ ?_ _ | exact Below.size (by assumption) | (simp [go_sem, size_more]; done) | (simp [go_sem, size_more]; omega)), HST.out.trans (by rw [hm.out, HB.out]; rfl)⟩
      · have u2 := beqF q2
        have D2 := Lib.hid (decide_eq_false q2)
        have HB : Hid (wRb l i kn = false) := by show _ = _; rw [HW.out, u1, D2.out]; rfl
        clear HW q1 q2
        go_wp2_with fail
        go_quiet (fail)
        go_wp2_with fail
        go_roundw
        case measure => simp [intOf]; omega
        case rel => exact ⟨i + 1, c, by omega, by go_num, rfl, by omega, by repeat' (first | exact Below.refl _ _ | assumption | refine Below.more ?_ ?_ _ | refine Below.alloc ?_ ?_ _ | refine Below.drew ?_ | refine below_drewN ?_ _ | refine Below.setCell ?_ ?_ _ | exact Below.size (by assumption) | (simp [go_sem, size_more]; done) | (simp [go_sem, size_more]; omega)), HST.out.trans (by rw [hm.out, HB.out]; rfl)⟩
    · obtain rfl : i = l.length := by omega
      go_wp2_with fail
      go_ret
      exact ⟨ret_int (by rw [HD.out, hm.out]), hb⟩

set_option maxRecDepth 100000 in
set_option maxHeartbeats 4000000 in
theorem r21rank_any (l : List Ev) (v : Value) (S : List Int) (w : World) (hv : IsEvs w v l) (hl : l.length ≤ 1000) (hS : SortedOf (wR l) (iota l.length) S) :
    Calls Try.prog 21 #[v] w fun e w' => (∃ v', e = .returned v' ∧ Own w.heap.size 3 eInt 1 w' v' S) ∧ Below w.heap.size w w' := by
  obtain ⟨a, cap, rfl, hcap, hbig, hs⟩ := hv
  have hv : IsEvs w (.slice a l.length cap) l := ⟨a, cap, rfl, hcap, hbig, hs⟩
  clear hs
  have hSl := sorted_len hS
  have HSL := Lib.hid hSl
  clear hSl
  have HSS := Lib.hid hS
  clear hS
  go_enter Try.func21, Try.ntmps21
  go_wp2_with (refine wpList_mk _ rfl _ _ 22 rfl w.heap.size 3 _ 8 undInts infInt eInt 0 rfl rfl _ _ l.length rfl rfl rfl rfl (by omega) (by omega) (Nat.le_refl _) ?_; intro w2 hown hb2 hlt2)
  go_loopw [4] (fun s4 wr => ∃ (i : Nat) (ys : List Int), s4 = .int .i64 i ∧ i ≤ l.length ∧ Own w.heap.size 3 eInt 1 wr (.slice (some ⟨w.heap.size, 0, none⟩) l.length l.length) ys ∧ Below w.heap.size w wr ∧
    Hid (∀ j (h : j < S.length), S[j] < i → ys[j]? = some S[j])) (fun i _ => l.length - (intOf i).toNat)
  case atStart => exact ⟨0, _, rfl, by omega, hown, hb2, fun j h h1 => by have := (sorted_bd HSS.out j h).1; omega⟩
  case round =>
    as_aux_lemma =>
    obtain ⟨i, ys, rfl, hi, hown, hb, hm⟩ := hrel
    have hyl := hown.len
    by_cases hlt : i < l.length
    · obtain ⟨j0, hj0, ej⟩ := sorted_at HSS.out i hlt
      have hrk := rank_pos HSS.out j0 hj0
      rw [ej] at hrk
      have hjl : j0 < l.length := by have := HSL.out; omega
      have c1 := hown.int j0 (by omega)
      have HY := Lib.hid hyl
      have HRK := Lib.hid hrk
      have HEJ := Lib.hid ej
      have hlj : j0 < 1000 := by omega
      clear hyl hrk ej
      have x1 : IntKind.i64.wrap ((i : Int) + 1) = i + 1 := IntWalk.i64_in _ (by omega)
      have x2 : IntKind.i64.wrap (((j0 + 1 : Nat) : Int) - 1) = j0 := IntWalk.i64_in _ (by omega) |>.trans (by omega)
      have y0 : (0 : Int) ≤ j0 := by omega
      have y1 : (j0 : Int) < l.length := by omega
      go_wp2_with fail
      refine Calls.to (r21rankOf_any l _ i wr (hv.mono hb) hl hlt) ?_
      rintro e w3 rfl hb3
      rw [HRK.out]
      have hown := hown.below hb3
      have hb := hb.trans (hb3.mono hb.size)
      have c1 := box_lt c1 hb3
      have f1 := hown.free j0
      clear hb3
      go_wp2_with fail
      go_roundw
      case measure => simp [intOf]; omega
      case rel =>
        refine ⟨i + 1, _, by go_num, by omega, hown.setInt j0 (by have := HY.out; omega) i, by repeat' (first | exact Below.refl _ _ | assumption | refine Below.more ?_ ?_ _ | refine Below.alloc ?_ ?_ _ | refine Below.drew ?_ | refine below_drewN ?_ _ | refine Below.setCell ?_ ?_ _ | exact Below.size (by assumption) | (simp [go_sem, size_more]; done) | (simp [go_sem, size_more]; omega)), ?_⟩
        intro j h h1
        by_cases hjj : j = j0
        · subst hjj
          rw [List.getElem?_set_self (by have := HY.out; have := HSL.out; omega), HEJ.out]
        · rw [List.getElem?_set_ne (by omega)]
          refine hm.out j h ?_
          have hne : S[j] ≠ (i : Int) := by
            intro h2
            have h3 := rank_pos HSS.out j h
            have h4 := HRK.out
            rw [h2] at h3
            omega
          omega
    · obtain rfl : i = l.length := by omega
      have hys : ys = S := by
        apply List.ext_getElem?
        intro j
        by_cases hj : j < S.length
        · rw [hm.out j hj (sorted_bd HSS.out j hj).2, List.getElem?_eq_getElem hj]
        · rw [List.getElem?_eq_none (by have := HSL.out; omega), List.getElem?_eq_none (by omega)]
      subst hys
      clear hyl
      go_wp2_with fail
      go_ret
      exact ⟨⟨_, rfl, hown⟩, hb⟩

end Go.Proofs.Ytdlaghjijfgncaa
