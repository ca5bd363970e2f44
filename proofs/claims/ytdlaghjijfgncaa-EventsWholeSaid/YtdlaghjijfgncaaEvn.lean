/- Longest on both sides; Period of the reference. Conditions: the list is right. -/
import Derived.Test.YtdlaghjijfgncaaEvm
namespace Go.Proofs.Ytdlaghjijfgncaa
open Go.RowKit
set_option linter.unusedVariables false
set_option linter.unusedSimpArgs false

def spanOf (l : List Ev) (j : Nat) : Int := (l.getD j default).To - (l.getD j default).From
/-- The first longest of the first i events. -/
def longTo (l : List Ev) : Nat → Nat
  | 0 => 0
  | i + 1 => if spanOf l (longTo l i) < spanOf l i then i else longTo l i
theorem longTo_lt (l : List Ev) : ∀ i, i ≤ l.length → 0 < l.length → longTo l i < l.length
  | 0, _, h => h
  | i + 1, hi, h => by
    simp only [longTo]
    split
    · omega
    · exact longTo_lt l i (by omega) h
theorem spanOf_at {l : List Ev} {j : Nat} (h : j < l.length) : spanOf l j = l[j].To - l[j].From := by simp [spanOf, List.getD, List.getElem?_eq_getElem h]

set_option maxRecDepth 100000 in
set_option maxHeartbeats 4000000 in
theorem r21longest_any (l : List Ev) (v : Value) (w : World) (hv : IsEvs w v l) (hl : l.length ≤ 1000) (hall : ∀ x ∈ l, EvR x) (h0 : 0 < l.length) :
    Calls Try.prog 23 #[v] w fun e w' => e = .returned (.int .i64 (longTo l l.length)) ∧ Below w.heap.size w w' := by
  obtain ⟨a, cap, rfl, hcap, hbig, hs⟩ := hv
  go_enter Try.func23, Try.ntmps23
  go_wp2_with fail
  go_loopw [3, 4] (fun s3 s4 wr => ∃ i : Nat, i ≤ l.length ∧ s4 = .int .i64 i ∧ s3 = .int .i64 (longTo l i) ∧ Below w.heap.size w wr) (fun _ i _ => l.length - (intOf i).toNat)
  case atStart => exact ⟨0, Nat.zero_le _, rfl, rfl, Below.refl _ _⟩
  case round =>
    as_aux_lemma =>
    obtain ⟨i, hi, rfl, rfl, hb⟩ := hrel
    have hbl := longTo_lt l i hi h0
    by_cases hlt : i < l.length
    · obtain ⟨b, off, rfl, c1, c2, c3, c4⟩ := (hs.mono hb).ev i hlt
      have d := (hs.mono hb).ev' (longTo l i) hbl
      obtain ⟨d1, d2, _, _⟩ := d
      obtain ⟨v1, v2, v3, _, _, _⟩ := hall _ (List.getElem_mem hlt)
      obtain ⟨z1, z2, z3, _, _, _⟩ := hall _ (List.getElem_mem hbl)
      have x1 : IntKind.i64.wrap ((i : Int) + 1) = i + 1 := IntWalk.i64_in _ (by omega)
      have i0 : (0 : Int) ≤ i := by omega
      have i1 : (i : Int) < l.length := by omega
      have b0 : (0 : Int) ≤ (longTo l i : Int) := by omega
      have b1 : (longTo l i : Int) < l.length := by omega
      have HBV : Hid (longTo l (i + 1) = if spanOf l (longTo l i) < spanOf l i then i else longTo l i) := rfl
      have HS1 := Lib.hid (spanOf_at hlt)
      have HS2 := Lib.hid (spanOf_at hbl)
      generalize hB : longTo l i = bst at *
      have x2 : IntKind.i64.wrap (l[i].To - l[i].From) = l[i].To - l[i].From := IntWalk.i64_in _ (by omega)
      have x3 : IntKind.i64.wrap (l[bst].To - l[bst].From) = l[bst].To - l[bst].From := IntWalk.i64_in _ (by omega)
      clear hs hall
      generalize l[i] = x at *
      generalize l[bst] = y at *
      clear c3 c4 hB
      by_cases q : y.To - y.From < x.To - x.From
      · have u := decide_eq_true q
        have HR : Hid (longTo l (i + 1) = i) := by show _ = _; rw [HBV.out, HS1.out, HS2.out, if_pos q]
        clear q
        go_wp2_with fail
        go_quiet (fail)
        go_wp2_with fail
        go_roundw
        case measure => simp [intOf]; omega
        case rel => exact ⟨i + 1, by omega, by go_num, by rw [HR.out], by repeat' (first | exact Below.refl _ _ | assumption | refine Below.more ?_ ?_ _ | refine Below.alloc ?_ ?_ _ | refine Below.drew ?_ | refine below_drewN ?_ _ | refine Below.setCell ?_ ?_ _ | exact Below.size (by assumption) | (simp [go_sem, size_more]; done) | (simp [go_sem, size_more]; omega))⟩
      · have u := decide_eq_false q
        have HR : Hid (longTo l (i + 1) = bst) := by show _ = _; rw [HBV.out, HS1.out, HS2.out, if_neg q]
        clear q
        go_wp2_with fail
        go_quiet (fail)
        go_wp2_with fail
        go_roundw
        case measure => simp [intOf]; omega
        case rel => exact ⟨i + 1, by omega, by go_num, by rw [HR.out], by repeat' (first | exact Below.refl _ _ | assumption | refine Below.more ?_ ?_ _ | refine Below.alloc ?_ ?_ _ | refine Below.drew ?_ | refine below_drewN ?_ _ | refine Below.setCell ?_ ?_ _ | exact Below.size (by assumption) | (simp [go_sem, size_more]; done) | (simp [go_sem, size_more]; omega))⟩
    · obtain rfl : i = l.length := by omega
      go_wp2_with fail
      go_ret
      exact ⟨rfl, hb⟩

def longM (l : List Ev) : Int × Int := if validM l = false then (0, 1) else if l.length = 0 then (0, 14) else ((longTo l l.length : Int), 0)

set_option maxRecDepth 100000 in
set_option maxHeartbeats 4000000 in
theorem longest_any (l : List Ev) (v : Value) (w : World) (hv : IsEvs w v l) :
    Calls Try.prog 18 #[v] w fun e w' => e = .returned (.tuple #[.int .i64 (longM l).1, .int .i64 (longM l).2]) ∧ Below w.heap.size w w' := by
  cases hr : validM l
  · rw [show longM l = (0, 1) from by simp only [longM, hr, if_true]]
    go_enter Try.func18, Try.ntmps18
    go_wp2_with fail
    refine Calls.to (evalid_any l _ _ hv) ?_
    rintro e w1 rfl hb1
    rw [hr]
    go_wp2_with fail
    go_ret2
    exact ⟨rfl, hb1⟩
  have HR0 := Lib.hid hr
  have hl := validM_len hr
  have hall := validM_all hr
  obtain ⟨a, cap, rfl, hcap, hbig, hs⟩ := hv
  have hv : IsEvs w (.slice a l.length cap) l := ⟨a, cap, rfl, hcap, hbig, hs⟩
  by_cases q5 : l.length = 0
  · rw [show longM l = (0, 14) from by simp only [longM, hr, q5, if_true]; simp]
    have u5 : ((l.length : Int) == 0) = true := by rw [q5]; rfl
    clear q5
    go_enter Try.func18, Try.ntmps18
    go_wp2_with fail
    refine Calls.to (evalid_any l _ _ hv) ?_
    rintro e w1 rfl hb1
    rw [HR0.out]
    go_wp2_with fail
    go_ret2
    exact ⟨rfl, hb1⟩
  have u5 : ((l.length : Int) == 0) = false := by rw [beq_eq_false_iff_ne]; omega
  have h0 : 0 < l.length := by omega
  rw [show longM l = ((longTo l l.length : Int), 0) from by simp only [longM, hr, q5, if_false]; simp]
  clear hr
  go_enter Try.func18, Try.ntmps18
  go_wp2_with fail
  refine Calls.to (evalid_any l _ _ hv) ?_
  rintro e w1 rfl hb1
  rw [HR0.out]
  clear q5 hv
  go_wp2_with fail
  go_loopw [4, 17] (fun s3 s4 wr => ∃ i : Nat, i ≤ l.length ∧ s4 = .int .i64 i ∧ s3 = .int .i64 (longTo l i) ∧ Below w.heap.size w wr) (fun _ i _ => l.length - (intOf i).toNat)
  case atStart => exact ⟨0, Nat.zero_le _, rfl, rfl, hb1⟩
  case round =>
    as_aux_lemma =>
    obtain ⟨i, hi, rfl, rfl, hb⟩ := hrel
    have hbl := longTo_lt l i hi h0
    by_cases hlt : i < l.length
    · obtain ⟨b, off, rfl, c1, c2, c3, c4⟩ := (hs.mono hb).ev i hlt
      have d := (hs.mono hb).ev' (longTo l i) hbl
      obtain ⟨d1, d2, _, _⟩ := d
      obtain ⟨v1, v2, v3, _, _, _⟩ := hall _ (List.getElem_mem hlt)
      obtain ⟨z1, z2, z3, _, _, _⟩ := hall _ (List.getElem_mem hbl)
      have x1 : IntKind.i64.wrap ((i : Int) + 1) = i + 1 := IntWalk.i64_in _ (by omega)
      have i0 : (0 : Int) ≤ i := by omega
      have i1 : (i : Int) < l.length := by omega
      have b0 : (0 : Int) ≤ (longTo l i : Int) := by omega
      have b1 : (longTo l i : Int) < l.length := by omega
      have HBV : Hid (longTo l (i + 1) = if spanOf l (longTo l i) < spanOf l i then i else longTo l i) := rfl
      have HS1 := Lib.hid (spanOf_at hlt)
      have HS2 := Lib.hid (spanOf_at hbl)
      generalize hB : longTo l i = bst at *
      have x2 : IntKind.i64.wrap (l[i].To - l[i].From) = l[i].To - l[i].From := IntWalk.i64_in _ (by omega)
      have x3 : IntKind.i64.wrap (l[bst].To - l[bst].From) = l[bst].To - l[bst].From := IntWalk.i64_in _ (by omega)
      clear hs hall
      generalize l[i] = x at *
      generalize l[bst] = y at *
      clear hB
      have hbA : Below w.heap.size w (wr.alloc (.cells #[.int .i64 x.From, .int .i64 x.To, .int .i64 x.Total, .int .i64 x.Peak] 34)) := hb.alloc hb.size _
      by_cases q : y.To - y.From < x.To - x.From
      · have u := decide_eq_true q
        have HR : Hid (longTo l (i + 1) = i) := by show _ = _; rw [HBV.out, HS1.out, HS2.out, if_pos q]
        clear q
        go_wp2_with fail
        go_quiet (fail)
        go_wp2_with fail
        go_roundw
        case measure => simp [intOf]; omega
        case rel => exact ⟨i + 1, by omega, by go_num, by rw [HR.out], by repeat' (first | exact Below.refl _ _ | assumption | refine Below.more ?_ ?_ _ | refine Below.alloc ?_ ?_ _ | refine Below.drew ?_ | refine below_drewN ?_ _ | refine Below.setCell ?_ ?_ _ | exact Below.size (by assumption) | (simp [go_sem, size_more]; done) | (simp [go_sem, size_more]; omega))⟩
      · have u := decide_eq_false q
        have HR : Hid (longTo l (i + 1) = bst) := by show _ = _; rw [HBV.out, HS1.out, HS2.out, if_neg q]
        clear q
        go_wp2_with fail
        go_quiet (fail)
        go_wp2_with fail
        go_roundw
        case measure => simp [intOf]; omega
        case rel => exact ⟨i + 1, by omega, by go_num, by rw [HR.out], by repeat' (first | exact Below.refl _ _ | assumption | refine Below.more ?_ ?_ _ | refine Below.alloc ?_ ?_ _ | refine Below.drew ?_ | refine below_drewN ?_ _ | refine Below.setCell ?_ ?_ _ | exact Below.size (by assumption) | (simp [go_sem, size_more]; done) | (simp [go_sem, size_more]; omega))⟩
    · obtain rfl : i = l.length := by omega
      go_wp2_with fail
      go_ret2
      exact ⟨rfl, hb⟩

end Go.Proofs.Ytdlaghjijfgncaa
