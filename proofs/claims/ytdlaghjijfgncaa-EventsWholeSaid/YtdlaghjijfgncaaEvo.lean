/- Dry and Over, on both sides. Conditions: the record reads as data. -/
import Derived.Test.YtdlaghjijfgncaaEvd
namespace Go.Proofs.Ytdlaghjijfgncaa
open Go.RowKit
set_option linter.unusedVariables false
set_option linter.unusedSimpArgs false

theorem serB_len' {F S : Int} {ds : List Int} (h : serB F S ds = true) : ds.length ≤ 10000 := by
  simp only [serB, Bool.and_eq_true, decide_eq_true_eq] at h
  have := h.1.1.2
  omega

def overN (depth : Int) (ds : List Int) : Nat := (ds.filter fun d => decide (depth < d)).length
theorem overN_le (depth : Int) (ds : List Int) : overN depth ds ≤ ds.length := List.length_filter_le _ _
theorem overN_step {depth : Int} {ds : List Int} {k : Nat} (h : k < ds.length) : overN depth (ds.take (k + 1)) = overN depth (ds.take k) + (if depth < ds[k] then 1 else 0) := by
  unfold overN
  rw [List.take_succ_eq_append_getElem h, List.filter_append, List.length_append]
  congr 1
  by_cases hh : depth < ds[k] <;> simp [hh]

set_option maxHeartbeats 1000000 in
theorem r21over_any (ds : List Int) (v : Value) (depth : Int) (w : World) (hv : IsInts w v ds) (hlen : ds.length ≤ 1000000) :
    Calls Try.prog 37 #[v, .int .i64 depth] w fun e w' => e = .returned (.int .i64 (overN depth ds)) ∧ Below w.heap.size w w' := by
  obtain ⟨a, cap, rfl, hcap, hbig, hs⟩ := hv
  go_enter Try.func37, Try.ntmps37
  go_wp2_with fail
  go_loopw [5, 6] (fun s5 s6 wr => ∃ (k c : Nat), k ≤ ds.length ∧ s6 = .int .i64 k ∧ s5 = .int .i64 c ∧ Below w.heap.size w wr ∧ Hid (overN depth (ds.take k) = c)) (fun _ i _ => ds.length - (intOf i).toNat)
  case atStart => exact ⟨0, 0, Nat.zero_le _, rfl, rfl, Below.refl _ _, by show _ = _; simp [overN]⟩
  case round =>
    obtain ⟨k, c, hk, rfl, rfl, hb, hm⟩ := hrel
    have hc : c ≤ k := by
      have := overN_le depth (ds.take k)
      rw [hm.out, List.length_take] at this
      omega
    by_cases hlt : k < ds.length
    · obtain ⟨b, off, rfl, c0⟩ := (hs.mono hb).int k hlt
      have hst := overN_step (depth := depth) hlt
      rw [hm.out] at hst
      have HST := Lib.hid hst
      clear hs hst
      generalize ds[k] = y at *
      have x1 : IntKind.i64.wrap ((k : Int) + 1) = k + 1 := IntWalk.i64_in _ (by omega)
      have x2 : IntKind.i64.wrap ((c : Int) + 1) = c + 1 := IntWalk.i64_in _ (by omega)
      by_cases hq : depth < y
      · have u := decide_eq_true hq
        go_wp2_with fail
        go_roundw
        case rel => exact ⟨k + 1, c + 1, by omega, by go_num, by go_num, hb, HST.out.trans (by rw [if_pos hq])⟩
        case measure => simp [intOf]; omega
      · have u := decide_eq_false hq
        go_wp2_with fail
        go_roundw
        case rel => exact ⟨k + 1, c, by omega, by go_num, rfl, hb, HST.out.trans (by rw [if_neg hq]; rfl)⟩
        case measure => simp [intOf]; omega
    · rw [List.take_of_length_le (by omega)] at hm
      go_wp2_with fail
      go_ret
      exact ⟨ret_int (by rw [hm.out]), hb⟩

def overM (s : Ser) (depth : Int) : Int × Int :=
  if serB s.From s.Step s.Ds.xs = false then (0, 1) else if depth < 0 ∨ 4194304 < depth then (0, 2) else ((overN depth s.Ds.xs : Int), 0)

set_option maxRecDepth 100000 in
set_option maxHeartbeats 4000000 in
theorem over_any (s : Ser) (depth : Int) (w : World) (hv : IsInts w (vSl s.Ds) s.Ds.xs) :
    Calls Try.prog 32 #[vSer s, .int .i64 depth] w fun e w' => e = .returned (.tuple #[.int .i64 (overM s depth).1, .int .i64 (overM s depth).2]) ∧ Below w.heap.size w w' := by
  have hb0 : Below w.heap.size w (w.alloc (.cells (eSer s).toArray 24)) := (Below.refl _ _).alloc (Nat.le_refl _) _
  cases hr : serB s.From s.Step s.Ds.xs
  · rw [show overM s depth = (0, 1) from by simp only [overM, hr, if_true]]
    have HX := Lib.hid hr
    go_enter Try.func32, Try.ntmps32
    go_wp2_with fail
    refine Calls.to (gvalid_any s _ (hv.mono hb0)) ?_
    rintro e w1 rfl hb1
    have hbw := hb0.trans (hb1.mono hb0.size)
    obtain ⟨e0, e1, e2⟩ := boxSer w w1 24 s _ rfl _ rfl (by simpa using hb1)
    rw [HX.out]
    clear hb1
    go_wp2_with fail
    go_ret2
    exact ⟨rfl, hbw⟩
  have HX := Lib.hid hr
  by_cases q1 : depth < 0
  · rw [show overM s depth = (0, 2) from by simp only [overM, hr, q1, true_or, if_true]; simp]
    have u1 : decide (depth < 0) = true := decide_eq_true q1
    go_enter Try.func32, Try.ntmps32
    go_wp2_with fail
    refine Calls.to (gvalid_any s _ (hv.mono hb0)) ?_
    rintro e w1 rfl hb1
    have hbw := hb0.trans (hb1.mono hb0.size)
    obtain ⟨e0, e1, e2⟩ := boxSer w w1 24 s _ rfl _ rfl (by simpa using hb1)
    rw [HX.out]
    clear hb1
    go_wp2_with fail
    go_ret2
    exact ⟨rfl, hbw⟩
  have u1 : decide (depth < 0) = false := decide_eq_false q1
  by_cases q2 : 4194304 < depth
  · rw [show overM s depth = (0, 2) from by simp only [overM, hr, q2, or_true, if_true]; simp]
    have u2 : decide (4194304 < depth) = true := decide_eq_true q2
    go_enter Try.func32, Try.ntmps32
    go_wp2_with fail
    refine Calls.to (gvalid_any s _ (hv.mono hb0)) ?_
    rintro e w1 rfl hb1
    have hbw := hb0.trans (hb1.mono hb0.size)
    obtain ⟨e0, e1, e2⟩ := boxSer w w1 24 s _ rfl _ rfl (by simpa using hb1)
    rw [HX.out]
    clear hb1
    go_wp2_with fail
    go_ret2
    exact ⟨rfl, hbw⟩
  have u2 : decide (4194304 < depth) = false := decide_eq_false q2
  rw [show overM s depth = ((overN depth s.Ds.xs : Int), 0) from by simp only [overM, hr, q1, q2, or_self, if_false]; simp]
  have hlen := serB_len' hr
  have hs : IsC eInt 1 w s.Ds.a s.Ds.xs := by
    obtain ⟨a0, c0, ea, _, _, h⟩ := hv
    simp only [vSl, Value.slice.injEq] at ea
    rw [ea.1]; exact h
  clear hr q1 q2
  go_enter Try.func32, Try.ntmps32
  go_wp2_with fail
  refine Calls.to (gvalid_any s _ (hv.mono hb0)) ?_
  rintro e w1 rfl hb1
  have hbw := hb0.trans (hb1.mono hb0.size)
  obtain ⟨e0, e1, e2⟩ := boxSer w w1 24 s _ rfl _ rfl (by simpa using hb1)
  rw [HX.out]
  clear hb1
  clear hv
  go_wp2_with fail
  go_loopw [6, 23] (fun s6 s23 wr => ∃ (k c : Nat), k ≤ s.Ds.xs.length ∧ s23 = .int .i64 k ∧ s6 = .int .i64 c ∧ Below w.heap.size w wr ∧ Hid (overN depth (s.Ds.xs.take k) = c)) (fun _ i _ => s.Ds.xs.length - (intOf i).toNat)
  case atStart => exact ⟨0, 0, Nat.zero_le _, rfl, rfl, hbw, by show _ = _; simp [overN]⟩
  case round =>
    obtain ⟨k, c, hk, rfl, rfl, hb, hm⟩ := hrel
    have hc : c ≤ k := by
      have := overN_le depth (s.Ds.xs.take k)
      rw [hm.out, List.length_take] at this
      omega
    by_cases hlt : k < s.Ds.xs.length
    · obtain ⟨b, off, ea, c0⟩ := (hs.mono hb).int k hlt
      have hst := overN_step (depth := depth) hlt
      rw [hm.out] at hst
      have HST := Lib.hid hst
      clear hs hst e2
      rw [ea]
      generalize s.Ds.xs[k] = y at *
      have x1 : IntKind.i64.wrap ((k : Int) + 1) = k + 1 := IntWalk.i64_in _ (by omega)
      have x2 : IntKind.i64.wrap ((c : Int) + 1) = c + 1 := IntWalk.i64_in _ (by omega)
      by_cases hq : depth < y
      · have u := decide_eq_true hq
        go_wp2_with fail
        go_roundw
        case rel => exact ⟨k + 1, c + 1, by omega, by go_num, by go_num, hb, HST.out.trans (by rw [if_pos hq])⟩
        case measure => simp [intOf]; omega
      · have u := decide_eq_false hq
        go_wp2_with fail
        go_roundw
        case rel => exact ⟨k + 1, c, by omega, by go_num, rfl, hb, HST.out.trans (by rw [if_neg hq]; rfl)⟩
        case measure => simp [intOf]; omega
    · rw [List.take_of_length_le (by omega)] at hm
      go_wp2_with fail
      go_ret2
      exact ⟨by rw [hm.out]; rfl, hb⟩

end Go.Proofs.Ytdlaghjijfgncaa
