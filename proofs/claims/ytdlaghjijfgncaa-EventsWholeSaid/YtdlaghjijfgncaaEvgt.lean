/- gauge.Total; dryOf. Conditions: the record reads as data; the spans lie in a record. -/
import Derived.Test.YtdlaghjijfgncaaEvt
namespace Go.Proofs.Ytdlaghjijfgncaa
open Go.RowKit
set_option linter.unusedVariables false
set_option linter.unusedSimpArgs false

def wetS (d : Int) : Int := if d < 0 then 0 else d
def sumS : List Int → Int
  | [] => 0
  | d :: r => wetS d + sumS r
theorem wetS_bd {d : Int} (h : d ≤ 4194304) : 0 ≤ wetS d ∧ wetS d ≤ 4194304 := by unfold wetS; split <;> omega
def missN (ds : List Int) : Nat := (ds.filter fun d => decide (d = -1)).length
theorem depth_any (d : Int) (w : World) : Calls Try.prog 42 #[.int .i64 d] w fun e w' => e = .returned (.int .i64 (wetS d)) ∧ w' = w := by
  unfold wetS
  by_cases h : d < 0
  · rw [if_pos h]
    go_enter Try.func42, Try.ntmps42
    go_wp2_with fail
    go_ret
    exact ⟨rfl, rfl⟩
  · rw [if_neg h]
    go_enter Try.func42, Try.ntmps42
    go_wp2_with fail
    go_ret
    exact ⟨rfl, rfl⟩

theorem sumS_step (ds : List Int) (k : Nat) (h : k < ds.length) : sumS (ds.take (k + 1)) = sumS (ds.take k) + wetS ds[k] := by
  have happ : ∀ (a b : List Int), sumS (a ++ b) = sumS a + sumS b := by
    intro a b
    induction a with
    | nil => simp [sumS]
    | cons x r ih => simp only [List.cons_append, sumS, ih]; omega
  rw [List.take_succ_eq_append_getElem h, happ]
  simp [sumS]
theorem missN_step (ds : List Int) (k : Nat) (h : k < ds.length) : missN (ds.take (k + 1)) = missN (ds.take k) + (if ds[k] = -1 then 1 else 0) := by
  unfold missN
  rw [List.take_succ_eq_append_getElem h, List.filter_append, List.length_append]
  congr 1
  by_cases hh : ds[k] = -1 <;> simp [hh]

def totM (s : Ser) : (Int × Int) × Int := if serB s.From s.Step s.Ds.xs = false then ((0, 0), 1) else ((sumS s.Ds.xs, (missN s.Ds.xs : Int)), 0)

set_option maxRecDepth 100000 in
set_option maxHeartbeats 4000000 in
theorem total_any (s : Ser) (w : World) (hv : IsInts w (vSl s.Ds) s.Ds.xs) :
    Calls Try.prog 14 #[vSer s] w fun e w' => e = .returned (.tuple #[.int .i64 (totM s).1.1, .int .i64 (totM s).1.2, .int .i64 (totM s).2]) ∧ Below w.heap.size w w' := by
  have hb0 : Below w.heap.size w (w.alloc (.cells (eSer s).toArray 24)) := (Below.refl _ _).alloc (Nat.le_refl _) _
  cases hr : serB s.From s.Step s.Ds.xs
  · rw [show totM s = ((0, 0), 1) from by simp only [totM, hr, if_true]]
    have HX := Lib.hid hr
    go_enter Try.func14, Try.ntmps14
    go_wp2_with fail
    refine Calls.to (gvalid_any s _ (hv.mono hb0)) ?_
    rintro e w1 rfl hb1
    have hbw := hb0.trans (hb1.mono hb0.size)
    obtain ⟨e0, e1, e2⟩ := boxSer w w1 24 s _ rfl _ rfl (by simpa using hb1)
    rw [HX.out]
    clear hb1
    go_wp2_with fail
    go_ret3
    exact ⟨rfl, hbw⟩
  have HX := Lib.hid hr
  rw [show totM s = ((sumS s.Ds.xs, (missN s.Ds.xs : Int)), 0) from by simp only [totM, hr]; simp]
  have hlen := serB_len hr
  have hdb := serB_dep hr
  have hs : IsC eInt 1 w s.Ds.a s.Ds.xs := by
    obtain ⟨a0, c0, ea, _, _, h⟩ := hv
    simp only [vSl, Value.slice.injEq] at ea
    rw [ea.1]; exact h
  clear hr
  go_enter Try.func14, Try.ntmps14
  go_wp2_with fail
  refine Calls.to (gvalid_any s _ (hv.mono hb0)) ?_
  rintro e w1 rfl hb1
  have hbw := hb0.trans (hb1.mono hb0.size)
  obtain ⟨e0, e1, e2⟩ := boxSer w w1 24 s _ rfl _ rfl (by simpa using hb1)
  rw [HX.out]
  clear hb1
  clear hv e0 e1
  go_wp2_with fail
  go_loopw [5, 6, 15] (fun s5 s6 s15 wr => ∃ (k c : Nat) (t : Int), k ≤ s.Ds.xs.length ∧ s15 = .int .i64 k ∧ s6 = .int .i64 c ∧ s5 = .int .i64 t ∧ 0 ≤ t ∧ t ≤ 4194304 * (k : Int) ∧ c ≤ k ∧ Below w.heap.size w wr ∧ Hid (sumS (s.Ds.xs.take k) = t) ∧ Hid (missN (s.Ds.xs.take k) = c)) (fun _ _ i _ => s.Ds.xs.length - (intOf i).toNat)
  case atStart => exact ⟨0, 0, 0, Nat.zero_le _, rfl, rfl, rfl, by omega, by omega, by omega, hbw, by show _ = _; simp [sumS], by show _ = _; simp [missN]⟩
  case round =>
    obtain ⟨k, c, t, hk, rfl, rfl, rfl, t0, t1, hc, hb, hm, hn⟩ := hrel
    by_cases hlt : k < s.Ds.xs.length
    · obtain ⟨b, off, ea, c0⟩ := (hs.mono hb).int k hlt
      have HS1 := Lib.hid (sumS_step s.Ds.xs k hlt)
      have HS2 := Lib.hid (missN_step s.Ds.xs k hlt)
      have hw := wetS_bd (hdb k hlt).2
      clear hs e2 hdb
      rw [ea]
      generalize s.Ds.xs[k] = y at *
      have x1 : IntKind.i64.wrap ((k : Int) + 1) = k + 1 := IntWalk.i64_in _ (by omega)
      have x2 : IntKind.i64.wrap ((c : Int) + 1) = c + 1 := IntWalk.i64_in _ (by omega)
      have x3 : IntKind.i64.wrap (t + wetS y) = t + wetS y := IntWalk.i64_in _ (by omega)
      have HD := fun W => depth_any y W
      generalize wetS y = z at *
      by_cases q : y = -1
      · have u := (beq_iff_eq.2 q : (y == -1) = true)
        have HQ := Lib.hid q
        clear q
        go_wp2_with (go_at_call 42; refine (HD _).mono ?_; rintro e w' ⟨rfl, rfl⟩)
        go_roundw
        case rel => exact ⟨k + 1, c + 1, t + z, by omega, by go_num, by go_num, rfl, by omega, by omega, by omega, hb, HS1.out.trans (by rw [hm.out]), HS2.out.trans (by rw [hn.out, if_pos HQ.out])⟩
        case measure => simp [intOf]; omega
      · have u := (beq_eq_false_iff_ne.2 q : (y == -1) = false)
        have HQ := Lib.hid q
        clear q
        go_wp2_with (go_at_call 42; refine (HD _).mono ?_; rintro e w' ⟨rfl, rfl⟩)
        go_roundw
        case rel => exact ⟨k + 1, c, t + z, by omega, by go_num, rfl, rfl, by omega, by omega, by omega, hb, HS1.out.trans (by rw [hm.out]), HS2.out.trans (by rw [hn.out, if_neg HQ.out]; rfl)⟩
        case measure => simp [intOf]; omega
    · rw [List.take_of_length_le (by omega)] at hm hn
      go_wp2_with fail
      go_ret3
      exact ⟨by rw [hm.out, hn.out]; rfl, hb⟩

end Go.Proofs.Ytdlaghjijfgncaa
