/- slices.Equal at pairs, and the reference's calendar: small functions. Conditions: the numbers' range. -/
import Derived.Test.YtbkihndidbmhoaaOv14
import Derived.Test.YtbkihndidbmhoaaRnk
namespace Go.Proofs.Ytbkihndidbmhoaa
open Go.RowKit
set_option linter.unusedVariables false
set_option linter.unusedSimpArgs false

abbrev vPr (p : Int × Int) : Value := .agg #[.int .i64 p.1, .int .i64 p.2]
theorem undPr : Try.prog.underlying 62 = some (.array 2 3) := by kernel_rfl
theorem neqPr (a b : Int × Int) (w : World) : (binOp .neq 62 (vPr a) (vPr b)).run Try.prog w = .ok (.bool (!decide (a = b))) w := by
  obtain ⟨a1, a2⟩ := a
  obtain ⟨b1, b2⟩ := b
  obtain ⟨i0, hi, _⟩ := info_parts infInt
  have hc : Try.prog.cellsOf 3 = 1 := by kernel_rfl
  simp [go_sem]
  rw [show (10000 : Nat) = 9999 + 1 from rfl, run_equalIn_array w 9999 _ _ undPr hi, hc]
  simp [Op.eqItems, List.range, List.range.loop, go_sem]
  by_cases h1 : a1 = b1 <;> by_cases h2 : a2 = b2 <;> simp [h1, h2, go_sem]

theorem IsC.prs {w : World} {a : Option Addr} {xs : List (Int × Int)} (h : IsC ePr 2 w a xs) (i : Nat) (hi : i < xs.length) :
    ∃ b off, a = some ⟨b, off, none⟩ ∧ w.cell? ⟨b, off + i * 2, none⟩ = some (.int .i64 xs[i].1) ∧ w.cell? ⟨b, off + i * 2 + 1, none⟩ = some (.int .i64 xs[i].2) := by
  obtain ⟨b, off, e, hc⟩ := h i hi
  refine ⟨b, off, e, ?_, ?_⟩
  · simpa using hc 0 (by omega)
  · simpa using hc 1 (by omega)

set_option maxHeartbeats 1000000 in
theorem eqPrs (xs ys : List (Int × Int)) (v v2 : Value) (w : World) (hv : IsL ePr 2 w v xs) (hv2 : IsL ePr 2 w v2 ys) :
    Calls Try.prog 34 #[v, v2] w fun e w' => e = .returned (.bool (decide (xs = ys))) ∧ Below w.heap.size w w' := by
  obtain ⟨a, cap, rfl, hcap, hbig, hs⟩ := hv
  obtain ⟨a2, cap2, rfl, hcap2, hbig2, hs2⟩ := hv2
  by_cases hl : xs.length = ys.length
  · rw [← eqGo_iff xs ys hl]
    have Hl : Hid (xs.length = ys.length) := hl
    rw [← hl]
    clear hl
    have hneq := neqPr
    go_enter Try.func34, Try.ntmps34
    go_wp2_with fail
    go_loopw [13] (fun s6 wr => ∃ k : Nat, k ≤ xs.length ∧ s6 = .int .i64 k ∧ Below w.heap.size w wr ∧ Hid (eqGo xs ys = eqGo (xs.drop k) (ys.drop k))) (fun i _ => xs.length - (intOf i).toNat)
    case atStart => exact ⟨0, Nat.zero_le _, rfl, Below.refl _ _, rfl⟩
    case round =>
      obtain ⟨k, hk, rfl, hb, hm⟩ := hrel
      by_cases hlt : k < xs.length
      · have hlt2 : k < ys.length := by have := Hl.out; omega
        obtain ⟨b, off, rfl, c1, c2⟩ := (hs.mono hb).prs k hlt
        obtain ⟨b', off', rfl, d1, d2⟩ := (hs2.mono hb).prs k hlt2
        have hstep : Hid (eqGo (xs.drop k) (ys.drop k) = (decide (xs[k] = ys[k]) && eqGo (xs.drop (k + 1)) (ys.drop (k + 1)))) := by
          rw [List.drop_eq_getElem_cons hlt, List.drop_eq_getElem_cons hlt2]; rfl
        clear hs hs2
        generalize xs[k] = x at *
        generalize ys[k] = y at *
        have i1 : (0 : Int) ≤ k := by omega
        have i2 : (k : Int) < xs.length := by omega
        by_cases hxy : x = y
        · subst hxy
          go_wp2_with fail
          go_quiet (fail)
          go_wp2_with fail
          go_roundw
          case rel => exact ⟨k + 1, by omega, by go_num, by repeat' (first | exact Below.refl _ _ | assumption | refine Below.more ?_ ?_ _ | refine Below.alloc ?_ ?_ _ | refine Below.drew ?_ | refine below_drewN ?_ _ | refine Below.setCell ?_ ?_ _ | exact Below.size (by assumption) | (simp [go_sem, size_more]; done) | (simp [go_sem, size_more]; omega)), hm.out.trans (hstep.out.trans (by simp))⟩
          case measure => simp [intOf]; omega
        · go_wp2_with fail
          go_quiet (fail)
          go_wp2_with fail
          go_ret
          exact ⟨ret_bool (hm.out.trans (hstep.out.trans (by simp [hxy]))).symm, by repeat' (first | exact Below.refl _ _ | assumption | refine Below.more ?_ ?_ _ | refine Below.alloc ?_ ?_ _ | refine Below.drew ?_ | refine below_drewN ?_ _ | refine Below.setCell ?_ ?_ _ | exact Below.size (by assumption) | (simp [go_sem, size_more]; done) | (simp [go_sem, size_more]; omega))⟩
      · go_wp2_with fail
        go_ret
        refine ⟨ret_bool ?_, hb⟩
        rw [hm.out, List.drop_eq_nil_of_le (by omega)]; rfl
  · have hd : decide (xs = ys) = false := by
      simp; intro h; exact hl (by rw [h])
    rw [hd]
    clear hd
    have hlb : ((xs.length : Int) != ys.length) = true := by rw [bne_iff_ne]; omega
    go_enter Try.func34, Try.ntmps34
    go_wp2_with fail
    go_ret
    exact ⟨rfl, Below.refl _ _⟩

theorem r5before_any (y : Int) (w : World) (h1 : 1 ≤ y) (h2 : y ≤ 10001) : Calls Try.prog 107 #[.int .i64 y] w fun e w' => e = .returned (.int .i64 (bef y + 730119)) ∧ w = w' := by
  unfold bef
  go_enter Try.func107, Try.ntmps107
  go_wp2_with fail
  go_ret
  exact ⟨ret_int (by omega), rfl⟩

theorem r5inst_any (t : Int) (w : World) : Calls Try.prog 84 #[.int .i64 t] w fun e w' => e = .returned (.bool (decide (-68719476736 ≤ t) && decide (t ≤ 68719476736))) ∧ w' = w := by
  by_cases h : -68719476736 ≤ t
  all_goals
    go_enter Try.func84, Try.ntmps84
    go_wp2_with fail
    go_ret
    exact ⟨ret_bool (by simp <;> omega), rfl⟩

theorem rinst_any (t : Int) (w : World) : Calls Try.prog 57 #[.int .i64 t] w fun e w' => e = .returned (.bool (decide (-68719476736 ≤ t) && decide (t ≤ 68719476736))) ∧ w' = w := by
  by_cases h : -68719476736 ≤ t
  all_goals
    go_enter Try.func57, Try.ntmps57
    go_wp2_with fail
    go_ret
    exact ⟨ret_bool (by simp <;> omega), rfl⟩

end Go.Proofs.Ytbkihndidbmhoaa
