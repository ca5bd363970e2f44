/- Quantile of the reference: the walk. Conditions: the list is right, the numbers in range. -/
import Derived.Test.YtdlaghjijfgncaaEvqr
namespace Go.Proofs.Ytdlaghjijfgncaa
open Go.RowKit
set_option linter.unusedVariables false
set_option linter.unusedSimpArgs false

set_option maxRecDepth 100000 in
set_option maxHeartbeats 8000000 in
theorem r21quant_any (l : List Ev) (v : Value) (num den : Int) (w : World) (hv : IsEvs w v l) (hl : l.length ≤ 1000) (hall : ∀ x ∈ l, EvR x) (h1 : 1 ≤ den) (h2 : den ≤ 1073741824) (h3 : 0 ≤ num) (h4 : num ≤ den) :
    Calls Try.prog 26 #[v, .int .i64 num, .int .i64 den] w fun e w' => e = .returned (.int .i64 (qGo l num den l (-1))) ∧ Below w.heap.size w w' := by
  obtain ⟨a, cap, rfl, hcap, hbig, hs⟩ := hv
  obtain ⟨R, HR⟩ : ∃ r, Hid (qGo l num den l (-1) = r) := ⟨_, rfl⟩
  rw [HR.out]
  have p0 : 0 ≤ num * (l.length : Int) := Int.mul_nonneg (by omega) (by omega)
  have p1 : num * (l.length : Int) ≤ 1073741824 * 1000 := Int.mul_le_mul (by omega) (by omega) (by omega) (by omega)
  have x1 : IntKind.i64.wrap (num * (l.length : Int)) = num * (l.length : Int) := IntWalk.i64_in _ (by omega)
  have X1 := Lib.hid x1
  clear p0 p1 x1
  go_enter Try.func26, Try.ntmps26
  go_wp2_with fail
  go_loopw [7, 8] (fun s7 s8 wr => ∃ (i : Nat) (b : Int), i ≤ l.length ∧ s8 = .int .i64 i ∧ s7 = .int .i64 b ∧ Below w.heap.size w wr ∧ Hid (R = qGo l num den (l.drop i) b)) (fun _ i _ => l.length - (intOf i).toNat)
  case atStart => exact ⟨0, -1, Nat.zero_le _, rfl, rfl, Below.refl _ _, HR.out.symm⟩
  case round =>
    as_aux_lemma =>
    obtain ⟨i, b, hi, rfl, rfl, hb, hm⟩ := hrel
    by_cases hlt : i < l.length
    · have hdrop : Hid (l.drop i = l[i] :: l.drop (i + 1)) := List.drop_eq_getElem_cons hlt
      obtain ⟨x, HXI⟩ : ∃ x, Hid (l[i]'hlt = x) := ⟨l[i]'hlt, (rfl : l[i]'hlt = l[i]'hlt)⟩
      rw [HXI.out] at hdrop
      have HS : Hid (R = qGo l num den (l.drop (i + 1)) (qTake l num den b x)) := hm.out.trans (by rw [hdrop.out]; rfl)
      have y1 : IntKind.i64.wrap ((i : Int) + 1) = i + 1 := IntWalk.i64_in _ (by omega)
      clear hm hdrop
      go_wp2_with fail
      go_loopw [9, 10] (fun s9 s10 wr => ∃ k : Nat, k ≤ l.length ∧ s10 = .int .i64 k ∧ s9 = .int .i64 (cntLe l x.Total k) ∧ Below w.heap.size w wr) (fun _ k _ => l.length - (intOf k).toNat)
      case atStart => exact ⟨0, Nat.zero_le _, rfl, by simp [cntLe], hb⟩
      case round =>
        as_aux_lemma =>
        obtain ⟨k, hk, rfl, rfl, hb⟩ := hrel
        by_cases hlk : k < l.length
        · obtain ⟨bb, off, rfl, c1, c2, c3, c4⟩ := (hs.mono hb).ev k hlk
          have d3 := ((hs.mono hb).ev' i hlt).2.2.1
          rw [HXI.out] at d3
          have HST := Lib.hid (cntLe_step (t := x.Total) hlk)
          have hcl := cntLe_le l x.Total k
          have z1 : IntKind.i64.wrap ((k : Int) + 1) = k + 1 := IntWalk.i64_in _ (by omega)
          have z2 : IntKind.i64.wrap ((cntLe l x.Total k : Int) + 1) = cntLe l x.Total k + 1 := IntWalk.i64_in _ (by omega)
          have i0 : (0 : Int) ≤ i := by omega
          have i1 : (i : Int) < l.length := by omega
          have k0 : (0 : Int) ≤ k := by omega
          have k1 : (k : Int) < l.length := by omega
          clear hs c1 c2 c4
          generalize l[k] = yk at *
          generalize cntLe l x.Total k = cn at *
          by_cases q : yk.Total ≤ x.Total
          · have u := decide_eq_true q
            have HC : Hid (cntLe l x.Total (k + 1) = cn + 1) := by show _ = _; rw [HST.out, if_pos q]
            clear q
            go_wp2_with fail
            go_quiet (fail)
            go_wp2_with fail
            go_roundw
            case measure => simp [intOf]; omega
            case rel => exact ⟨k + 1, by omega, by go_num, by rw [HC.out]; go_num, by repeat' (first | exact Below.refl _ _ | assumption | refine Below.more ?_ ?_ _ | refine Below.alloc ?_ ?_ _ | refine Below.drew ?_ | refine below_drewN ?_ _ | refine Below.setCell ?_ ?_ _ | exact Below.size (by assumption) | (simp [go_sem, size_more]; done) | (simp [go_sem, size_more]; omega))⟩
          · have u := decide_eq_false q
            have HC : Hid (cntLe l x.Total (k + 1) = cn) := by show _ = _; rw [HST.out, if_neg q]; rfl
            clear q
            go_wp2_with fail
            go_quiet (fail)
            go_wp2_with fail
            go_roundw
            case measure => simp [intOf]; omega
            case rel => exact ⟨k + 1, by omega, by go_num, by rw [HC.out], by repeat' (first | exact Below.refl _ _ | assumption | refine Below.more ?_ ?_ _ | refine Below.alloc ?_ ?_ _ | refine Below.drew ?_ | refine below_drewN ?_ _ | refine Below.setCell ?_ ?_ _ | exact Below.size (by assumption) | (simp [go_sem, size_more]; done) | (simp [go_sem, size_more]; omega))⟩
        · obtain rfl : k = l.length := by omega
          obtain ⟨bb, off, rfl, c1, c2, c3, c4⟩ := (hs.mono hb).ev i hlt
          rw [HXI.out] at c3
          have hcl := cntLe_le l x.Total l.length
          have HQ : Hid (qTake l num den b x = if num * l.length ≤ (cntLe l x.Total l.length : Int) * den ∧ (b < 0 ∨ x.Total < b) then x.Total else b) := rfl
          clear hs c1 c2 c4
          generalize cntLe l x.Total l.length = cn at *
          have p2 : 0 ≤ (cn : Int) * den := Int.mul_nonneg (by omega) (by omega)
          have p3 : (cn : Int) * den ≤ 1000 * 1073741824 := Int.mul_le_mul (by omega) (by omega) (by omega) (by omega)
          have x1 := X1.out
          have x2 : IntKind.i64.wrap ((cn : Int) * den) = (cn : Int) * den := IntWalk.i64_in _ (by omega)
          have i0 : (0 : Int) ≤ i := by omega
          have i1 : (i : Int) < l.length := by omega
          clear p2 p3
          by_cases q1 : num * (l.length : Int) ≤ (cn : Int) * den
          · have u1 := decide_eq_true q1
            by_cases q2 : b < 0
            · have u2 := decide_eq_true q2
              have HT : Hid (qTake l num den b x = x.Total) := by show _ = _; rw [HQ.out, if_pos ⟨q1, .inl q2⟩]
              clear q1 q2 HQ
              go_wp2_with fail
              go_roundw
              case measure => simp [intOf]; omega
              case rel => exact ⟨i + 1, x.Total, by omega, by go_num, rfl, hb, HS.out.trans (by rw [HT.out])⟩
            · have u2 := decide_eq_false q2
              by_cases q3 : x.Total < b
              · have u3 := decide_eq_true q3
                have HT : Hid (qTake l num den b x = x.Total) := by show _ = _; rw [HQ.out, if_pos ⟨q1, .inr q3⟩]
                clear q1 q2 q3 HQ
                go_wp2_with fail
                go_roundw
                case measure => simp [intOf]; omega
                case rel => exact ⟨i + 1, x.Total, by omega, by go_num, rfl, hb, HS.out.trans (by rw [HT.out])⟩
              · have u3 := decide_eq_false q3
                have HT : Hid (qTake l num den b x = b) := by show _ = _; rw [HQ.out, if_neg (fun h => h.2.elim q2 q3)]
                clear q1 q2 q3 HQ
                go_wp2_with fail
                go_roundw
                case measure => simp [intOf]; omega
                case rel => exact ⟨i + 1, b, by omega, by go_num, rfl, hb, HS.out.trans (by rw [HT.out])⟩
          · have u1 := decide_eq_false q1
            have HT : Hid (qTake l num den b x = b) := by show _ = _; rw [HQ.out, if_neg (fun h => q1 h.1)]
            clear q1 HQ
            go_wp2_with fail
            go_roundw
            case measure => simp [intOf]; omega
            case rel => exact ⟨i + 1, b, by omega, by go_num, rfl, hb, HS.out.trans (by rw [HT.out])⟩
    · rw [List.drop_eq_nil_of_le (by omega)] at hm
      have HM : Hid (R = b) := hm.out
      go_wp2_with fail
      go_ret
      exact ⟨ret_int HM.out.symm, hb⟩

end Go.Proofs.Ytdlaghjijfgncaa
