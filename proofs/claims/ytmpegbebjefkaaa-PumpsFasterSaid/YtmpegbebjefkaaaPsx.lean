/- slices.Index and Contains at int; the closures of the laws on pumps. Conditions: none. -/
import Derived.Test.YtmpegbebjefkaaaPaw
namespace Go.Proofs.Ytmpegbebjefkaaa
open Go.RowKit
set_option linter.unusedVariables false
set_option linter.unusedSimpArgs false

set_option maxHeartbeats 1000000 in
theorem indexI_any (xs : List Int) (y : Int) (v : Value) (w : World) (hv : IsInts w v xs) :
    Calls Try.prog 42 #[v, .int .i64 y] w fun e w' => e = .returned (.int .i64 (idxFrom (fun x => y == x) xs 0)) ∧ Below w.heap.size w w' := by
  obtain ⟨a, cap, rfl, hcap, hbig, hs⟩ := hv
  go_enter Try.func42, Try.ntmps42
  go_wp2
  go_loopw [5, 8] (fun _ s8 wr => ∃ k : Nat, k ≤ xs.length ∧ s8 = .int .i64 k ∧ Below w.heap.size w wr ∧ Hid (idxFrom (fun x => y == x) xs 0 = idxFrom (fun x => y == x) (xs.drop k) k)) (fun _ i _ => xs.length - (intOf i).toNat)
  case atStart => exact ⟨0, Nat.zero_le _, rfl, Below.refl _ _, rfl⟩
  case round =>
    obtain ⟨k, hk, rfl, hb, hm⟩ := hrel
    by_cases hlt : k < xs.length
    · obtain ⟨b, off, rfl, c0⟩ := (hs.mono hb).int k hlt
      have hd := Lib.hid (List.drop_eq_getElem_cons hlt)
      clear hs
      generalize xs[k] = x at *
      cases h : (y == x)
      · have HS := Lib.hid h
        go_wp2_with fail
        go_roundw
        case rel => exact ⟨k + 1, by omega, by go_num, by repeat' (first | exact Below.refl _ _ | assumption | refine Below.more ?_ ?_ _ | refine Below.alloc ?_ ?_ _ | refine Below.drew ?_ | refine below_drewN ?_ _ | refine Below.setCell ?_ ?_ _ | exact Below.size (by assumption) | (simp [go_sem, size_more]; done) | (simp [go_sem, size_more]; omega)), hm.out.trans (by rw [hd.out]; simp [idxFrom, HS.out])⟩
        case measure => simp [intOf]; omega
      · have HS := Lib.hid h
        go_wp2_with fail
        go_ret
        exact ⟨ret_int (by rw [hm.out, hd.out]; simp [idxFrom, HS.out]), by repeat' (first | exact Below.refl _ _ | assumption | refine Below.more ?_ ?_ _ | refine Below.alloc ?_ ?_ _ | refine Below.drew ?_ | refine below_drewN ?_ _ | refine Below.setCell ?_ ?_ _ | exact Below.size (by assumption) | (simp [go_sem, size_more]; done) | (simp [go_sem, size_more]; omega))⟩
    · go_wp2_with fail
      go_ret
      refine ⟨ret_int ?_, by repeat' (first | exact Below.refl _ _ | assumption | refine Below.more ?_ ?_ _ | refine Below.alloc ?_ ?_ _ | refine Below.drew ?_ | refine below_drewN ?_ _ | refine Below.setCell ?_ ?_ _ | exact Below.size (by assumption) | (simp [go_sem, size_more]; done) | (simp [go_sem, size_more]; omega))⟩
      rw [hm.out, List.drop_eq_nil_of_le (by omega)]; rfl

set_option maxHeartbeats 1000000 in
theorem containsI_any (xs : List Int) (y : Int) (v : Value) (w : World) (hv : IsInts w v xs) :
    Calls Try.prog 24 #[v, .int .i64 y] w fun e w' => e = .returned (.bool (xs.contains y)) ∧ Below w.heap.size w w' := by
  have HC : Hid (decide (0 ≤ idxFrom (fun x => y == x) xs 0) = xs.contains y) := by
    show _ = _
    rw [idxFrom_any, List.contains_eq_any_beq]
  rw [← HC.out]
  go_enter Try.func24, Try.ntmps24
  go_wp2_with fail
  refine Calls.to (indexI_any xs y v w hv) ?_
  rintro e w1 rfl hb
  go_wp2_with fail
  go_ret
  exact ⟨rfl, hb⟩

theorem ent14 : ∀ args w, (callFunc 14 args).run Try.prog w = .ok (.enter 14 args) w := by
  intro args w
  simp [go_sem]
theorem lstarts1_any (n : Int) (w : World) : Calls Try.prog 14 #[.int .i64 n] w fun e w' => e = .returned (.bool (!levB n)) ∧ Below w.heap.size w w' := by
  have hl := fun W => r33level_any n W
  generalize levB n = b at *
  cases b
  all_goals
    go_enter Try.func14, Try.ntmps14
    go_wp2_with fail
    refine (hl _).mono ?_
    rintro _ _ ⟨rfl, rfl⟩
    go_wp2_with fail
    go_ret
    exact ⟨rfl, by repeat' (first | exact Below.refl _ _ | assumption | refine Below.more ?_ ?_ _ | refine Below.alloc ?_ ?_ _ | refine Below.drew ?_ | refine below_drewN ?_ _ | refine Below.setCell ?_ ?_ _ | exact Below.size (by assumption) | (simp [go_sem, size_more]; done) | (simp [go_sem, size_more]; omega))⟩
theorem ent22 : ∀ args w, (callFunc 22 args).run Try.prog w = .ok (.enter 22 args) w := by
  intro args w
  simp [go_sem]
theorem lturns1_any (n d : Int) (B : Nat) (w : World) (hd : w.cell? ⟨B, 6, none⟩ = some (.int .i64 d)) : Calls Try.prog 22 #[.int .i64 n, .pointer (some ⟨B, 0, none⟩)] w fun e w' => e = .returned (.bool (decide (n < d))) ∧ Below w.heap.size w w' := by
  cases h : decide (n < d)
  all_goals
    go_enter Try.func22, Try.ntmps22
    go_wp2_with fail
    go_ret
    exact ⟨rfl, by repeat' (first | exact Below.refl _ _ | assumption | refine Below.more ?_ ?_ _ | refine Below.alloc ?_ ?_ _ | refine Below.drew ?_ | refine below_drewN ?_ _ | refine Below.setCell ?_ ?_ _ | exact Below.size (by assumption) | (simp [go_sem, size_more]; done) | (simp [go_sem, size_more]; omega))⟩

end Go.Proofs.Ytmpegbebjefkaaa
