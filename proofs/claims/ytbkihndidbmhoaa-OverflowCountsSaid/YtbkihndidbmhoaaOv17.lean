/- Frequency on both sides. Conditions: none. -/
import Derived.Test.YtbkihndidbmhoaaOv15
import Derived.Test.YtbkihndidbmhoaaRat
namespace Go.Proofs.Ytbkihndidbmhoaa
open Go.RowKit
set_option linter.unusedVariables false
set_option linter.unusedSimpArgs false

def FreqIs (xs : List Ev) (y : Int) (e : Ending) : Prop :=
  if rightM xs = false then e = .returned (.tuple #[.agg #[.int .i64 0, .int .i64 0], .int .i64 1])
  else if y < 1 ∨ 1000 < y then e = .returned (.tuple #[.agg #[.int .i64 0, .int .i64 0], .int .i64 2])
  else MakeIs xs.length y.toNat e

set_option maxRecDepth 100000 in
set_option maxHeartbeats 4000000 in
theorem freq_any (xs : List Ev) (v : Value) (y : Int) (w : World) (hv : IsEvs w v xs) :
    Calls Try.prog 29 #[v, .int .i64 y] w fun e w' => FreqIs xs y e ∧ Below w.heap.size w w' := by
  cases hr : rightM xs
  · have HR := Lib.hid hr
    clear hr
    go_enter Try.func29, Try.ntmps29
    go_wp2_with fail
    refine Calls.to (right_any xs _ _ (hv.mono ((Below.refl _ _).alloc (Nat.le_refl _) _))) ?_
    rintro e w1 rfl hb1
    rw [HR.out]
    have hbb : Below w.heap.size w w1 := by
      refine Below.trans ?_ (hb1.mono (by simp))
      repeat' (first | exact Below.refl _ _ | assumption | refine Below.more ?_ ?_ _ | refine Below.alloc ?_ ?_ _ | refine Below.drew ?_ | refine below_drewN ?_ _ | refine Below.setCell ?_ ?_ _ | exact Below.size (by assumption) | (simp [go_sem, size_more]; done) | (simp [go_sem, size_more]; omega))
    have hz : w.heap.size < w1.heap.size := by have := hb1.size; simp at this; omega
    have c0 : w1.cell? ⟨w.heap.size, 0, none⟩ = some (.int .i64 0) := (hb1.cell (p := ⟨w.heap.size, 0, none⟩) (by simp)).trans (by simp [go_sem])
    have c1 : w1.cell? ⟨w.heap.size, 1, none⟩ = some (.int .i64 0) := (hb1.cell (p := ⟨w.heap.size, 1, none⟩) (by simp)).trans (by simp [go_sem])
    have f0 : w1.frozen? ⟨w.heap.size, 0, none⟩ = false := (hb1.frozen (p := ⟨w.heap.size, 0, none⟩) (by simp)).trans (by simp [go_sem])
    have f1 : w1.frozen? ⟨w.heap.size, 1, none⟩ = false := (hb1.frozen (p := ⟨w.heap.size, 1, none⟩) (by simp)).trans (by simp [go_sem])
    clear hb1
    go_wp2_with fail
    refine bodyPost_ret (v := .tuple #[.agg #[.int .i64 0, .int .i64 0], .int .i64 1]) (by simp (maxDischargeDepth := 9) [results, Try.results29, go_sem, c0, c1]) rfl ⟨?_, by repeat' (first | exact Below.refl _ _ | assumption | refine Below.more ?_ ?_ _ | refine Below.alloc ?_ ?_ _ | refine Below.drew ?_ | refine below_drewN ?_ _ | refine Below.setCell ?_ ?_ _ | exact Below.size (by assumption) | (simp [go_sem, size_more]; done) | (simp [go_sem, size_more]; omega))⟩
    unfold FreqIs; rw [if_pos HR.out]
  · have HR := Lib.hid hr
    have hl : xs.length ≤ 10000 := by
      unfold rightM at hr
      split at hr
      · cases hr
      · omega
    clear hr
    have hlen : ∀ W, Below w.heap.size w W → True := fun _ _ => trivial
    clear hlen
    obtain ⟨a, cap, rfl, hcap, hbig, hs⟩ := hv
    have hv : IsEvs w (.slice a xs.length cap) xs := ⟨a, cap, rfl, hcap, hbig, hs⟩
    clear hs
    by_cases hbad : y < 1 ∨ 1000 < y
    · have HF : Hid (∀ e, e = .returned (.tuple #[.agg #[.int .i64 0, .int .i64 0], .int .i64 2]) → FreqIs xs y e) := by
        intro e he; unfold FreqIs; rw [if_neg (by rw [HR.out]; simp), if_pos hbad]; exact he
      by_cases h1 : y < 1
      · clear hbad
        go_enter Try.func29, Try.ntmps29
        go_wp2_with fail
        refine Calls.to (right_any xs _ _ (hv.mono ((Below.refl _ _).alloc (Nat.le_refl _) _))) ?_
        rintro e w1 rfl hb1
        rw [HR.out]
        have hbb : Below w.heap.size w w1 := by
          refine Below.trans ?_ (hb1.mono (by simp))
          repeat' (first | exact Below.refl _ _ | assumption | refine Below.more ?_ ?_ _ | refine Below.alloc ?_ ?_ _ | refine Below.drew ?_ | refine below_drewN ?_ _ | refine Below.setCell ?_ ?_ _ | exact Below.size (by assumption) | (simp [go_sem, size_more]; done) | (simp [go_sem, size_more]; omega))
        have hz : w.heap.size < w1.heap.size := by have := hb1.size; simp at this; omega
        have c0 : w1.cell? ⟨w.heap.size, 0, none⟩ = some (.int .i64 0) := (hb1.cell (p := ⟨w.heap.size, 0, none⟩) (by simp)).trans (by simp [go_sem])
        have c1 : w1.cell? ⟨w.heap.size, 1, none⟩ = some (.int .i64 0) := (hb1.cell (p := ⟨w.heap.size, 1, none⟩) (by simp)).trans (by simp [go_sem])
        have f0 : w1.frozen? ⟨w.heap.size, 0, none⟩ = false := (hb1.frozen (p := ⟨w.heap.size, 0, none⟩) (by simp)).trans (by simp [go_sem])
        have f1 : w1.frozen? ⟨w.heap.size, 1, none⟩ = false := (hb1.frozen (p := ⟨w.heap.size, 1, none⟩) (by simp)).trans (by simp [go_sem])
        clear hb1
        go_wp2_with fail
        refine bodyPost_ret (v := .tuple #[.agg #[.int .i64 0, .int .i64 0], .int .i64 2]) (by simp (maxDischargeDepth := 9) [results, Try.results29, go_sem, c0, c1]) rfl ⟨?_, by repeat' (first | exact Below.refl _ _ | assumption | refine Below.more ?_ ?_ _ | refine Below.alloc ?_ ?_ _ | refine Below.drew ?_ | refine below_drewN ?_ _ | refine Below.setCell ?_ ?_ _ | exact Below.size (by assumption) | (simp [go_sem, size_more]; done) | (simp [go_sem, size_more]; omega))⟩
        exact HF.out _ rfl
      · have h2 : 1000 < y := by omega
        clear hbad
        go_enter Try.func29, Try.ntmps29
        go_wp2_with fail
        refine Calls.to (right_any xs _ _ (hv.mono ((Below.refl _ _).alloc (Nat.le_refl _) _))) ?_
        rintro e w1 rfl hb1
        rw [HR.out]
        have hbb : Below w.heap.size w w1 := by
          refine Below.trans ?_ (hb1.mono (by simp))
          repeat' (first | exact Below.refl _ _ | assumption | refine Below.more ?_ ?_ _ | refine Below.alloc ?_ ?_ _ | refine Below.drew ?_ | refine below_drewN ?_ _ | refine Below.setCell ?_ ?_ _ | exact Below.size (by assumption) | (simp [go_sem, size_more]; done) | (simp [go_sem, size_more]; omega))
        have hz : w.heap.size < w1.heap.size := by have := hb1.size; simp at this; omega
        have c0 : w1.cell? ⟨w.heap.size, 0, none⟩ = some (.int .i64 0) := (hb1.cell (p := ⟨w.heap.size, 0, none⟩) (by simp)).trans (by simp [go_sem])
        have c1 : w1.cell? ⟨w.heap.size, 1, none⟩ = some (.int .i64 0) := (hb1.cell (p := ⟨w.heap.size, 1, none⟩) (by simp)).trans (by simp [go_sem])
        have f0 : w1.frozen? ⟨w.heap.size, 0, none⟩ = false := (hb1.frozen (p := ⟨w.heap.size, 0, none⟩) (by simp)).trans (by simp [go_sem])
        have f1 : w1.frozen? ⟨w.heap.size, 1, none⟩ = false := (hb1.frozen (p := ⟨w.heap.size, 1, none⟩) (by simp)).trans (by simp [go_sem])
        clear hb1
        go_wp2_with fail
        refine bodyPost_ret (v := .tuple #[.agg #[.int .i64 0, .int .i64 0], .int .i64 2]) (by simp (maxDischargeDepth := 9) [results, Try.results29, go_sem, c0, c1]) rfl ⟨?_, by repeat' (first | exact Below.refl _ _ | assumption | refine Below.more ?_ ?_ _ | refine Below.alloc ?_ ?_ _ | refine Below.drew ?_ | refine below_drewN ?_ _ | refine Below.setCell ?_ ?_ _ | exact Below.size (by assumption) | (simp [go_sem, size_more]; done) | (simp [go_sem, size_more]; omega))⟩
        exact HF.out _ rfl
    · obtain ⟨n, rfl⟩ : ∃ n : Nat, y = n := ⟨y.toNat, by omega⟩
      have HF : Hid (∀ e, MakeIs xs.length n e → FreqIs xs n e) := by
        intro e he; unfold FreqIs; rw [if_neg (by rw [HR.out]; simp), if_neg hbad, Int.toNat_natCast]; exact he
      have n1 : 1 ≤ n := by omega
      have n2 : n ≤ 1000 := by omega
      clear hbad
      go_enter Try.func29, Try.ntmps29
      go_wp2_with fail
      refine Calls.to (right_any xs _ _ (hv.mono ((Below.refl _ _).alloc (Nat.le_refl _) _))) ?_
      rintro e w1 rfl hb1
      rw [HR.out]
      have hbb : Below w.heap.size w w1 := by
        refine Below.trans ?_ (hb1.mono (by simp))
        repeat' (first | exact Below.refl _ _ | assumption | refine Below.more ?_ ?_ _ | refine Below.alloc ?_ ?_ _ | refine Below.drew ?_ | refine below_drewN ?_ _ | refine Below.setCell ?_ ?_ _ | exact Below.size (by assumption) | (simp [go_sem, size_more]; done) | (simp [go_sem, size_more]; omega))
      have hz : w.heap.size < w1.heap.size := by have := hb1.size; simp at this; omega
      have c0 : w1.cell? ⟨w.heap.size, 0, none⟩ = some (.int .i64 0) := (hb1.cell (p := ⟨w.heap.size, 0, none⟩) (by simp)).trans (by simp [go_sem])
      have c1 : w1.cell? ⟨w.heap.size, 1, none⟩ = some (.int .i64 0) := (hb1.cell (p := ⟨w.heap.size, 1, none⟩) (by simp)).trans (by simp [go_sem])
      have f0 : w1.frozen? ⟨w.heap.size, 0, none⟩ = false := (hb1.frozen (p := ⟨w.heap.size, 0, none⟩) (by simp)).trans (by simp [go_sem])
      have f1 : w1.frozen? ⟨w.heap.size, 1, none⟩ = false := (hb1.frozen (p := ⟨w.heap.size, 1, none⟩) (by simp)).trans (by simp [go_sem])
      clear hb1
      go_wp2_with fail
      refine Calls.go hbb (make_any xs.length n _ (by omega) n1 (by omega)) ?_
      intro e w2 hm hb2' hb2
      have hz2 : w.heap.size < w2.heap.size := by have := hb2'.size; omega
      have HFE := Lib.hid (HF.out e hm)
      unfold MakeIs at hm
      subst hm
      have c0 := (hb2'.cell (p := ⟨w.heap.size, 0, none⟩) hz).trans c0
      have c1 := (hb2'.cell (p := ⟨w.heap.size, 1, none⟩) hz).trans c1
      have f0 := (hb2'.frozen (p := ⟨w.heap.size, 0, none⟩) hz).trans f0
      have f1 := (hb2'.frozen (p := ⟨w.heap.size, 1, none⟩) hz).trans f1
      clear hb2' hz
      generalize ((xs.length / Nat.gcd xs.length n : Nat) : Int) = N at *
      generalize ((n / Nat.gcd xs.length n : Nat) : Int) = D at *
      go_wp2_with fail
      refine bodyPost_ret (v := .tuple #[.agg #[.int .i64 N, .int .i64 D], .int .i64 0]) (by simp (maxDischargeDepth := 9) [results, Try.results29, go_sem, c0, c1]) rfl ⟨HFE.out, by repeat' (first | exact Below.refl _ _ | assumption | refine Below.more ?_ ?_ _ | refine Below.alloc ?_ ?_ _ | refine Below.drew ?_ | refine below_drewN ?_ _ | refine Below.setCell ?_ ?_ _ | exact Below.size (by assumption) | (simp [go_sem, size_more]; done) | (simp [go_sem, size_more]; omega))⟩

set_option maxRecDepth 100000 in
set_option maxHeartbeats 4000000 in
theorem rfreq_any (xs : List Ev) (v : Value) (y : Int) (w : World) (hv : IsEvs w v xs) :
    Calls Try.prog 33 #[v, .int .i64 y] w fun e w' => FreqIs xs y e ∧ Below w.heap.size w w' := by
  cases hr : rightM xs
  · have HR := Lib.hid hr
    clear hr
    go_enter Try.func33, Try.ntmps33
    go_wp2_with fail
    refine Calls.to (rright_any xs _ _ (hv.mono ((Below.refl _ _).alloc (Nat.le_refl _) _))) ?_
    rintro e w1 rfl hb1
    rw [HR.out]
    have hbb : Below w.heap.size w w1 := by
      refine Below.trans ?_ (hb1.mono (by simp))
      repeat' (first | exact Below.refl _ _ | assumption | refine Below.more ?_ ?_ _ | refine Below.alloc ?_ ?_ _ | refine Below.drew ?_ | refine below_drewN ?_ _ | refine Below.setCell ?_ ?_ _ | exact Below.size (by assumption) | (simp [go_sem, size_more]; done) | (simp [go_sem, size_more]; omega))
    have hz : w.heap.size < w1.heap.size := by have := hb1.size; simp at this; omega
    have c0 : w1.cell? ⟨w.heap.size, 0, none⟩ = some (.int .i64 0) := (hb1.cell (p := ⟨w.heap.size, 0, none⟩) (by simp)).trans (by simp [go_sem])
    have c1 : w1.cell? ⟨w.heap.size, 1, none⟩ = some (.int .i64 0) := (hb1.cell (p := ⟨w.heap.size, 1, none⟩) (by simp)).trans (by simp [go_sem])
    have f0 : w1.frozen? ⟨w.heap.size, 0, none⟩ = false := (hb1.frozen (p := ⟨w.heap.size, 0, none⟩) (by simp)).trans (by simp [go_sem])
    have f1 : w1.frozen? ⟨w.heap.size, 1, none⟩ = false := (hb1.frozen (p := ⟨w.heap.size, 1, none⟩) (by simp)).trans (by simp [go_sem])
    clear hb1
    go_wp2_with fail
    refine bodyPost_ret (v := .tuple #[.agg #[.int .i64 0, .int .i64 0], .int .i64 1]) (by simp (maxDischargeDepth := 9) [results, Try.results33, go_sem, c0, c1]) rfl ⟨?_, by repeat' (first | exact Below.refl _ _ | assumption | refine Below.more ?_ ?_ _ | refine Below.alloc ?_ ?_ _ | refine Below.drew ?_ | refine below_drewN ?_ _ | refine Below.setCell ?_ ?_ _ | exact Below.size (by assumption) | (simp [go_sem, size_more]; done) | (simp [go_sem, size_more]; omega))⟩
    unfold FreqIs; rw [if_pos HR.out]
  · have HR := Lib.hid hr
    have hl : xs.length ≤ 10000 := by
      unfold rightM at hr
      split at hr
      · cases hr
      · omega
    clear hr
    have hlen : ∀ W, Below w.heap.size w W → True := fun _ _ => trivial
    clear hlen
    obtain ⟨a, cap, rfl, hcap, hbig, hs⟩ := hv
    have hv : IsEvs w (.slice a xs.length cap) xs := ⟨a, cap, rfl, hcap, hbig, hs⟩
    clear hs
    by_cases hbad : y < 1 ∨ 1000 < y
    · have HF : Hid (∀ e, e = .returned (.tuple #[.agg #[.int .i64 0, .int .i64 0], .int .i64 2]) → FreqIs xs y e) := by
        intro e he; unfold FreqIs; rw [if_neg (by rw [HR.out]; simp), if_pos hbad]; exact he
      by_cases h1 : y < 1
      · clear hbad
        go_enter Try.func33, Try.ntmps33
        go_wp2_with fail
        refine Calls.to (rright_any xs _ _ (hv.mono ((Below.refl _ _).alloc (Nat.le_refl _) _))) ?_
        rintro e w1 rfl hb1
        rw [HR.out]
        have hbb : Below w.heap.size w w1 := by
          refine Below.trans ?_ (hb1.mono (by simp))
          repeat' (first | exact Below.refl _ _ | assumption | refine Below.more ?_ ?_ _ | refine Below.alloc ?_ ?_ _ | refine Below.drew ?_ | refine below_drewN ?_ _ | refine Below.setCell ?_ ?_ _ | exact Below.size (by assumption) | (simp [go_sem, size_more]; done) | (simp [go_sem, size_more]; omega))
        have hz : w.heap.size < w1.heap.size := by have := hb1.size; simp at this; omega
        have c0 : w1.cell? ⟨w.heap.size, 0, none⟩ = some (.int .i64 0) := (hb1.cell (p := ⟨w.heap.size, 0, none⟩) (by simp)).trans (by simp [go_sem])
        have c1 : w1.cell? ⟨w.heap.size, 1, none⟩ = some (.int .i64 0) := (hb1.cell (p := ⟨w.heap.size, 1, none⟩) (by simp)).trans (by simp [go_sem])
        have f0 : w1.frozen? ⟨w.heap.size, 0, none⟩ = false := (hb1.frozen (p := ⟨w.heap.size, 0, none⟩) (by simp)).trans (by simp [go_sem])
        have f1 : w1.frozen? ⟨w.heap.size, 1, none⟩ = false := (hb1.frozen (p := ⟨w.heap.size, 1, none⟩) (by simp)).trans (by simp [go_sem])
        clear hb1
        go_wp2_with fail
        refine bodyPost_ret (v := .tuple #[.agg #[.int .i64 0, .int .i64 0], .int .i64 2]) (by simp (maxDischargeDepth := 9) [results, Try.results33, go_sem, c0, c1]) rfl ⟨?_, by repeat' (first | exact Below.refl _ _ | assumption | refine Below.more ?_ ?_ _ | refine Below.alloc ?_ ?_ _ | refine Below.drew ?_ | refine below_drewN ?_ _ | refine Below.setCell ?_ ?_ _ | exact Below.size (by assumption) | (simp [go_sem, size_more]; done) | (simp [go_sem, size_more]; omega))⟩
        exact HF.out _ rfl
      · have h2 : 1000 < y := by omega
        clear hbad
        go_enter Try.func33, Try.ntmps33
        go_wp2_with fail
        refine Calls.to (rright_any xs _ _ (hv.mono ((Below.refl _ _).alloc (Nat.le_refl _) _))) ?_
        rintro e w1 rfl hb1
        rw [HR.out]
        have hbb : Below w.heap.size w w1 := by
          refine Below.trans ?_ (hb1.mono (by simp))
          repeat' (first | exact Below.refl _ _ | assumption | refine Below.more ?_ ?_ _ | refine Below.alloc ?_ ?_ _ | refine Below.drew ?_ | refine below_drewN ?_ _ | refine Below.setCell ?_ ?_ _ | exact Below.size (by assumption) | (simp [go_sem, size_more]; done) | (simp [go_sem, size_more]; omega))
        have hz : w.heap.size < w1.heap.size := by have := hb1.size; simp at this; omega
        have c0 : w1.cell? ⟨w.heap.size, 0, none⟩ = some (.int .i64 0) := (hb1.cell (p := ⟨w.heap.size, 0, none⟩) (by simp)).trans (by simp [go_sem])
        have c1 : w1.cell? ⟨w.heap.size, 1, none⟩ = some (.int .i64 0) := (hb1.cell (p := ⟨w.heap.size, 1, none⟩) (by simp)).trans (by simp [go_sem])
        have f0 : w1.frozen? ⟨w.heap.size, 0, none⟩ = false := (hb1.frozen (p := ⟨w.heap.size, 0, none⟩) (by simp)).trans (by simp [go_sem])
        have f1 : w1.frozen? ⟨w.heap.size, 1, none⟩ = false := (hb1.frozen (p := ⟨w.heap.size, 1, none⟩) (by simp)).trans (by simp [go_sem])
        clear hb1
        go_wp2_with fail
        refine bodyPost_ret (v := .tuple #[.agg #[.int .i64 0, .int .i64 0], .int .i64 2]) (by simp (maxDischargeDepth := 9) [results, Try.results33, go_sem, c0, c1]) rfl ⟨?_, by repeat' (first | exact Below.refl _ _ | assumption | refine Below.more ?_ ?_ _ | refine Below.alloc ?_ ?_ _ | refine Below.drew ?_ | refine below_drewN ?_ _ | refine Below.setCell ?_ ?_ _ | exact Below.size (by assumption) | (simp [go_sem, size_more]; done) | (simp [go_sem, size_more]; omega))⟩
        exact HF.out _ rfl
    · obtain ⟨n, rfl⟩ : ∃ n : Nat, y = n := ⟨y.toNat, by omega⟩
      have HF : Hid (∀ e, MakeIs xs.length n e → FreqIs xs n e) := by
        intro e he; unfold FreqIs; rw [if_neg (by rw [HR.out]; simp), if_neg hbad, Int.toNat_natCast]; exact he
      have n1 : 1 ≤ n := by omega
      have n2 : n ≤ 1000 := by omega
      clear hbad
      go_enter Try.func33, Try.ntmps33
      go_wp2_with fail
      refine Calls.to (rright_any xs _ _ (hv.mono ((Below.refl _ _).alloc (Nat.le_refl _) _))) ?_
      rintro e w1 rfl hb1
      rw [HR.out]
      have hbb : Below w.heap.size w w1 := by
        refine Below.trans ?_ (hb1.mono (by simp))
        repeat' (first | exact Below.refl _ _ | assumption | refine Below.more ?_ ?_ _ | refine Below.alloc ?_ ?_ _ | refine Below.drew ?_ | refine below_drewN ?_ _ | refine Below.setCell ?_ ?_ _ | exact Below.size (by assumption) | (simp [go_sem, size_more]; done) | (simp [go_sem, size_more]; omega))
      have hz : w.heap.size < w1.heap.size := by have := hb1.size; simp at this; omega
      have c0 : w1.cell? ⟨w.heap.size, 0, none⟩ = some (.int .i64 0) := (hb1.cell (p := ⟨w.heap.size, 0, none⟩) (by simp)).trans (by simp [go_sem])
      have c1 : w1.cell? ⟨w.heap.size, 1, none⟩ = some (.int .i64 0) := (hb1.cell (p := ⟨w.heap.size, 1, none⟩) (by simp)).trans (by simp [go_sem])
      have f0 : w1.frozen? ⟨w.heap.size, 0, none⟩ = false := (hb1.frozen (p := ⟨w.heap.size, 0, none⟩) (by simp)).trans (by simp [go_sem])
      have f1 : w1.frozen? ⟨w.heap.size, 1, none⟩ = false := (hb1.frozen (p := ⟨w.heap.size, 1, none⟩) (by simp)).trans (by simp [go_sem])
      clear hb1
      go_wp2_with fail
      refine Calls.go hbb (rmake_any xs.length n _ (by omega) n1 (by omega)) ?_
      intro e w2 hm hb2' hb2
      have hz2 : w.heap.size < w2.heap.size := by have := hb2'.size; omega
      have HFE := Lib.hid (HF.out e hm)
      unfold MakeIs at hm
      subst hm
      have c0 := (hb2'.cell (p := ⟨w.heap.size, 0, none⟩) hz).trans c0
      have c1 := (hb2'.cell (p := ⟨w.heap.size, 1, none⟩) hz).trans c1
      have f0 := (hb2'.frozen (p := ⟨w.heap.size, 0, none⟩) hz).trans f0
      have f1 := (hb2'.frozen (p := ⟨w.heap.size, 1, none⟩) hz).trans f1
      clear hb2' hz
      generalize ((xs.length / Nat.gcd xs.length n : Nat) : Int) = N at *
      generalize ((n / Nat.gcd xs.length n : Nat) : Int) = D at *
      go_wp2_with fail
      refine bodyPost_ret (v := .tuple #[.agg #[.int .i64 N, .int .i64 D], .int .i64 0]) (by simp (maxDischargeDepth := 9) [results, Try.results33, go_sem, c0, c1]) rfl ⟨HFE.out, by repeat' (first | exact Below.refl _ _ | assumption | refine Below.more ?_ ?_ _ | refine Below.alloc ?_ ?_ _ | refine Below.drew ?_ | refine below_drewN ?_ _ | refine Below.setCell ?_ ?_ _ | exact Below.size (by assumption) | (simp [go_sem, size_more]; done) | (simp [go_sem, size_more]; omega))⟩

end Go.Proofs.Ytbkihndidbmhoaa
