/- Which graphs are valid: digraph.is, digraph.Valid, the reference's Valid. Conditions: the edges read as data. -/
import Derived.Test.YtlcfnbnpkcjjlaaGreatDgs
namespace Go.Proofs.YtlcfnbnpkcjjlaaGreat
open Go.RowKit
set_option linter.unusedVariables false
set_option linter.unusedSimpArgs false

def isB (n i : Int) : Bool := decide (0 ≤ i) && decide (i < n)
def okE (n : Int) (e : Int × Int) : Bool := isB n e.1 && isB n e.2
def validB (n : Int) (E : List (Int × Int)) : Bool := decide (0 ≤ n) && (decide (n ≤ 300) && (decide (E.length ≤ 1000) && E.all (okE n)))

set_option maxHeartbeats 1000000 in
theorem is_any (n i : Int) (w : World) : Calls Tryz.prog 87 #[.int .i64 n, .int .i64 i] w fun e w' => e = .returned (.bool (isB n i)) ∧ w' = w := by
  unfold isB
  cases h1 : decide (0 ≤ i)
  · go_enter Tryz.func87, Tryz.ntmps87
    go_wp2_with fail
    go_ret
    exact ⟨rfl, rfl⟩
  · cases h2 : decide (i < n)
    · go_enter Tryz.func87, Tryz.ntmps87
      go_wp2_with fail
      go_ret
      exact ⟨rfl, rfl⟩
    · go_enter Tryz.func87, Tryz.ntmps87
      go_wp2_with fail
      go_ret
      exact ⟨rfl, rfl⟩

set_option maxHeartbeats 1000000 in
theorem valid1_any (n : Int) (e : Int × Int) (B : Nat) (w : World) (hc : w.cell? ⟨B, 0, none⟩ = some (.int .i64 n)) :
    Calls Tryz.prog 91 #[vEi e, .pointer (some ⟨B, 0, none⟩)] w fun r w' => r = .returned (.bool (!okE n e)) ∧ Below w.heap.size w w' := by
  obtain ⟨x, y⟩ := e
  unfold okE
  simp only
  have hB := lt_of_isSome (w := w) (a := ⟨B, 0, none⟩) (by rw [hc]; rfl)
  cases h1 : isB n x
  · have hx := fun W => is_any n x W
    simp only [h1] at hx
    go_enter Tryz.func91, Tryz.ntmps91
    go_wp2_with fail
    refine (hx _).mono ?_
    rintro e w1 ⟨rfl, rfl⟩
    go_wp2_with fail
    go_ret
    exact ⟨rfl, by repeat' (first | exact Below.refl _ _ | assumption | refine Below.more ?_ ?_ _ | refine Below.alloc ?_ ?_ _ | refine Below.drew ?_ | refine below_drewN ?_ _ | refine Below.setCell ?_ ?_ _ | exact Below.size (by assumption) | (simp [go_sem, size_more]; done) | (simp [go_sem, size_more]; omega))⟩
  · have hx := fun W => is_any n x W
    have hy := fun W => is_any n y W
    simp only [h1] at hx
    cases h2 : isB n y
    all_goals
      simp only [h2] at hy
      go_enter Tryz.func91, Tryz.ntmps91
      go_wp2_with fail
      refine (hx _).mono ?_
      rintro e w1 ⟨rfl, rfl⟩
      go_wp2_with fail
      refine (hy _).mono ?_
      rintro e w1 ⟨rfl, rfl⟩
      go_wp2_with fail
      go_ret
      exact ⟨rfl, by repeat' (first | exact Below.refl _ _ | assumption | refine Below.more ?_ ?_ _ | refine Below.alloc ?_ ?_ _ | refine Below.drew ?_ | refine below_drewN ?_ _ | refine Below.setCell ?_ ?_ _ | exact Below.size (by assumption) | (simp [go_sem, size_more]; done) | (simp [go_sem, size_more]; omega))⟩

theorem any_all (n : Int) (E : List (Int × Int)) : E.any (fun e => !okE n e) = !E.all (okE n) := by
  induction E with
  | nil => rfl
  | cons e r ih => simp [List.any_cons, List.all_cons, ih, Bool.not_and]

set_option maxRecDepth 100000 in
set_option maxHeartbeats 2000000 in
theorem valid_any (n : Int) (E : List (Int × Int)) (v : Value) (w : World) (hE : IsEis w v E) :
    Calls Tryz.prog 63 #[.int .i64 n, v] w fun e w' => e = .returned (.bool (validB n E)) ∧ Below w.heap.size w w' := by
  have hb0 : Below w.heap.size w (w.alloc (.cells #[.int .i64 n] 3)) := alloc_below _ _
  have hc := fun (W : World) (hW : Below (w.heap.size + 1) (w.alloc (.cells #[.int .i64 n] 3)) W) =>
    containsE 91 #[.pointer (some ⟨w.heap.size, 0, none⟩)] (fun _ _ => by kernel_rfl) (fun e => !okE n e) E v W (hE.mono (hb0.trans (hW.mono (by omega)))) (fun X hX x hx => valid1_any n x w.heap.size X (by
      have h1 : (w.alloc (.cells #[.int .i64 n] 3)).cell? ⟨w.heap.size, 0, none⟩ = some (.int .i64 n) := by simp [go_sem]
      have h2 := (hW.cell (p := ⟨w.heap.size, 0, none⟩) (by simp)).trans h1
      exact cell_lt h2 hX))
  rw [any_all] at hc
  obtain ⟨a, cap, rfl, hcap, hbig, hs⟩ := hE
  unfold validB
  cases h1 : decide (0 ≤ n)
  · have u1 : decide (n < 0) = true := by simp at h1 ⊢; exact h1
    clear hc
    go_enter Tryz.func63, Tryz.ntmps63
    go_wp2_with fail
    go_ret
    exact ⟨rfl, by repeat' (first | exact Below.refl _ _ | assumption | refine Below.more ?_ ?_ _ | refine Below.alloc ?_ ?_ _ | refine Below.drew ?_ | refine below_drewN ?_ _ | refine Below.setCell ?_ ?_ _ | exact Below.size (by assumption) | (simp [go_sem, size_more]; done) | (simp [go_sem, size_more]; omega))⟩
  · have u1 : decide (n < 0) = false := by simp at h1 ⊢; exact h1
    cases h2 : decide (n ≤ 300)
    · have u2 : decide (300 < n) = true := by simp at h2 ⊢; exact h2
      clear hc
      go_enter Tryz.func63, Tryz.ntmps63
      go_wp2_with fail
      go_ret
      exact ⟨rfl, by repeat' (first | exact Below.refl _ _ | assumption | refine Below.more ?_ ?_ _ | refine Below.alloc ?_ ?_ _ | refine Below.drew ?_ | refine below_drewN ?_ _ | refine Below.setCell ?_ ?_ _ | exact Below.size (by assumption) | (simp [go_sem, size_more]; done) | (simp [go_sem, size_more]; omega))⟩
    · have u2 : decide (300 < n) = false := by simp at h2 ⊢; exact h2
      cases h3 : decide (E.length ≤ 1000)
      · have u3 : decide ((1000 : Int) < E.length) = true := by simp at h3 ⊢; omega
        have u4 : decide (1000 < E.length) = true := by simp at h3 ⊢; omega
        clear hc
        go_enter Tryz.func63, Tryz.ntmps63
        go_wp2_with fail
        go_ret
        exact ⟨rfl, by repeat' (first | exact Below.refl _ _ | assumption | refine Below.more ?_ ?_ _ | refine Below.alloc ?_ ?_ _ | refine Below.drew ?_ | refine below_drewN ?_ _ | refine Below.setCell ?_ ?_ _ | exact Below.size (by assumption) | (simp [go_sem, size_more]; done) | (simp [go_sem, size_more]; omega))⟩
      · have u3 : decide ((1000 : Int) < E.length) = false := by simp at h3 ⊢; omega
        have u4 : decide (1000 < E.length) = false := by simp at h3 ⊢; omega
        cases h5 : E.all (okE n)
        all_goals
          rw [h5] at hc
          go_enter Tryz.func63, Tryz.ntmps63
          go_wp2_with fail
          refine Calls.go hb0 (hc _ (Below.refl _ _)) ?_
          rintro e w1 rfl _ hb1
          go_wp2_with fail
          go_ret
          exact ⟨rfl, hb1⟩

end Go.Proofs.YtlcfnbnpkcjjlaaGreat
