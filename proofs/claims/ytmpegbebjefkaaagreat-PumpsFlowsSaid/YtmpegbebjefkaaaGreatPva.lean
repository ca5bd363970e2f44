/- Which links are pumps; levels; whether a pump is on; the program's side and the reference's. Conditions: the link reads as data. -/
import Derived.Test.YtmpegbebjefkaaaGreatNv
import Derived.Test.YtmpegbebjefkaaaGreatMRef
namespace Go.Proofs.YtmpegbebjefkaaaGreat
open Go.RowKit
set_option linter.unusedVariables false
set_option linter.unusedSimpArgs false

def pumpB (l : Lk) : Bool := decide (l.Kind = 4) && lkB l
/-- The nodes at the ends of a link. -/
def endA (s : ByteArray) (B : Nat) : Nd := ⟨s, 1, 0, 0, 0, 1, ⟨some ⟨B, 0, none⟩, 2, [⟨0, 0⟩, ⟨1, 0⟩]⟩, false, 0⟩
def endB (s : ByteArray) : Nd := ⟨s, 3, 0, 0, 0, 0, ⟨none, 0, []⟩, false, 0⟩
theorem endA_ok (s : ByteArray) (B : Nat) : ndB (endA s B) = nameB s := by
  have h1 : shapeB [⟨0, 0⟩, ⟨1, 0⟩] 1 = true := by decide +kernel
  have h2 : posB 0 = true := by decide
  have h3 : lvlB 0 = true := by decide
  have h4 : lvlB 1 = true := by decide
  simp [ndB, endA, kindNdB, h1, h2, h3, h4]
theorem endB_ok (s : ByteArray) : ndB (endB s) = nameB s := by
  have h2 : posB 0 = true := by decide
  have h3 : lvlB 0 = true := by decide
  simp [ndB, endB, kindNdB, h2, h3]
theorem netB_pump (l : Lk) (B : Nat) (a b : Option Addr) (c d : Nat) : netB ⟨⟨a, c, [endA l.From B, endB l.To]⟩, ⟨b, d, [l]⟩⟩ = lkB l := by
  have hA : okNd [endA l.From B, endB l.To] 0 = nameB l.From := by
    have hf : findNd [endA l.From B, endB l.To] l.From = 0 := by simp [findNd, idxFrom, endA, strB_self]
    simp only [okNd, List.getD_cons_zero]
    rw [endA_ok]
    rw [show (endA l.From B).Name = l.From from rfl, hf]
    simp
  have hC : allFrom (okNd [endA l.From B, endB l.To]) 0 2 = (okNd [endA l.From B, endB l.To] 0 && okNd [endA l.From B, endB l.To] 1) := by
    rw [allFrom_step _ (by omega), allFrom_step _ (by omega), allFrom_end _ (by omega), Bool.and_true]
  have hL : allFrom (okLk [endA l.From B, endB l.To] [l]) 0 1 = okLk [endA l.From B, endB l.To] [l] 0 := by
    rw [allFrom_step _ (by omega), allFrom_end _ (by omega), Bool.and_true]
  have hg : netB ⟨⟨a, c, [endA l.From B, endB l.To]⟩, ⟨b, d, [l]⟩⟩ = (okNd [endA l.From B, endB l.To] 0 && okNd [endA l.From B, endB l.To] 1 && okLk [endA l.From B, endB l.To] [l] 0) := by
    simp only [netB, List.length_cons, List.length_nil, Nat.zero_add, Nat.reduceAdd]
    rw [hC, hL]
    simp
  rw [hg]
  cases hl : lkB l
  · have : okLk [endA l.From B, endB l.To] [l] 0 = false := by simp [okLk, hl]
    rw [this, Bool.and_false]
  · have hl' := hl
    simp only [lkB, Bool.and_eq_true, Bool.not_eq_true'] at hl'
    obtain ⟨⟨⟨⟨⟨n1, n2⟩, n3⟩, n4⟩, n5⟩, n6⟩ := hl'
    have hf : findNd [endA l.From B, endB l.To] l.From = 0 := by simp [findNd, idxFrom, endA, strB_self]
    have ht : findNd [endA l.From B, endB l.To] l.To = 1 := by simp [findNd, idxFrom, endA, endB, strB_self, n4]
    have h2 : okNd [endA l.From B, endB l.To] 1 = true := by
      simp only [okNd, List.getD_cons_succ, List.getD_cons_zero]
      rw [endB_ok, show (endB l.To).Name = l.To from rfl, ht, n3]
      rfl
    have h3 : okLk [endA l.From B, endB l.To] [l] 0 = true := by
      have hk : findLk [l] l.Name = 0 := by simp [findLk, idxFrom, strB_self]
      simp only [okLk, List.getD_cons_zero]
      rw [hl, hk, hf, ht]
      simp [endA]
    rw [hA, h2, h3, n2]
    rfl

theorem pwithin_any (n lo hi : Int) (w : World) : Calls Tryz.prog 19 #[.int .i64 n, .int .i64 lo, .int .i64 hi] w fun e w' => e = .returned (.bool (btwB n lo hi)) ∧ w' = w := by
  by_cases h1 : lo ≤ n <;> by_cases h2 : n ≤ hi
  all_goals
    go_enter Tryz.func19, Tryz.ntmps19
    go_wp2_with fail
    go_ret
    exact ⟨ret_bool (by simp [btwB, h1, h2]), rfl⟩

theorem plevel_any (n : Int) (w : World) : Calls Tryz.prog 21 #[.int .i64 n] w fun e w' => e = .returned (.bool (btwB n (-4194304) 4194304)) ∧ w' = w := by
  have hw := fun W => pwithin_any n (-4194304) 4194304 W
  generalize btwB n (-4194304) 4194304 = b at *
  go_enter Tryz.func21, Tryz.ntmps21
  go_wp2_with fail
  refine (hw _).mono ?_
  rintro e w1 ⟨rfl, rfl⟩
  go_wp2_with fail
  go_ret
  exact ⟨rfl, rfl⟩

def pw1 (l : Lk) (w : World) : World := w.alloc (.cells (eLk l).toArray 25)
def pw2 (l : Lk) (w : World) : World := (pw1 l w).alloc (.cells #[.int .i64 0, .int .i64 0, .int .i64 1, .int .i64 0] 48)
def pw3 (l : Lk) (w : World) : World := (pw2 l w).alloc (.cells (eNd (endA l.From (w.heap.size + 1))).toArray 51)
def pw4 (l : Lk) (w : World) : World := (pw3 l w).alloc (.cells (eNd (endB l.To)).toArray 51)
def pw5 (l : Lk) (w : World) : World := (pw4 l w).alloc (.cells ((eNd (endA l.From (w.heap.size + 1))) ++ (eNd (endB l.To))).toArray 51)
def pw6 (l : Lk) (w : World) : World := (pw5 l w).alloc (.cells (eLk l).toArray 25)
theorem pw_size (l : Lk) (w : World) : (pw1 l w).heap.size = w.heap.size + 1 ∧ (pw4 l w).heap.size = w.heap.size + 4 ∧ (pw5 l w).heap.size = w.heap.size + 5 := by
  simp [pw1, pw2, pw3, pw4, pw5]
theorem pw_below (l : Lk) (w : World) : Below w.heap.size w (pw6 l w) ∧ Below (pw2 l w).heap.size (pw2 l w) (pw6 l w) ∧ Below (pw5 l w).heap.size (pw5 l w) (pw6 l w) := by
  have h1 : Below w.heap.size w (pw1 l w) := (Below.refl _ _).alloc (Nat.le_refl _) _
  have h2 : Below (pw1 l w).heap.size (pw1 l w) (pw2 l w) := (Below.refl _ _).alloc (Nat.le_refl _) _
  have h3 : Below (pw2 l w).heap.size (pw2 l w) (pw3 l w) := (Below.refl _ _).alloc (Nat.le_refl _) _
  have h4 : Below (pw3 l w).heap.size (pw3 l w) (pw4 l w) := (Below.refl _ _).alloc (Nat.le_refl _) _
  have h5 : Below (pw4 l w).heap.size (pw4 l w) (pw5 l w) := (Below.refl _ _).alloc (Nat.le_refl _) _
  have h6 : Below (pw5 l w).heap.size (pw5 l w) (pw6 l w) := (Below.refl _ _).alloc (Nat.le_refl _) _
  have h46 := h5.trans (h6.mono h5.size)
  have h36 := h4.trans (h46.mono h4.size)
  have h26 := h3.trans (h36.mono h3.size)
  have h16 := h2.trans (h26.mono h2.size)
  exact ⟨h1.trans (h16.mono h1.size), h26, h6⟩
theorem pw_net (l : Lk) (w : World) (hg : gLk w l) : gNet (pw6 l w) ⟨⟨some ⟨w.heap.size + 4, 0, none⟩, 2, [endA l.From (w.heap.size + 1), endB l.To]⟩, ⟨some ⟨w.heap.size + 5, 0, none⟩, 1, [l]⟩⟩ := by
  obtain ⟨s1, s4, s5⟩ := pw_size l w
  obtain ⟨b0, b2, b5⟩ := pw_below l w
  have hK : IsKns (pw2 l w) (.slice (some ⟨w.heap.size + 1, 0, none⟩) 2 2) [⟨0, 0⟩, ⟨1, 0⟩] := by
    rw [← s1]
    exact isL_lit eKn 2 eKn_len (pw2 l w) _ 48 _ [⟨0, 0⟩, ⟨1, 0⟩] 2 2 (heap_alloc_new _ _) rfl rfl (by decide) (by decide)
  have hN : IsNds (pw5 l w) (.slice (some ⟨w.heap.size + 4, 0, none⟩) 2 2) [endA l.From (w.heap.size + 1), endB l.To] := by
    rw [← s4]
    exact isL_lit eNd 9 eNd_len (pw5 l w) _ 51 _ [endA l.From (w.heap.size + 1), endB l.To] 2 2 (heap_alloc_new _ _) rfl (by simp) (by simp) (by decide)
  have hL : IsLks (pw6 l w) (.slice (some ⟨w.heap.size + 5, 0, none⟩) 1 1) [l] := by
    rw [← s5]
    exact isL_lit eLk 11 eLk_len (pw6 l w) _ 25 _ [l] 1 1 (heap_alloc_new _ _) rfl (by simp) (by simp) (by decide)
  obtain ⟨_, _, e1, _, _, qK⟩ := hK.mono b2
  obtain ⟨_, _, e2, _, _, qN⟩ := hN.mono b5
  obtain ⟨_, _, e3, _, _, qL⟩ := hL
  simp only [Value.slice.injEq] at e1 e2 e3
  obtain ⟨rfl, _, rfl⟩ := e1
  obtain ⟨rfl, _, rfl⟩ := e2
  obtain ⟨rfl, _, rfl⟩ := e3
  have hi : ∀ n : Int, n = 0 ∨ n = 1 ∨ n = 3 → gI64 (pw6 l w) n := by
    rintro n (rfl | rfl | rfl) <;> exact rfl
  refine ⟨⟨by simp, by simp, qN, ?_⟩, ⟨by simp, by simp, qL, ?_⟩⟩
  · intro y hy
    simp only [List.mem_cons, List.not_mem_nil, or_false] at hy
    rcases hy with rfl | rfl
    · refine ⟨hg.src, rfl, rfl, rfl, rfl, rfl, ⟨by simp [endA], by simp [endA], qK, ?_⟩, rfl⟩
      intro k hk
      simp only [endA, List.mem_cons, List.not_mem_nil, or_false] at hk
      rcases hk with rfl | rfl <;> exact ⟨rfl, rfl⟩
    · exact ⟨hg.dst, rfl, rfl, rfl, rfl, rfl, ⟨by simp [endB], by simp [endB], fun i hi => absurd hi (Nat.not_lt_zero _), by simp [endB]⟩, rfl⟩
  · intro y hy
    simp only [List.mem_cons, List.not_mem_nil, or_false] at hy
    subst hy
    exact rdLk.mono hg b0

set_option maxRecDepth 100000 in
set_option maxHeartbeats 2000000 in
theorem pvalid_any (l : Lk) (w : World) (hg : gLk w l) : Calls Tryz.prog 9 #[vLk l] w fun e w' => e = .returned (.bool (pumpB l)) ∧ Below w.heap.size w w' := by
  by_cases hk : l.Kind = 4
  · have HP : Hid (pumpB l = lkB l) := by show _ = _; simp [pumpB, hk]
    rw [HP.out]
    have u : (l.Kind == 4) = true := beqT hk
    have hv := nvalid_any _ _ (pw_net l w hg)
    rw [netB_pump] at hv
    have hv2 : Calls Tryz.prog 24 #[.agg #[.slice (some ⟨w.heap.size + 1 + 1 + 1 + 1, 0, none⟩) 2 2, .slice (some ⟨w.heap.size + 1 + 1 + 1 + 1 + 1, 0, none⟩) 1 1]] (pw6 l w) fun e w' => e = .returned (.bool (lkB l)) ∧ Below (pw6 l w).heap.size (pw6 l w) w' := hv
    have hb0 := (pw_below l w).1
    obtain ⟨nm, fr, tt, kd, ln, up, dn, sc, wi, he, cu⟩ := l
    simp only at hk
    subst hk
    clear hv hg
    go_enter Tryz.func9, Tryz.ntmps9
    go_wp2_with fail
    refine Calls.go hb0 hv2 ?_
    rintro e w1 rfl _ hb1
    go_wp2_with fail
    go_ret
    exact ⟨rfl, hb1⟩
  · have HP : Hid (pumpB l = false) := by show _ = _; simp [pumpB, hk]
    rw [HP.out]
    have u : (l.Kind == 4) = false := beqF hk
    go_enter Tryz.func9, Tryz.ntmps9
    go_wp2_with fail
    go_ret
    exact ⟨rfl, by repeat' (first | exact Below.refl _ _ | assumption | refine Below.more ?_ ?_ _ | refine Below.alloc ?_ ?_ _ | refine Below.drew ?_ | refine below_drewN ?_ _ | refine Below.setCell ?_ ?_ _ | exact Below.size (by assumption) | (simp [go_sem, size_more]; done) | (simp [go_sem, size_more]; omega))⟩

end Go.Proofs.YtmpegbebjefkaaaGreat
