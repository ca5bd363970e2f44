/- Small facts for EventsOrder: return periods as fractions; a row of bools of the call's own beside a box. No function of the program is walked. Conditions: none. -/
import Derived.Test.YtdlaghjijfgncaaEvfm
namespace Go.Proofs.Ytdlaghjijfgncaa
open Go.RowKit
set_option linter.unusedVariables false
set_option linter.unusedSimpArgs false

theorem undBools : Try.prog.underlying 58 = some (.slice 4) := by kernel_rfl
theorem infBool : (Try.prog.info? 4).map (fun i => (i.zero, i.size, i.bytes)) = some (some (.bool false), 1, 1) := by kernel_rfl
abbrev eB (b : Bool) : List Value := [.bool b]
theorem eB_len (b : Bool) : (eB b).length = 1 := rfl
theorem seen_step (S : List Int) (sn : List Bool) (i j : Nat) (hi : i < S.length) (hj : S[i] = j) (h : ∀ j' (h : j' < sn.length), sn[j'] = true → (j' : Int) ∈ S.take i) :
    ∀ j' (h : j' < (sn.set j true).length), (sn.set j true)[j'] = true → (j' : Int) ∈ S.take (i + 1) := by
  intro j' hj' ht
  have hl : j' < sn.length := by simpa using hj'
  rw [List.take_add_one, List.getElem?_eq_getElem hi, hj]
  by_cases e : j = j'
  · subst e; simp
  · rw [List.getElem_set_ne e] at ht
    exact List.mem_append_left _ (h j' hl ht)
theorem totalAt_eq (A : List Ev) (j : Nat) (hj : j < A.length) : totalAt A (j : Int) = A[j].Total := by
  simp [totalAt, List.getD, List.getElem?_eq_getElem hj]
theorem notIn_take {S : List Int} (hn : S.Nodup) (i : Nat) (hi : i < S.length) : ¬ S[i] ∈ S.take i := by
  intro h
  obtain ⟨k, hk, e⟩ := List.mem_iff_getElem.1 h
  simp at hk
  rw [List.getElem_take] at e
  have := (List.getElem_inj hn).1 e
  omega
theorem Own.elsewhere {α : Type} {base : Nat} {e : TypeId} {enc : α → List Value} {k : Nat} {w w' : World} {g n cap : Nat} {xs : List α} (h : Own base e enc k w (.slice (some ⟨g, 0, none⟩) n cap) xs) (hb : w'.heap[g]? = w.heap[g]?) :
    Own base e enc k w' (.slice (some ⟨g, 0, none⟩) n cap) xs := by
  obtain ⟨h1, h2⟩ := h
  refine ⟨h1, ?_⟩
  rcases h2 with h2 | ⟨g', cap', cur, hv, hg, hh, r⟩
  · exact .inl h2
  · refine .inr ⟨g', cap', cur, hv, hg, ?_, r⟩
    simp only [Value.slice.injEq, Option.some.injEq, Addr.mk.injEq] at hv
    rw [← hv.1.1, hb, hv.1.1]; exact hh
theorem cell_elsewhere {w : World} {b off : Nat} {v : Value} (h : w.cell? ⟨b, off, none⟩ = some v) (p : Addr) (u : Value) (hne : b ≠ p.block) : (w.setCell p u).cell? ⟨b, off, none⟩ = some v :=
  (World.cell?_of_block (w := w) (Below.heap_setCell w p u b hne)).trans h
theorem frozen_elsewhere {w : World} {b off : Nat} {v : Bool} (h : w.frozen? ⟨b, off, none⟩ = v) (p : Addr) (u : Value) (hne : b ≠ p.block) : (w.setCell p u).frozen? ⟨b, off, none⟩ = v :=
  (World.frozen?_of_block (w := w) (Below.heap_setCell w p u b hne)).trans h

/-- A box of two cells is stored anew. -/
theorem box_turned {w : World} {B : Nat} {u0 u1 : Value} (v0 v1 : Value) (o : Obj) (h0 : w.cell? ⟨B, 0, none⟩ = some u0) (h1 : w.cell? ⟨B, 1, none⟩ = some u1) (f0 : w.frozen? ⟨B, 0, none⟩ = false) (f1 : w.frozen? ⟨B, 1, none⟩ = false) (hB : B < w.heap.size) :
    (((w.setCell ⟨B, 0, none⟩ v0).setCell ⟨B, 1, none⟩ v1).alloc o).cell? ⟨B, 0, none⟩ = some v0 ∧ (((w.setCell ⟨B, 0, none⟩ v0).setCell ⟨B, 1, none⟩ v1).alloc o).cell? ⟨B, 1, none⟩ = some v1 ∧
    (((w.setCell ⟨B, 0, none⟩ v0).setCell ⟨B, 1, none⟩ v1).alloc o).frozen? ⟨B, 0, none⟩ = false ∧ (((w.setCell ⟨B, 0, none⟩ v0).setCell ⟨B, 1, none⟩ v1).alloc o).frozen? ⟨B, 1, none⟩ = false ∧
    B < (((w.setCell ⟨B, 0, none⟩ v0).setCell ⟨B, 1, none⟩ v1).alloc o).heap.size := by
  have hz : B < ((w.setCell ⟨B, 0, none⟩ v0).setCell ⟨B, 1, none⟩ v1).heap.size := by simpa [World.setCell] using hB
  have hbl : Below ((w.setCell ⟨B, 0, none⟩ v0).setCell ⟨B, 1, none⟩ v1).heap.size ((w.setCell ⟨B, 0, none⟩ v0).setCell ⟨B, 1, none⟩ v1) (((w.setCell ⟨B, 0, none⟩ v0).setCell ⟨B, 1, none⟩ v1).alloc o) := (Below.refl _ _).alloc (Nat.le_refl _) o
  refine ⟨?_, ?_, ?_, ?_, ?_⟩
  · rw [hbl.cell (by exact hz)]
    exact (World.cell?_setCell_other _ _ _ _ (by simp)).trans (World.cell?_setCell_same _ _ _ h0)
  · rw [hbl.cell (by exact hz)]
    exact World.cell?_setCell_same _ _ _ ((World.cell?_setCell_other _ _ _ _ (by simp)).trans h1)
  · rw [hbl.frozen (by exact hz), World.frozen?_setCell, World.frozen?_setCell]; exact f0
  · rw [hbl.frozen (by exact hz), World.frozen?_setCell, World.frozen?_setCell]; exact f1
  · exact Nat.lt_of_lt_of_le hz hbl.size

/-! ### Return periods -/
theorem gcd_part {Y m : Nat} (hm : 0 < m) : ∃ a d, 0 < Nat.gcd Y m ∧ Y / Nat.gcd Y m = a ∧ m / Nat.gcd Y m = d ∧ Y = Nat.gcd Y m * a ∧ m = Nat.gcd Y m * d :=
  ⟨_, _, Nat.gcd_pos_of_pos_right _ hm, rfl, rfl, (Nat.mul_div_cancel' (Nat.gcd_dvd_left Y m)).symm, (Nat.mul_div_cancel' (Nat.gcd_dvd_right Y m)).symm⟩
theorem per_cmp {Y m n : Nat} (hm : 0 < m) (hmn : m ≤ n) : Y / Nat.gcd Y n * (m / Nat.gcd Y m) ≤ Y / Nat.gcd Y m * (n / Nat.gcd Y n) := by
  obtain ⟨a, d, h1, e1, e2, e3, e4⟩ := gcd_part (Y := Y) (m := n) (by omega)
  obtain ⟨b, e, h2, f1, f2, f3, f4⟩ := gcd_part (Y := Y) hm
  rw [e1, e2, f1, f2]
  generalize Nat.gcd Y n = g1 at *
  generalize Nat.gcd Y m = g0 at *
  have h3 : Y * m ≤ Y * n := Nat.mul_le_mul_left _ hmn
  have h4 : (g1 * g0) * (a * e) = Y * m := by
    calc (g1 * g0) * (a * e) = (g1 * a) * (g0 * e) := by simp only [Nat.mul_assoc, Nat.mul_left_comm]
      _ = Y * m := by rw [← e3, ← f4]
  have h5 : (g1 * g0) * (b * d) = Y * n := by
    calc (g1 * g0) * (b * d) = (g0 * b) * (g1 * d) := by simp only [Nat.mul_assoc, Nat.mul_left_comm, Nat.mul_comm]
      _ = Y * n := by rw [← f3, ← e4]
  exact Nat.le_of_mul_le_mul_left (by rw [h4, h5]; exact h3) (Nat.mul_pos h1 h2)
theorem per_mul {Y n : Nat} (hn : 0 < n) : Y / Nat.gcd Y n * n = Y * (n / Nat.gcd Y n) := by
  obtain ⟨a, d, h1, e1, e2, e3, e4⟩ := gcd_part (Y := Y) hn
  rw [e1, e2]
  generalize Nat.gcd Y n = g at *
  subst e4; subst e3
  simp only [Nat.mul_comm, Nat.mul_left_comm]
theorem per_red {Y n : Nat} (hn : 0 < n) : Nat.gcd (Y / Nat.gcd Y n) (n / Nat.gcd Y n) = 1 := by
  have h := Nat.gcd_pos_of_pos_right Y hn
  rw [Nat.gcd_div (Nat.gcd_dvd_left Y n) (Nat.gcd_dvd_right Y n), Nat.div_self h]
theorem per_pos {Y n : Nat} (hn : 0 < n) : 1 ≤ n / Nat.gcd Y n := Nat.div_pos (Nat.le_of_dvd hn (Nat.gcd_dvd_right Y n)) (Nat.gcd_pos_of_pos_right Y hn)
/-- The product is the number of years again. -/
theorem per_make {Y n : Nat} (hn : 0 < n) (e : Ending) (h : MakeIs (Y / Nat.gcd Y n * n) (n / Nat.gcd Y n * 1) e) : e = .returned (.tuple #[vFr (Y : Int) 1, .int .i64 0]) := by
  unfold MakeIs at h
  have hd := per_pos (Y := Y) hn
  rw [per_mul hn, Nat.mul_one, Nat.gcd_mul_left_left, Nat.mul_div_cancel _ (by omega), Nat.div_self (by omega)] at h
  exact h
theorem cmpN_le {x y : Nat} (h : x ≤ y) : cmpN x y ≤ 0 ∧ (x = y → cmpN x y = 0) := by
  unfold cmpN
  by_cases h1 : x < y
  · rw [if_pos h1]
    refine ⟨by decide, fun e => ?_⟩
    omega
  · rw [if_neg h1, if_neg (by omega)]
    exact ⟨by decide, fun _ => rfl⟩

end Go.Proofs.Ytdlaghjijfgncaa
