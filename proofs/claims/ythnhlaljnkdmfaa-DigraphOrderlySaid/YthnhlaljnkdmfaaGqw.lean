/- What least paths are like, in plain words. No program is named. Conditions: none. -/
import Derived.Test.YthnhlaljnkdmfaaGqp
namespace Go.Proofs.Ythnhlaljnkdmfaa.Gp
open Go.RowKit
set_option linter.unusedVariables false
set_option linter.unusedSimpArgs false

theorem Wk.snoc {E : Gr} {b c : Nat} (e : inE E b c = true) : ∀ {x k : Nat}, Wk E 0 b x k → Wk E 0 c x (k + 1)
  | _, 0, h => by
    have := h.zero'
    subst this
    exact .succ e (Nat.zero_le _) (Nat.zero_le _) .zero
  | _, k + 1, h => by
    obtain ⟨y, h1, _, _, h4⟩ := h.succ'
    exact .succ h1 (Nat.zero_le _) (Nat.zero_le _) (Wk.snoc e h4)
theorem Wk.of_rch {E : Gr} {a b : Nat} (h : Rch E a b) : ∃ k, Wk E 0 b a k := by
  induction h with
  | refl => exact ⟨0, .zero⟩
  | step _ e ih => obtain ⟨k, hk⟩ := ih; exact ⟨k + 1, hk.snoc e⟩
theorem Wk.rch {E : Gr} {low b : Nat} : ∀ {x k : Nat}, Wk E low b x k → Rch E x b
  | _, 0, h => by
    have := h.zero'
    subst this
    exact .refl
  | _, k + 1, h => by
    obtain ⟨y, h1, _, _, h4⟩ := h.succ'
    exact (Rch.edge h1).trans h4.rch
theorem Wk.trans {E : Gr} {low b c k2 : Nat} (h2 : Wk E low b c k2) : ∀ {x k : Nat}, Wk E low c x k → Wk E low b x (k + k2)
  | _, 0, h => by
    have := h.zero'
    subst this
    rw [Nat.zero_add]; exact h2
  | _, k + 1, h => by
    obtain ⟨y, h1, h3, h4, h5⟩ := h.succ'
    rw [Nat.add_right_comm]
    exact .succ h1 h3 h4 (Wk.trans h2 h5)
theorem pthL_cases {n : Nat} {E : Gr} {a b : Nat} (hv : vtx n E) (ha : a < n) (hb : b < n) :
    (pthL n E a b = none ∧ ¬ Rch E a b) ∨ ∃ k, Dk E 0 b false a k ∧ (stepsL n E b 0).getD a (-1) = (k : Int) ∧ pthL n E a b = some (lpR n E (stepsL n E b 0) 0 k a ++ [b]) ∧ Rch E a b := by
  have hI := stepsL_is (low := 0) hv hb
  rcases hI.at' a ha with ⟨h1, h2⟩ | ⟨k, h1, h2⟩
  · refine .inl ⟨by unfold pthL; rw [h1]; rfl, fun h => ?_⟩
    obtain ⟨k, hk⟩ := Wk.of_rch h
    exact h2 k ⟨hk, fun h => by cases h⟩
  · refine .inr ⟨k, h2, h1, ?_, h2.1.1.rch⟩
    unfold pthL
    rw [h1, if_neg (by omega), Int.toNat_natCast]
structure PthI (n : Nat) (E : Gr) (St : List Int) (b m a : Nat) (L : List Nat) : Prop where
  len : L.length = m + 1
  fst : L.getD 0 0 = a
  lst : L.getD m 0 = b
  at' : ∀ j, j ≤ m → L.getD j 0 < n ∧ St.getD (L.getD j 0) (-1) = ((m - j : Nat) : Int)
  nxt : ∀ j, j < m → inE E (L.getD j 0) (L.getD (j + 1) 0) = true
theorem lpR_spec {n : Nat} {E : Gr} {low b : Nat} {St : List Int} (hv : vtx n E) (h : IsD n E low b false St) (hb : b < n) : ∀ (m a : Nat), a < n → St.getD a (-1) = (m : Int) → PthI n E St b m a (lpR n E St low m a ++ [b])
  | 0, a, ha, e => by
    have hab : a = b := (h.of_get ha e).1.1.zero'
    subst hab
    refine ⟨rfl, rfl, rfl, fun j hj => ?_, fun j hj => by omega⟩
    obtain rfl : j = 0 := by omega
    exact ⟨ha, e⟩
  | m + 1, a, ha, e => by
    obtain ⟨_, g2, _, g4, g5⟩ := nx_is hv h hb ha e
    have ih := lpR_spec hv h hb m _ g2 g5
    have hL : lpR n E St low (m + 1) a ++ [b] = a :: (lpR n E St low m (nx n E St low m a) ++ [b]) := rfl
    rw [hL]
    have hs : ∀ j, (a :: (lpR n E St low m (nx n E St low m a) ++ [b])).getD (j + 1) 0 = (lpR n E St low m (nx n E St low m a) ++ [b]).getD j 0 := fun j => by simp [List.getD]
    refine ⟨by rw [List.length_cons, ih.len], rfl, by rw [hs]; exact ih.lst, fun j hj => ?_, fun j hj => ?_⟩
    · cases j with
      | zero => exact ⟨ha, e⟩
      | succ j =>
        rw [hs]
        have := ih.at' j (by omega)
        rw [show m + 1 - (j + 1) = m - j by omega]
        exact this
    · cases j with
      | zero =>
        rw [hs, ih.fst]
        exact g4
      | succ j =>
        rw [hs, hs]
        exact ih.nxt j (by omega)
theorem PthI.inj {n : Nat} {E : Gr} {St : List Int} {b m a : Nat} {L : List Nat} (h : PthI n E St b m a L) {i j : Nat} (hi : i ≤ m) (hj : j ≤ m) (e : L.getD i 0 = L.getD j 0) : i = j := by
  have h1 := (h.at' i hi).2
  have h2 := (h.at' j hj).2
  rw [e, h2] at h1
  omega

end Go.Proofs.Ythnhlaljnkdmfaa.Gp
