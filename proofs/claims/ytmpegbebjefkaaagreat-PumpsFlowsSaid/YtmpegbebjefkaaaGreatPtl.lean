/- Starts, plainly: between two starts there is a level below Down; each start has a level of at least Up; the first levels have the first starts. No function of the program is named. Conditions: Down lies below Up. -/
import Derived.Test.YtmpegbebjefkaaaGreatPst
namespace Go.Proofs.YtmpegbebjefkaaaGreat
open Go.RowKit
set_option linter.unusedVariables false
set_option linter.unusedSimpArgs false

/-- Whether the pump is on ahead of level i. -/
def onAt (up dn : Int) (F : List Int) : Nat → Bool
  | 0 => false
  | i + 1 => onB up dn (onAt up dn F i) (F.getD i 0)
theorem stGo_app (up dn : Int) : ∀ (xs : List Int) (i : Nat) (was : Bool) (out : List Int), stGo up dn xs i was out = out ++ stGo up dn xs i was []
  | [], _, _, out => by simp [stGo]
  | n :: r, i, was, out => by
    simp only [stGo]
    cases onB up dn was n && !was
    · simp only [Bool.false_eq_true, if_false]; exact stGo_app up dn r (i + 1) _ out
    · simp only [if_true, List.nil_append]
      rw [stGo_app up dn r (i + 1) _ (out ++ [(i : Int)]), stGo_app up dn r (i + 1) _ [(i : Int)]]
      simp
theorem stGo_split (up dn : Int) : ∀ (a b : List Int) (i : Nat) (was : Bool) (out : List Int), ∃ was', stGo up dn (a ++ b) i was out = stGo up dn b (i + a.length) was' (stGo up dn a i was out)
  | [], b, i, was, out => ⟨was, by simp [stGo]⟩
  | n :: r, b, i, was, out => by
    obtain ⟨was', h⟩ := stGo_split up dn r b (i + 1) (onB up dn was n) (if onB up dn was n && !was then out ++ [(i : Int)] else out)
    refine ⟨was', ?_⟩
    simp only [List.cons_append, stGo, List.length_cons]
    rw [h, show i + 1 + r.length = i + (r.length + 1) by omega]
/-- The first levels have the first starts. -/
theorem stGo_prefix (up dn : Int) (F : List Int) (k : Nat) : ∃ t, stGo up dn F 0 false [] = stGo up dn (F.take k) 0 false [] ++ t := by
  obtain ⟨was', h⟩ := stGo_split up dn (F.take k) (F.drop k) 0 false []
  rw [List.take_append_drop] at h
  rw [h, stGo_app]
  exact ⟨_, rfl⟩

def Turn (dn : Int) (F : List Int) (a b : Int) : Prop := a < b ∧ ∃ m : Nat, a ≤ m ∧ (m : Int) < b ∧ F.getD m 0 < dn
structure TInv (up dn : Int) (F : List Int) (i : Nat) (was : Bool) (out : List Int) : Prop where
  is : was = onAt up dn F i
  rng : ∀ k ∈ out, ∃ n : Nat, k = n ∧ n < i ∧ up ≤ F.getD n 0
  con : ∀ j, j + 1 < out.length → Turn dn F (out.getD j 0) (out.getD (j + 1) 0)
  off : was = false → 0 < out.length → ∃ m : Nat, out.getD (out.length - 1) 0 ≤ m ∧ m < i ∧ F.getD m 0 < dn
  has : ∀ m, m < i → onAt up dn F (m + 1) = true → onAt up dn F m = false → (m : Int) ∈ out
theorem getD_mem {out : List Int} {j : Nat} (h : j < out.length) : out.getD j 0 ∈ out := by
  rw [List.getD_eq_getElem?_getD, List.getElem?_eq_getElem h]; exact List.getElem_mem h
theorem getD_left {a b : List Int} {j : Nat} (h : j < a.length) : (a ++ b).getD j 0 = a.getD j 0 := by
  rw [List.getD_eq_getElem?_getD, List.getD_eq_getElem?_getD, List.getElem?_append_left h]
theorem getD_last (a : List Int) (x : Int) : (a ++ [x]).getD a.length 0 = x := by
  rw [List.getD_eq_getElem?_getD, List.getElem?_append_right (Nat.le_refl _)]; simp
theorem TInv.step {up dn : Int} {F : List Int} {i : Nat} {was : Bool} {out : List Int} (hT : TInv up dn F i was out) (hdu : dn < up) :
    TInv up dn F (i + 1) (onB up dn was (F.getD i 0)) (if onB up dn was (F.getD i 0) && !was then out ++ [(i : Int)] else out) := by
  have hon : onAt up dn F (i + 1) = onB up dn was (F.getD i 0) := by rw [onAt, hT.is]
  have hi := hT.is
  obtain ⟨now, hn⟩ : ∃ now, onB up dn was (F.getD i 0) = now := ⟨_, rfl⟩
  rw [hn] at hon ⊢
  have rng' : ∀ k ∈ out, ∃ n : Nat, k = n ∧ n < i + 1 ∧ up ≤ F.getD n 0 := fun k hk => by
    obtain ⟨n, h1, h2, h3⟩ := hT.rng k hk
    exact ⟨n, h1, by omega, h3⟩
  cases was
  · cases now
    · refine ⟨hon.symm, rng', hT.con, fun _ hl => ?_, fun m hm h1 h2 => ?_⟩
      · obtain ⟨m, h1, h2, h3⟩ := hT.off rfl hl
        exact ⟨m, h1, by omega, h3⟩
      · rcases Nat.lt_or_eq_of_le (Nat.le_of_lt_succ hm) with q | rfl
        · exact hT.has m q h1 h2
        · rw [hon] at h1; cases h1
    · have hup : up ≤ F.getD i 0 := by simpa [onB] using hn
      simp only [Bool.not_false, Bool.and_self, if_true]
      refine ⟨hon.symm, ?_, fun j hj => ?_, fun h => (by cases h), fun m hm h1 h2 => ?_⟩
      · intro k hk
        rcases List.mem_append.1 hk with h | h
        · exact rng' k h
        · simp only [List.mem_singleton] at h
          exact ⟨i, h, by omega, hup⟩
      · simp only [List.length_append, List.length_singleton] at hj
        rcases Nat.lt_or_eq_of_le (show j + 1 ≤ out.length by omega) with q | q
        · rw [getD_left (by omega), getD_left q]; exact hT.con j q
        · rw [getD_left (by omega), q, getD_last]
          obtain ⟨m, h1, h2, h3⟩ := hT.off rfl (by omega)
          rw [show out.length - 1 = j by omega] at h1
          exact ⟨by omega, m, h1, by omega, h3⟩
      · rcases Nat.lt_or_eq_of_le (Nat.le_of_lt_succ hm) with q | rfl
        · exact List.mem_append_left _ (hT.has m q h1 h2)
        · simp
  · cases now
    · have hdn : F.getD i 0 < dn := by
        simp only [onB, Bool.true_and, Bool.or_eq_false_iff, decide_eq_false_iff_not] at hn; omega
      simp only [Bool.false_and, Bool.false_eq_true, if_false]
      refine ⟨hon.symm, rng', hT.con, fun _ hl => ?_, fun m hm h1 h2 => ?_⟩
      · obtain ⟨n, h1, h2, h3⟩ := hT.rng _ (getD_mem (show out.length - 1 < out.length by omega))
        exact ⟨i, by omega, by omega, hdn⟩
      · rcases Nat.lt_or_eq_of_le (Nat.le_of_lt_succ hm) with q | rfl
        · exact hT.has m q h1 h2
        · rw [hon] at h1; cases h1
    · simp only [Bool.not_true, Bool.and_false, Bool.false_eq_true, if_false]
      refine ⟨hon.symm, rng', hT.con, fun h => (by cases h), fun m hm h1 h2 => ?_⟩
      rcases Nat.lt_or_eq_of_le (Nat.le_of_lt_succ hm) with q | rfl
      · exact hT.has m q h1 h2
      · rw [← hi] at h2; cases h2
theorem stGo_inv {up dn : Int} {F : List Int} (hdu : dn < up) : ∀ (xs : List Int) (i : Nat) (was : Bool) (out : List Int), i ≤ F.length → F.drop i = xs → TInv up dn F i was out → ∃ was', TInv up dn F F.length was' (stGo up dn xs i was out)
  | [], i, was, out, hi, hd, hT => by
    have : F.length ≤ i := by rw [List.drop_eq_nil_iff] at hd; exact hd
    obtain rfl : i = F.length := by omega
    exact ⟨was, hT⟩
  | n :: r, i, was, out, hi, hd, hT => by
    have hlt : i < F.length := by
      rcases Nat.lt_or_ge i F.length with h | h
      · exact h
      · rw [List.drop_eq_nil_of_le h] at hd; cases hd
    rw [List.drop_eq_getElem_cons hlt] at hd
    simp only [List.cons.injEq] at hd
    have hn : F.getD i 0 = n := by rw [List.getD_eq_getElem?_getD, List.getElem?_eq_getElem hlt]; exact hd.1
    have hs := hT.step hdu
    rw [hn] at hs
    exact stGo_inv hdu r (i + 1) _ _ hlt hd.2 hs
theorem stGo_turns (up dn : Int) (F : List Int) (hdu : dn < up) : ∃ was', TInv up dn F F.length was' (stGo up dn F 0 false []) :=
  stGo_inv hdu F 0 false [] (Nat.zero_le _) rfl ⟨rfl, by simp, by simp, by simp, by omega⟩
/-- A part of the levels has one below Down. -/
theorem any_seg {F : List Int} {dn : Int} {a b m : Nat} (h1 : a ≤ m) (h2 : m < b) (hb : b ≤ F.length) (h : F.getD m 0 < dn) : ((F.drop a).take (b - a)).any (fun x => decide (x < dn)) = true := by
  rw [List.any_eq_true]
  refine ⟨F.getD m 0, ?_, by simpa using h⟩
  have hm : m < F.length := by omega
  rw [List.getD_eq_getElem?_getD, List.getElem?_eq_getElem hm]
  simp only [Option.getD_some]
  have hl : m - a < ((F.drop a).take (b - a)).length := by simp; omega
  have he : ((F.drop a).take (b - a))[m - a] = F[m] := by
    simp only [List.getElem_take, List.getElem_drop]
    congr 1; omega
  rw [← he]; exact List.getElem_mem hl

end Go.Proofs.YtmpegbebjefkaaaGreat
