/- The value rounded up, plainly; the next place has more than the value. No function of the program is named. Conditions: the table is right. -/
import Derived.Test.YtjgfgbiohbgcaaaGreatTml
namespace Go.Proofs.YtjgfgbiohbgcaaaGreat
open Go.RowKit
set_option linter.unusedVariables false
set_option linter.unusedSimpArgs false

def tabC (xs : List Kn) (x : Int) : Int := if 0 < (tabP xs x).2.1 then tabV xs x + 1 else tabV xs x
theorem tabC_knot {xs : List Kn} (h : tabB xs = true) (i : Nat) (hi : i < xs.length) : tabC xs xs[i].X = xs[i].Y := by
  have hk : cntX xs xs[i].X = i := by
    refine (cntX_is h _ i (by omega) (fun j hj q => (tabB_lt h j i q hi).1) (fun j hj q => ?_)).symm
    rcases Nat.lt_or_eq_of_le q with g | g
    · have := (tabB_lt h i j g hj).1; omega
    · subst g; exact Int.le_refl _
  have hh : hitX xs xs[i].X = true := by
    simp only [hitX, hk, Bool.and_eq_true, decide_eq_true_eq]
    exact ⟨hi, by rw [knAt_is hi]⟩
  have hP := tabV_hit (.inl hh)
  unfold tabC tabV
  rw [hP, hk, knAt_is hi]
  simp
theorem tabC_aux (aX aY bX bY y : Int) (hD : aX < bX) (h1 : aY ≤ y) (h2 : y < bY) :
    y < if 0 < (bY - aY) * (aX + (y - aY) * (bX - aX) / (bY - aY) + 1 - aX) % (bX - aX) then aY + (bY - aY) * (aX + (y - aY) * (bX - aX) / (bY - aY) + 1 - aX) / (bX - aX) + 1
      else aY + (bY - aY) * (aX + (y - aY) * (bX - aX) / (bY - aY) + 1 - aX) / (bX - aX) := by
  obtain ⟨q, hq⟩ : ∃ q, (y - aY) * (bX - aX) / (bY - aY) = q := ⟨_, rfl⟩
  rw [hq]
  have hlt : (y - aY) * (bX - aX) < (q + 1) * (bY - aY) := by
    rw [← hq]
    exact Int.lt_ediv_add_one_mul_self ((y - aY) * (bX - aX)) (show 0 < bY - aY by omega)
  rw [show aX + q + 1 - aX = q + 1 from by omega, Int.mul_comm (bY - aY)]
  generalize (q + 1) * (bY - aY) = V at *
  have d1 := Int.emod_add_mul_ediv V (bX - aX)
  have hcase : y - aY < V / (bX - aX) ∨ (y - aY = V / (bX - aX) ∧ 0 < V % (bX - aX)) := by
    rcases Int.lt_trichotomy (y - aY) (V / (bX - aX)) with g | g | g
    · exact .inl g
    · refine .inr ⟨g, ?_⟩
      rw [g, Int.mul_comm] at hlt
      omega
    · exfalso
      have h3 : (V / (bX - aX) + 1) * (bX - aX) ≤ (y - aY) * (bX - aX) := Int.mul_le_mul_of_nonneg_right (by omega) (by omega)
      have := Int.lt_ediv_add_one_mul_self V (show 0 < bX - aX by omega)
      omega
  generalize V / (bX - aX) = Q at *
  generalize V % (bX - aX) = R at *
  rcases hcase with g | ⟨g1, g2⟩
  · split <;> omega
  · rw [if_pos g2]; omega
theorem tabC_next {xs : List Kn} (h : tabB xs = true) (y : Int) (h0 : (xs[0]'(by have := tabB_len h; omega)).Y ≤ y) (h1 : mostV xs y < (xs[xs.length - 1]'(by have := tabB_len h; omega)).X) : y < tabC xs (mostV xs y + 1) := by
  have hl := tabB_len h
  have hc := cntY_le xs y
  have hk0 : 0 < cntY xs y := (cntY_lt h y 0 (by omega)).2 h0
  by_cases hk : cntY xs y = xs.length
  · rw [mostV_end h y hk] at h1; omega
  · obtain ⟨m, hm⟩ : ∃ m, cntY xs y = m + 1 := ⟨cntY xs y - 1, by omega⟩
    obtain ⟨e, e1, e2⟩ := mostV_mid h y m (by omega) (by omega) hm
    have hst := (tabB_lt h m (m + 1) (by omega) (by omega)).1
    have n1 : 0 ≤ (y - xs[m].Y) * (xs[m + 1].X - xs[m].X) / (xs[m + 1].Y - xs[m].Y) := Int.ediv_nonneg (Int.mul_nonneg (by omega) (by omega)) (by omega)
    have n2 : (y - xs[m].Y) * (xs[m + 1].X - xs[m].X) / (xs[m + 1].Y - xs[m].Y) < xs[m + 1].X - xs[m].X := by
      refine Int.ediv_lt_of_lt_mul (by omega) ?_
      rw [Int.mul_comm (xs[m + 1].X - xs[m].X)]
      exact Int.mul_lt_mul_of_pos_right (by omega) (by omega)
    by_cases hx : mostV xs y + 1 = xs[m + 1].X
    · rw [hx, tabC_knot h (m + 1) (by omega)]; omega
    · have hkx : cntX xs (mostV xs y + 1) = m + 1 := by
        refine (cntX_is h _ (m + 1) (by omega) (fun j hj q => ?_) (fun j hj q => ?_)).symm
        · rcases Nat.lt_or_eq_of_le (show j ≤ m by omega) with g | g
          · have := (tabB_lt h j m g (by omega)).1; omega
          · subst g; omega
        · rcases Nat.lt_or_eq_of_le q with g | g
          · have := (tabB_lt h (m + 1) j g hj).1; omega
          · subst g; omega
      have hnh : ¬ (hitX xs (mostV xs y + 1) = true ∨ cntX xs (mostV xs y + 1) = 0) := by
        rw [hkx]
        simp only [hitX, hkx, Bool.and_eq_true, decide_eq_true_eq]
        rw [knAt_is (by omega)]
        omega
      have hP := tabV_mid hnh (by rw [hkx]; omega)
      rw [hkx, Nat.add_sub_cancel, knAt_is (show m < xs.length by omega), knAt_is (show m + 1 < xs.length by omega)] at hP
      unfold tabC tabV
      rw [hP, e]
      exact tabC_aux xs[m].X xs[m].Y xs[m + 1].X xs[m + 1].Y y hst e1 e2

end Go.Proofs.YtjgfgbiohbgcaaaGreat
