/- The greatest place with at most a value, plainly. No function of the program is named. Conditions: the table is right. | The first knot above a value, and the last one at most at it, plainly. No function of the program is named. Conditions: the table is right. | The value rounded up, plainly; the next place has more than the value. No function of the program is named. Conditions: the table is right. -/
import Derived.Test.YtjgfgbiohbgcaaaGreatTpl
namespace Go.Proofs.YtjgfgbiohbgcaaaGreat
open Go.RowKit
set_option linter.unusedVariables false
set_option linter.unusedSimpArgs false

/-- How many knots have at most the value y. -/
def cntY (xs : List Kn) (y : Int) : Nat := (xs.filter fun k => decide (k.Y ≤ y)).length
theorem cntY_le (xs : List Kn) (y : Int) : cntY xs y ≤ xs.length := List.length_filter_le _ _
theorem cntY_pw : ∀ {xs : List Kn}, xs.Pairwise (fun a b => a.Y ≤ b.Y) → ∀ (y : Int) (j : Nat) (hj : j < xs.length), (xs[j].Y ≤ y → j < cntY xs y) ∧ (y < xs[j].Y → cntY xs y ≤ j)
  | k :: r, hp, y, 0, hj => by
    rw [List.pairwise_cons] at hp
    unfold cntY
    constructor
    · intro h
      simp only [List.getElem_cons_zero] at h
      rw [List.filter_cons, if_pos (by simpa using h)]; simp
    · intro h
      simp only [List.getElem_cons_zero] at h
      have : ((k :: r).filter fun k => decide (k.Y ≤ y)) = [] := by
        rw [List.filter_eq_nil_iff]
        intro z hz
        rcases List.mem_cons.1 hz with rfl | q
        · simp; omega
        · have := hp.1 z q; simp; omega
      rw [this]; simp
  | k :: r, hp, y, j + 1, hj => by
    rw [List.pairwise_cons] at hp
    have hj' : j < r.length := by simpa using hj
    have ih := cntY_pw hp.2 y j hj'
    have hk := hp.1 _ (List.getElem_mem hj')
    simp only [List.getElem_cons_succ]
    unfold cntY at ih ⊢
    rw [List.filter_cons]
    constructor
    · intro h
      rw [if_pos (by simp; omega)]
      have := ih.1 h
      simp only [List.length_cons]; omega
    · intro h
      have := ih.2 h
      split
      · simp only [List.length_cons]; omega
      · omega
theorem tabB_pwY {xs : List Kn} (h : tabB xs = true) : xs.Pairwise (fun a b => a.Y ≤ b.Y) :=
  List.pairwise_iff_getElem.2 fun i j _ hj hij => (tabB_lt h i j hij hj).2
theorem cntY_lt {xs : List Kn} (h : tabB xs = true) (y : Int) (j : Nat) (hj : j < xs.length) : j < cntY xs y ↔ xs[j].Y ≤ y := by
  obtain ⟨h1, h2⟩ := cntY_pw (tabB_pwY h) y j hj
  constructor
  · intro hh
    by_cases q : xs[j].Y ≤ y
    · exact q
    · have := h2 (by omega); omega
  · exact h1
theorem cntY_is {xs : List Kn} (h : tabB xs = true) (y : Int) (k : Nat) (hk : k ≤ xs.length) (h1 : ∀ i (hi : i < xs.length), i < k → xs[i].Y ≤ y) (h2 : ∀ i (hi : i < xs.length), k ≤ i → y < xs[i].Y) : k = cntY xs y := by
  have hc := cntY_le xs y
  rcases Nat.lt_trichotomy k (cntY xs y) with q | q | q
  · have := (cntY_lt h y k (by omega)).1 q
    have := h2 k (by omega) (Nat.le_refl _)
    omega
  · exact q
  · have h3 := h1 (cntY xs y) (by omega) q
    have := (cntY_lt h y (cntY xs y) (by omega)).2 h3
    omega
/-- The greatest place with at most the value y. -/
def mostV (xs : List Kn) (y : Int) : Int :=
  let k := cntY xs y
  if k = xs.length then (knAt xs (k - 1)).X
  else (knAt xs (k - 1)).X + (y - (knAt xs (k - 1)).Y) * ((knAt xs k).X - (knAt xs (k - 1)).X) / ((knAt xs k).Y - (knAt xs (k - 1)).Y)
/-- The value between two knots. -/
theorem tabV_seg {xs : List Kn} (h : tabB xs = true) (m : Nat) (hm0 : m < xs.length) (hm1 : m + 1 < xs.length) (x : Int) (h1 : xs[m].X ≤ x) (h2 : x < xs[m + 1].X) :
    tabV xs x = xs[m].Y + (xs[m + 1].Y - xs[m].Y) * (x - xs[m].X) / (xs[m + 1].X - xs[m].X) := by
  rw [← refV_is h x]
  have hk : cntX xs (x + 1) = m + 1 := by
    refine (cntX_is h (x + 1) (m + 1) (by omega) (fun i hi q => ?_) (fun i hi q => ?_)).symm
    · rcases Nat.lt_or_eq_of_le (show i ≤ m by omega) with g | g
      · have := (tabB_lt h i m g hm0).1; omega
      · subst g; omega
    · rcases Nat.lt_or_eq_of_le q with g | g
      · have := (tabB_lt h (m + 1) i g hi).1; omega
      · subst g; omega
  unfold refV
  simp only [hk]
  rw [if_neg (by omega), if_neg (by omega), Nat.add_sub_cancel, knAt_is hm0, knAt_is hm1]
theorem mostV_mid {xs : List Kn} (h : tabB xs = true) (y : Int) (m : Nat) (hm0 : m < xs.length) (hm1 : m + 1 < xs.length) (hk : cntY xs y = m + 1) :
    mostV xs y = xs[m].X + (y - xs[m].Y) * (xs[m + 1].X - xs[m].X) / (xs[m + 1].Y - xs[m].Y) ∧ xs[m].Y ≤ y ∧ y < xs[m + 1].Y := by
  refine ⟨?_, (cntY_lt h y m hm0).1 (by omega), ?_⟩
  · unfold mostV
    simp only [hk]
    rw [if_neg (by omega), Nat.add_sub_cancel, knAt_is hm0, knAt_is hm1]
  · have := (cntY_lt h y (m + 1) hm1)
    by_cases q : xs[m + 1].Y ≤ y
    · have := this.2 q; omega
    · omega
theorem mostV_end {xs : List Kn} (h : tabB xs = true) (y : Int) (hk : cntY xs y = xs.length) : mostV xs y = (xs[xs.length - 1]'(by have := tabB_len h; omega)).X := by
  have := tabB_len h
  unfold mostV
  simp only [hk, if_true]
  rw [knAt_is (by omega)]

/-- Where the place lies. -/
theorem mostV_bd {xs : List Kn} (h : tabB xs = true) (y : Int) (h0 : (xs[0]'(by have := tabB_len h; omega)).Y ≤ y) :
    (xs[0]'(by have := tabB_len h; omega)).X ≤ mostV xs y ∧ mostV xs y ≤ (xs[xs.length - 1]'(by have := tabB_len h; omega)).X ∧ ((xs[xs.length - 1]'(by have := tabB_len h; omega)).Y ≤ y ∨ mostV xs y < (xs[xs.length - 1]'(by have := tabB_len h; omega)).X) := by
  have hl := tabB_len h
  have hc := cntY_le xs y
  have hx : ∀ i j (_ : i ≤ j) (hj : j < xs.length), xs[i].X ≤ xs[j].X := by
    intro i j hij hj
    rcases Nat.lt_or_eq_of_le hij with q | rfl
    · have := (tabB_lt h i j q hj).1; omega
    · exact Int.le_refl _
  have hk0 : 0 < cntY xs y := (cntY_lt h y 0 (by omega)).2 h0
  by_cases hk : cntY xs y = xs.length
  · rw [mostV_end h y hk]
    refine ⟨hx 0 _ (by omega) (by omega), Int.le_refl _, .inl ?_⟩
    exact (cntY_lt h y (xs.length - 1) (by omega)).1 (by omega)
  · obtain ⟨m, hm⟩ : ∃ m, cntY xs y = m + 1 := ⟨cntY xs y - 1, by omega⟩
    obtain ⟨e, e1, e2⟩ := mostV_mid h y m (by omega) (by omega) hm
    have hst := (tabB_lt h m (m + 1) (by omega) (by omega)).1
    have g0 := hx 0 m (by omega) (by omega)
    have g1 := hx (m + 1) (xs.length - 1) (by omega) (by omega)
    rw [e]
    generalize xs[m] = a at *
    generalize xs[m + 1] = b at *
    have n1 : 0 ≤ (y - a.Y) * (b.X - a.X) / (b.Y - a.Y) := Int.ediv_nonneg (Int.mul_nonneg (by omega) (by omega)) (by omega)
    have n2 : (y - a.Y) * (b.X - a.X) / (b.Y - a.Y) < b.X - a.X := by
      refine Int.ediv_lt_of_lt_mul (by omega) ?_
      rw [Int.mul_comm (b.X - a.X)]
      exact Int.mul_lt_mul_of_pos_right (by omega) (by omega)
    omega

/-- The value at the place is at most y. -/
theorem tabV_most {xs : List Kn} (h : tabB xs = true) (y : Int) (h0 : (xs[0]'(by have := tabB_len h; omega)).Y ≤ y) : tabV xs (mostV xs y) ≤ y := by
  have hl := tabB_len h
  have hc := cntY_le xs y
  have hk0 : 0 < cntY xs y := (cntY_lt h y 0 (by omega)).2 h0
  by_cases hk : cntY xs y = xs.length
  · have := (tabV_bd h (mostV xs y)).2
    have := (cntY_lt h y (xs.length - 1) (by omega)).1 (by omega)
    omega
  · obtain ⟨m, hm⟩ : ∃ m, cntY xs y = m + 1 := ⟨cntY xs y - 1, by omega⟩
    obtain ⟨e, e1, e2⟩ := mostV_mid h y m (by omega) (by omega) hm
    have hst := (tabB_lt h m (m + 1) (by omega) (by omega)).1
    have n1 : 0 ≤ (y - xs[m].Y) * (xs[m + 1].X - xs[m].X) / (xs[m + 1].Y - xs[m].Y) := Int.ediv_nonneg (Int.mul_nonneg (by omega) (by omega)) (by omega)
    have n2 : (y - xs[m].Y) * (xs[m + 1].X - xs[m].X) / (xs[m + 1].Y - xs[m].Y) < xs[m + 1].X - xs[m].X := by
      refine Int.ediv_lt_of_lt_mul (by omega) ?_
      rw [Int.mul_comm (xs[m + 1].X - xs[m].X)]
      exact Int.mul_lt_mul_of_pos_right (by omega) (by omega)
    rw [tabV_seg h m (by omega) (by omega) _ (by omega) (by omega), e]
    generalize xs[m] = a at *
    generalize xs[m + 1] = b at *
    have hd : (y - a.Y) * (b.X - a.X) / (b.Y - a.Y) * (b.Y - a.Y) ≤ (y - a.Y) * (b.X - a.X) := Int.ediv_mul_le _ (by omega)
    have hz : (b.Y - a.Y) * (a.X + (y - a.Y) * (b.X - a.X) / (b.Y - a.Y) - a.X) / (b.X - a.X) ≤ y - a.Y := by
      refine Int.ediv_le_of_le_mul (by omega) ?_
      rw [show a.X + (y - a.Y) * (b.X - a.X) / (b.Y - a.Y) - a.X = (y - a.Y) * (b.X - a.X) / (b.Y - a.Y) from by omega, Int.mul_comm (b.Y - a.Y)]
      exact hd
    omega

/-- The places do not descend. -/
theorem mostV_mono {xs : List Kn} (h : tabB xs = true) {y z : Int} (hyz : y ≤ z) (h0 : (xs[0]'(by have := tabB_len h; omega)).Y ≤ y) : mostV xs y ≤ mostV xs z := by
  have hl := tabB_len h
  have hcy := cntY_le xs y
  have hcz := cntY_le xs z
  have hky : 0 < cntY xs y := (cntY_lt h y 0 (by omega)).2 h0
  have hle : cntY xs y ≤ cntY xs z := by
    rcases Nat.lt_or_ge (cntY xs z) (cntY xs y) with q | q
    · have h1 := (cntY_lt h y (cntY xs z) (by omega)).1 q
      have := (cntY_lt h z (cntY xs z) (by omega)).2 (by omega)
      omega
    · exact q
  have hx : ∀ i j (_ : i ≤ j) (hj : j < xs.length), xs[i].X ≤ xs[j].X := by
    intro i j hij hj
    rcases Nat.lt_or_eq_of_le hij with q | rfl
    · have := (tabB_lt h i j q hj).1; omega
    · exact Int.le_refl _
  have hub : ∀ (w : Int) (m : Nat) (hm0 : m < xs.length) (hm1 : m + 1 < xs.length), cntY xs w = m + 1 → xs[m].X ≤ mostV xs w ∧ mostV xs w < xs[m + 1].X := by
    intro w m hm0 hm1 hm
    obtain ⟨e, e1, e2⟩ := mostV_mid h w m hm0 hm1 hm
    have hst := (tabB_lt h m (m + 1) (by omega) hm1).1
    rw [e]
    generalize xs[m] = a at *
    generalize xs[m + 1] = b at *
    have n1 : 0 ≤ (w - a.Y) * (b.X - a.X) / (b.Y - a.Y) := Int.ediv_nonneg (Int.mul_nonneg (by omega) (by omega)) (by omega)
    have n2 : (w - a.Y) * (b.X - a.X) / (b.Y - a.Y) < b.X - a.X := by
      refine Int.ediv_lt_of_lt_mul (by omega) ?_
      rw [Int.mul_comm (b.X - a.X)]
      exact Int.mul_lt_mul_of_pos_right (by omega) (by omega)
    omega
  by_cases hy : cntY xs y = xs.length
  · rw [mostV_end h y hy, mostV_end h z (by omega)]
    exact Int.le_refl _
  · obtain ⟨m, hm⟩ : ∃ m, cntY xs y = m + 1 := ⟨cntY xs y - 1, by omega⟩
    have uy := hub y m (by omega) (by omega) hm
    by_cases hz : cntY xs z = xs.length
    · rw [mostV_end h z hz]
      have := hx (m + 1) (xs.length - 1) (by omega) (by omega)
      omega
    · obtain ⟨p, hp⟩ : ∃ p, cntY xs z = p + 1 := ⟨cntY xs z - 1, by omega⟩
      have uz := hub z p (by omega) (by omega) hp
      rcases Nat.lt_or_eq_of_le (show m ≤ p by omega) with q | rfl
      · have := hx (m + 1) p (by omega) (by omega)
        omega
      · obtain ⟨e, e1, e2⟩ := mostV_mid h y m (by omega) (by omega) hm
        obtain ⟨e', e1', e2'⟩ := mostV_mid h z m (by omega) (by omega) hp
        rw [e, e']
        have hst := (tabB_lt h m (m + 1) (by omega) (by omega)).1
        generalize xs[m] = a at *
        generalize xs[m + 1] = b at *
        have := Int.ediv_le_ediv (show 0 < b.Y - a.Y by omega) (show (y - a.Y) * (b.X - a.X) ≤ (z - a.Y) * (b.X - a.X) from Int.mul_le_mul_of_nonneg_right (by omega) (by omega))
        omega

end Go.Proofs.YtjgfgbiohbgcaaaGreat

namespace Go.Proofs.YtjgfgbiohbgcaaaGreat
open Go.RowKit
set_option linter.unusedVariables false
set_option linter.unusedSimpArgs false

theorem idx_cntY : ∀ {xs : List Kn}, xs.Pairwise (fun a b => a.Y ≤ b.Y) → ∀ (y : Int) (i : Nat), idxFrom (fun k : Kn => decide (y < k.Y)) xs i = if cntY xs y = xs.length then -1 else ((i + cntY xs y : Nat) : Int)
  | [], _, y, i => by simp [idxFrom, cntY]
  | k :: r, hp, y, i => by
    rw [List.pairwise_cons] at hp
    have ih := idx_cntY hp.2 y (i + 1)
    have hle := cntY_le r y
    by_cases h : y < k.Y
    · have h0 : cntY (k :: r) y = 0 := by
        unfold cntY
        rw [List.length_eq_zero_iff, List.filter_eq_nil_iff]
        intro z hz
        rcases List.mem_cons.1 hz with rfl | q
        · simp; omega
        · have := hp.1 z q; simp; omega
      rw [h0]
      simp [idxFrom, h]
    · have h1 : cntY (k :: r) y = cntY r y + 1 := by
        unfold cntY
        rw [List.filter_cons, if_pos (by simp; omega)]; simp
      rw [h1]
      simp only [idxFrom, List.length_cons]
      rw [if_neg (by simpa using h), ih]
      by_cases q : cntY r y = r.length
      · rw [if_pos q, if_pos (by omega)]
      · rw [if_neg q, if_neg (by omega)]; omega
def befY (y : Int) : List Kn → Nat → Int → Int
  | [], _, k => k
  | a :: r, i, k => befY y r (i + 1) (if a.Y ≤ y then (i : Int) else k)
theorem cntY_take_step (xs : List Kn) (y : Int) (i : Nat) (hi : i < xs.length) : cntY (xs.take (i + 1)) y = cntY (xs.take i) y + (if xs[i].Y ≤ y then 1 else 0) := by
  unfold cntY
  rw [List.take_succ_eq_append_getElem hi, List.filter_append, List.length_append]
  congr 1
  by_cases h : xs[i].Y ≤ y
  · simp [h]
  · simp [h]
theorem cntY_take_full {xs : List Kn} (h : tabB xs = true) (y : Int) (i : Nat) (hi : i < xs.length) (hx : xs[i].Y ≤ y) : cntY (xs.take i) y = i := by
  unfold cntY
  rw [List.filter_eq_self.2]
  · simp; omega
  · intro a ha
    obtain ⟨j, hj, rfl⟩ := List.getElem_of_mem ha
    rw [List.getElem_take]
    simp at hj
    have := (tabB_lt h j i (by omega) hi).2
    simp; omega
theorem befY_is {F : List Kn} (h : tabB F = true) (y : Int) (h0 : (F[0]'(by have := tabB_len h; omega)).Y ≤ y) : ∀ (xs : List Kn) (i : Nat) (k : Int), F.drop i = xs → i ≤ F.length → (i = 0 ∧ k = 0 ∨ k = (cntY (F.take i) y : Int) - 1) → befY y xs i k = (cntY F y : Int) - 1
  | [], i, k, hd, hi, hk => by
    have hl := tabB_len h
    rw [List.drop_eq_nil_iff] at hd
    rcases hk with ⟨rfl, _⟩ | hk
    · omega
    · rw [List.take_of_length_le hd] at hk
      exact hk
  | a :: r, i, k, hd, hi, hk => by
    have hlt : i < F.length := by
      rcases Nat.lt_or_ge i F.length with q | q
      · exact q
      · rw [List.drop_eq_nil_of_le q] at hd; cases hd
    rw [List.drop_eq_getElem_cons hlt] at hd
    simp only [List.cons.injEq] at hd
    obtain ⟨rfl, hd2⟩ := hd
    refine befY_is h y h0 r (i + 1) _ hd2 hlt (.inr ?_)
    rw [cntY_take_step F y i hlt]
    by_cases q : F[i].Y ≤ y
    · rw [if_pos q, if_pos q, cntY_take_full h y i hlt q]; omega
    · rw [if_neg q, if_neg q]
      rcases hk with ⟨rfl, rfl⟩ | hk
      · exact absurd h0 q
      · rw [hk]; simp

end Go.Proofs.YtjgfgbiohbgcaaaGreat

namespace Go.Proofs.YtjgfgbiohbgcaaaGreat
open Go.RowKit
set_option linter.unusedVariables false
set_option linter.unusedSimpArgs false

def tabC (xs : List Kn) (x : Int) : Int := if 0 < (tabP xs x).2.1 then tabV xs x + 1 else tabV xs x
theorem tabC_knot {xs : List Kn} (h : tabB xs = true) (i : Nat) (hi : i < xs.length) : tabC xs xs[i].X = xs[i].Y := by
  have hk : cntX xs xs[i].X = i := by
    refine (cntX_is h _ i (by omega) (fun j hj q => (tabB_lt h j i q hi).1) (fun j hj q => ?_)).symm
    rcases Nat.lt_or_eq_of_le q with g | g
    · have := (tabB_lt h i j g hj).1; omega
    · subst g; exact Int.le_refl _
  have hh : hitX xs xs[i].X = true := by
    simp only [hitX, hk, Bool.and_eq_true, decide_eq_true_eq]
    exact ⟨hi, by rw [knAt_is hi]⟩
  have hP := tabV_hit (.inl hh)
  unfold tabC tabV
  rw [hP, hk, knAt_is hi]
  simp
theorem tabC_aux (aX aY bX bY y : Int) (hD : aX < bX) (h1 : aY ≤ y) (h2 : y < bY) :
    y < if 0 < (bY - aY) * (aX + (y - aY) * (bX - aX) / (bY - aY) + 1 - aX) % (bX - aX) then aY + (bY - aY) * (aX + (y - aY) * (bX - aX) / (bY - aY) + 1 - aX) / (bX - aX) + 1
      else aY + (bY - aY) * (aX + (y - aY) * (bX - aX) / (bY - aY) + 1 - aX) / (bX - aX) := by
  obtain ⟨q, hq⟩ : ∃ q, (y - aY) * (bX - aX) / (bY - aY) = q := ⟨_, rfl⟩
  rw [hq]
  have hlt : (y - aY) * (bX - aX) < (q + 1) * (bY - aY) := by
    rw [← hq]
    exact Int.lt_ediv_add_one_mul_self ((y - aY) * (bX - aX)) (show 0 < bY - aY by omega)
  rw [show aX + q + 1 - aX = q + 1 from by omega, Int.mul_comm (bY - aY)]
  generalize (q + 1) * (bY - aY) = V at *
  have d1 := Int.emod_add_mul_ediv V (bX - aX)
  have hcase : y - aY < V / (bX - aX) ∨ (y - aY = V / (bX - aX) ∧ 0 < V % (bX - aX)) := by
    rcases Int.lt_trichotomy (y - aY) (V / (bX - aX)) with g | g | g
    · exact .inl g
    · refine .inr ⟨g, ?_⟩
      rw [g, Int.mul_comm] at hlt
      omega
    · exfalso
      have h3 : (V / (bX - aX) + 1) * (bX - aX) ≤ (y - aY) * (bX - aX) := Int.mul_le_mul_of_nonneg_right (by omega) (by omega)
      have := Int.lt_ediv_add_one_mul_self V (show 0 < bX - aX by omega)
      omega
  generalize V / (bX - aX) = Q at *
  generalize V % (bX - aX) = R at *
  rcases hcase with g | ⟨g1, g2⟩
  · split <;> omega
  · rw [if_pos g2]; omega
theorem tabC_next {xs : List Kn} (h : tabB xs = true) (y : Int) (h0 : (xs[0]'(by have := tabB_len h; omega)).Y ≤ y) (h1 : mostV xs y < (xs[xs.length - 1]'(by have := tabB_len h; omega)).X) : y < tabC xs (mostV xs y + 1) := by
  have hl := tabB_len h
  have hc := cntY_le xs y
  have hk0 : 0 < cntY xs y := (cntY_lt h y 0 (by omega)).2 h0
  by_cases hk : cntY xs y = xs.length
  · rw [mostV_end h y hk] at h1; omega
  · obtain ⟨m, hm⟩ : ∃ m, cntY xs y = m + 1 := ⟨cntY xs y - 1, by omega⟩
    obtain ⟨e, e1, e2⟩ := mostV_mid h y m (by omega) (by omega) hm
    have hst := (tabB_lt h m (m + 1) (by omega) (by omega)).1
    have n1 : 0 ≤ (y - xs[m].Y) * (xs[m + 1].X - xs[m].X) / (xs[m + 1].Y - xs[m].Y) := Int.ediv_nonneg (Int.mul_nonneg (by omega) (by omega)) (by omega)
    have n2 : (y - xs[m].Y) * (xs[m + 1].X - xs[m].X) / (xs[m + 1].Y - xs[m].Y) < xs[m + 1].X - xs[m].X := by
      refine Int.ediv_lt_of_lt_mul (by omega) ?_
      rw [Int.mul_comm (xs[m + 1].X - xs[m].X)]
      exact Int.mul_lt_mul_of_pos_right (by omega) (by omega)
    by_cases hx : mostV xs y + 1 = xs[m + 1].X
    · rw [hx, tabC_knot h (m + 1) (by omega)]; omega
    · have hkx : cntX xs (mostV xs y + 1) = m + 1 := by
        refine (cntX_is h _ (m + 1) (by omega) (fun j hj q => ?_) (fun j hj q => ?_)).symm
        · rcases Nat.lt_or_eq_of_le (show j ≤ m by omega) with g | g
          · have := (tabB_lt h j m g (by omega)).1; omega
          · subst g; omega
        · rcases Nat.lt_or_eq_of_le q with g | g
          · have := (tabB_lt h (m + 1) j g hj).1; omega
          · subst g; omega
      have hnh : ¬ (hitX xs (mostV xs y + 1) = true ∨ cntX xs (mostV xs y + 1) = 0) := by
        rw [hkx]
        simp only [hitX, hkx, Bool.and_eq_true, decide_eq_true_eq]
        rw [knAt_is (by omega)]
        omega
      have hP := tabV_mid hnh (by rw [hkx]; omega)
      rw [hkx, Nat.add_sub_cancel, knAt_is (show m < xs.length by omega), knAt_is (show m + 1 < xs.length by omega)] at hP
      unfold tabC tabV
      rw [hP, e]
      exact tabC_aux xs[m].X xs[m].Y xs[m + 1].X xs[m + 1].Y y hst e1 e2

end Go.Proofs.YtjgfgbiohbgcaaaGreat
