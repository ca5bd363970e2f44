/- A shaft that is widened holds, up to rounding, what both areas hold: plainly. No function of the program is named. Conditions: the numbers lie in the ranges of a shaft. -/
import Derived.Test.YtjgfgbiohbgcaaaSwp
namespace Go.Proofs.Ytjgfgbiohbgcaaa
open Go.RowKit
set_option linter.unusedVariables false
set_option linter.unusedSimpArgs false

theorem tab2 (D V : Int) (h1 : 0 < D) (h2 : D ≤ 1125899906842624) (h3 : 0 ≤ V) (h4 : V ≤ 1125899906842624) : tabB [⟨0, 0⟩, ⟨D, V⟩] = true := by
  rw [tabB, Bool.and_eq_true, decide_eq_true_eq]
  refine ⟨by simp, (allFrom_iff _ _).2 fun i hi => ?_⟩
  have : i = 0 ∨ i = 1 := by simp at hi; omega
  rcases this with rfl | rfl
  · simp [knB, fitB]
  · simp [knB, fitB]; omega
theorem tab3 (A B D V : Int) (h1 : 0 < A) (h2 : A < D) (h3 : D ≤ 1125899906842624) (h4 : 0 ≤ B) (h5 : B ≤ V) (h6 : V ≤ 1125899906842624) : tabB [⟨0, 0⟩, ⟨A, B⟩, ⟨D, V⟩] = true := by
  rw [tabB, Bool.and_eq_true, decide_eq_true_eq]
  refine ⟨by simp, (allFrom_iff _ _).2 fun i hi => ?_⟩
  have : i = 0 ∨ i = 1 ∨ i = 2 := by simp at hi; omega
  rcases this with rfl | rfl | rfl
  · simp [knB, fitB]
  · simp [knB, fitB]; omega
  · simp [knB, fitB]; omega
theorem tabV_knot {xs : List Kn} (h : tabB xs = true) (i : Nat) (hi : i < xs.length) : tabV xs xs[i].X = xs[i].Y := by
  obtain ⟨b1, b2⟩ := tabV_between h xs[i].X
  have := b1 i hi (Int.le_refl _)
  have := b2 i hi (Int.le_refl _)
  omega
theorem val2 (D V x : Int) (h1 : 0 < D) (h2 : D ≤ 1125899906842624) (h3 : 0 ≤ V) (h4 : V ≤ 1125899906842624) (hx : 0 ≤ x) (hx2 : x < D) : tabV [⟨0, 0⟩, ⟨D, V⟩] x = V * x / D := by
  have h := tabV_seg (tab2 D V h1 h2 h3 h4) 0 (by simp) (by simp) x (by simpa using hx) (by simpa using hx2)
  simpa using h
theorem val2e (D V : Int) (h1 : 0 < D) (h2 : D ≤ 1125899906842624) (h3 : 0 ≤ V) (h4 : V ≤ 1125899906842624) : tabV [⟨0, 0⟩, ⟨D, V⟩] D = V := by
  have h := tabV_knot (tab2 D V h1 h2 h3 h4) 1 (by simp)
  simpa using h
theorem val3a (A B D V x : Int) (h1 : 0 < A) (h2 : A < D) (h3 : D ≤ 1125899906842624) (h4 : 0 ≤ B) (h5 : B ≤ V) (h6 : V ≤ 1125899906842624) (hx : 0 ≤ x) (hx2 : x < A) : tabV [⟨0, 0⟩, ⟨A, B⟩, ⟨D, V⟩] x = B * x / A := by
  have h := tabV_seg (tab3 A B D V h1 h2 h3 h4 h5 h6) 0 (by simp) (by simp) x (by simpa using hx) (by simpa using hx2)
  simpa using h
theorem val3b (A B D V x : Int) (h1 : 0 < A) (h2 : A < D) (h3 : D ≤ 1125899906842624) (h4 : 0 ≤ B) (h5 : B ≤ V) (h6 : V ≤ 1125899906842624) (hx : A ≤ x) (hx2 : x < D) : tabV [⟨0, 0⟩, ⟨A, B⟩, ⟨D, V⟩] x = B + (V - B) * (x - A) / (D - A) := by
  have h := tabV_seg (tab3 A B D V h1 h2 h3 h4 h5 h6) 1 (by simp) (by simp) x (by simpa using hx) (by simpa using hx2)
  simpa using h
theorem val3e (A B D V : Int) (h1 : 0 < A) (h2 : A < D) (h3 : D ≤ 1125899906842624) (h4 : 0 ≤ B) (h5 : B ≤ V) (h6 : V ≤ 1125899906842624) : tabV [⟨0, 0⟩, ⟨A, B⟩, ⟨D, V⟩] D = V := by
  have h := tabV_knot (tab3 A B D V h1 h2 h3 h4 h5 h6) 2 (by simp)
  simpa using h

/-- A quotient, rounded down. -/
theorem fl_le (n d : Int) (hd : 0 < d) : n / d * d ≤ n ∧ n < (n / d + 1) * d := ⟨Int.ediv_mul_le _ (by omega), Int.lt_ediv_add_one_mul_self _ hd⟩

/-- Between the depth and the end: the exact values of both sides lie within two of each other. -/
theorem wide_mid (V T A m S D x a tv M q e : Int) (hT : 0 < T) (hA : 0 ≤ A) (hD : D = A + T) (hx : x = A + S) (hS : 0 ≤ S) (hST : S ≤ T) (hD0 : 0 < D)
    (a1 : a * D ≤ V * x) (a2 : V * x < (a + 1) * D) (t1 : tv * D ≤ V * A) (t2 : V * A < (tv + 1) * D) (M1 : M * 1000 ≤ m * T) (M2 : m * T < (M + 1) * 1000)
    (q1 : q * T ≤ (V + M - tv) * S) (q2 : (V + M - tv) * S < (q + 1) * T) (e1 : e * 1000 ≤ m * S) (e2 : m * S < (e + 1) * 1000) :
    tv + q ≤ a + e + 1 ∧ a + e - 1 ≤ tv + q := by
  have s1 : 0 ≤ T - S := by omega
  have k1 : tv * D * (T - S) ≤ V * A * (T - S) := Int.mul_le_mul_of_nonneg_right t1 s1
  have k2 : M * 1000 * (S * D) ≤ m * T * (S * D) := Int.mul_le_mul_of_nonneg_right M1 (Int.mul_nonneg hS (by omega))
  have k3 : q * T * (1000 * D) ≤ (V + M - tv) * S * (1000 * D) := Int.mul_le_mul_of_nonneg_right q1 (by omega)
  have k4 : V * A * (T - S) ≤ (tv + 1) * D * (T - S) := Int.mul_le_mul_of_nonneg_right (by omega) s1
  have k5 : m * T * (S * D) ≤ (M + 1) * 1000 * (S * D) := Int.mul_le_mul_of_nonneg_right (by omega) (Int.mul_nonneg hS (by omega))
  have k6 : (V + M - tv) * S * (1000 * D) < (q + 1) * T * (1000 * D) := Int.mul_lt_mul_of_pos_right q2 (by omega)
  have k7 : e * 1000 * D ≤ m * S * D := Int.mul_le_mul_of_nonneg_right e1 (by omega)
  have k8 : m * S * D < (e + 1) * 1000 * D := Int.mul_lt_mul_of_pos_right e2 hD0
  have up : T * (1000 * D * (tv + q)) < T * (1000 * D * (a + e + 2)) := by
    have h1 : T * (1000 * D * (tv + q)) ≤ T * (1000 * (V * x) + D * m * S) := by
      have : T * (1000 * D * (tv + q)) = 1000 * (tv * D * (T - S)) + (q * T * (1000 * D)) + 1000 * (tv * D * S) := by grind
      have : T * (1000 * (V * x) + D * m * S) = 1000 * (V * A * (T - S)) + (V * S * (1000 * D)) + m * T * (S * D) := by grind
      have : (V + M - tv) * S * (1000 * D) + 1000 * (tv * D * S) = V * S * (1000 * D) + M * 1000 * (S * D) := by grind
      omega
    have h2 : T * (1000 * (V * x) + D * m * S) < T * (1000 * D * (a + e + 2)) := by
      refine Int.mul_lt_mul_of_pos_left ?_ hT
      have : 1000 * D * (a + e + 2) = 1000 * ((a + 1) * D) + (e + 1) * 1000 * D := by grind
      have : D * m * S = m * S * D := by grind
      omega
    omega
  have lo : T * (1000 * D * (a + e - 1)) < T * (1000 * D * (tv + q + 1)) := by
    have h1 : T * (1000 * (V * x) + D * m * S - 1000 * D) < T * (1000 * D * (tv + q + 1)) := by
      have : T * (1000 * D * (tv + q + 1)) = 1000 * (tv * D * (T - S)) + ((q + 1) * T * (1000 * D)) + 1000 * (tv * D * S) := by grind
      have : T * (1000 * (V * x) + D * m * S - 1000 * D) = 1000 * (V * A * (T - S)) + (V * S * (1000 * D)) + m * T * (S * D) - 1000 * D * T := by grind
      have : (V + M - tv) * S * (1000 * D) + 1000 * (tv * D * S) = V * S * (1000 * D) + M * 1000 * (S * D) := by grind
      have : (tv + 1) * D * (T - S) = tv * D * (T - S) + D * T - D * S := by grind
      have : (M + 1) * 1000 * (S * D) = M * 1000 * (S * D) + 1000 * (D * S) := by grind
      have : 1000 * D * T = 1000 * (D * T) := by grind
      omega
    have h2 : T * (1000 * D * (a + e - 1)) ≤ T * (1000 * (V * x) + D * m * S - 1000 * D) := by
      refine Int.mul_le_mul_of_nonneg_left ?_ (by omega)
      have : 1000 * D * (a + e - 1) = 1000 * (a * D) + e * 1000 * D - 1000 * D := by grind
      have : D * m * S = m * S * D := by grind
      omega
    omega
  have c0 : 0 < T := hT
  have up2 := Int.lt_of_mul_lt_mul_left up (by omega)
  have lo2 := Int.lt_of_mul_lt_mul_left lo (by omega)
  have up3 := Int.lt_of_mul_lt_mul_left up2 (by omega)
  have lo3 := Int.lt_of_mul_lt_mul_left lo2 (by omega)
  omega

/-- Ahead of the depth. -/
theorem wide_pre (V A D x a tv b : Int) (hA : 0 < A) (hD0 : 0 < D) (hx : 0 ≤ x) (hxA : x ≤ A)
    (a1 : a * D ≤ V * x) (a2 : V * x < (a + 1) * D) (t1 : tv * D ≤ V * A) (t2 : V * A < (tv + 1) * D) (b1 : b * A ≤ tv * x) (b2 : tv * x < (b + 1) * A) : b ≤ a ∧ a - 1 ≤ b := by
  have k1 : tv * D * x ≤ V * A * x := Int.mul_le_mul_of_nonneg_right t1 hx
  have k2 : V * A * x ≤ (tv + 1) * D * x := Int.mul_le_mul_of_nonneg_right (by omega) hx
  have k3 : b * A * D ≤ tv * x * D := Int.mul_le_mul_of_nonneg_right b1 (by omega)
  have k4 : tv * x * D < (b + 1) * A * D := Int.mul_lt_mul_of_pos_right b2 hD0
  have k5 : a * D * A ≤ V * x * A := Int.mul_le_mul_of_nonneg_right a1 (by omega)
  have k6 : V * x * A < (a + 1) * D * A := Int.mul_lt_mul_of_pos_right a2 hA
  have k7 : D * x ≤ D * A := Int.mul_le_mul_of_nonneg_left hxA (by omega)
  have up : (A * D) * b < (A * D) * (a + 1) := by
    have : (A * D) * b = b * A * D := by grind
    have : (A * D) * (a + 1) = (a + 1) * D * A := by grind
    have : tv * x * D = tv * D * x := by grind
    have : V * A * x = V * x * A := by grind
    omega
  have lo : (A * D) * (a - 1) < (A * D) * (b + 1) := by
    have : (A * D) * (b + 1) = (b + 1) * A * D := by grind
    have : (A * D) * (a - 1) = a * D * A - D * A := by grind
    have : tv * x * D = tv * D * x := by grind
    have : V * A * x = V * x * A := by grind
    have : (tv + 1) * D * x = tv * D * x + D * x := by grind
    omega
  have hAD : 0 ≤ A * D := Int.mul_nonneg (by omega) (by omega)
  have := Int.lt_of_mul_lt_mul_left up hAD
  have := Int.lt_of_mul_lt_mul_left lo hAD
  omega

abbrev shaL (D V : Int) : List Kn := [⟨0, 0⟩, ⟨D, V⟩]
def extraV (d m x : Int) : Int := if d < x then m * (x - d) / 1000 else 0
structure WideOk (L : List Kn) (D V d m x : Int) : Prop where
  tab : tabB L = true
  len : 0 < L.length
  first : L[0] = ⟨0, 0⟩
  last : (L[L.length - 1]'(by omega)).X = D
  lo : tabV (shaL D V) x - 1 ≤ tabV L x
  d1 : -3 ≤ tabV L x - tabV (shaL D V) x - extraV d m x
  d2 : tabV L x - tabV (shaL D V) x - extraV d m x ≤ 3
theorem cnt2 (D V d : Int) (hD : 0 < D) (hd0 : 0 ≤ d) (hd : d ≤ D) : cntX (shaL D V) d = if d = 0 then 0 else 1 := by
  unfold cntX
  by_cases h : d = 0
  · rw [if_pos h]
    have e1 : decide ((0 : Int) < d) = false := decide_eq_false (by omega)
    have e2 : decide (D < d) = false := decide_eq_false (by omega)
    simp [List.filter_cons, e1, e2]
  · rw [if_neg h]
    have e1 : decide ((0 : Int) < d) = true := decide_eq_true (by omega)
    have e2 : decide (D < d) = false := decide_eq_false (by omega)
    simp [List.filter_cons, e1, e2]
theorem wide_ok (D V d m x : Int) (h1 : 1 ≤ D) (h2 : D ≤ 4194304) (h3 : 0 ≤ V) (h4 : V ≤ 1125899906842624) (hd0 : 0 ≤ d) (hd : d ≤ D) (hm : 0 ≤ m) (hnb : (widL (shaL D V) d m).any bigB = false) (hx : 0 ≤ x) (hx2 : x ≤ D) :
    WideOk (widL (shaL D V) d m) D V d m x := by
  have hDp : 0 < D := by omega
  have hDb : D ≤ 1125899906842624 := by omega
  have hc := cnt2 D V d hDp hd0 hd
  have hMn : 0 ≤ m * (D - d) / 1000 := Int.ediv_nonneg (Int.mul_nonneg hm (by omega)) (by decide)
  obtain ⟨M1, M2⟩ := fl_le (m * (D - d)) 1000 (by decide)
  have hex : extraV d m x * 1000 ≤ m * (x - d) ∨ x ≤ d := by
    unfold extraV
    by_cases q : d < x
    · rw [if_pos q]; exact .inl (fl_le _ _ (by decide)).1
    · exact .inr (by omega)
  have hexS : ∀ S, x = d + S → 0 ≤ S → extraV d m x = m * S / 1000 := by
    intro S hS hS0
    unfold extraV
    by_cases q : d < x
    · rw [if_pos q, show x - d = S by omega]
    · rw [if_neg q, show S = 0 by omega]; simp
  by_cases z0 : d = 0
  · -- a further area from the ground upwards
    rw [if_pos z0] at hc
    have hh : hitX (shaL D V) d = true := by unfold hitX; rw [hc]; simp [knAt, z0]
    have hL : widL (shaL D V) d m = [⟨0, 0⟩, ⟨D, V + m * (D - d) / 1000⟩] := by
      unfold widL insL; rw [if_pos hh]; simp only [shaL, List.map_cons, List.map_nil, widK]; rw [if_neg (by omega), if_pos (by omega)]
    rw [hL] at hnb ⊢
    have hW : V + m * (D - d) / 1000 ≤ 1125899906842624 := by simp [bigB] at hnb; omega
    have ht := tab2 D (V + m * (D - d) / 1000) hDp hDb (by omega) hW
    by_cases hxD : x = D
    · subst hxD
      have b := val2e x (V + m * (x - d) / 1000) hDp hDb (by omega) hW
      have a := val2e x V hDp hDb h3 h4
      have e := hexS (x - d) (by omega) (by omega)
      exact ⟨ht, by simp, rfl, rfl, by rw [a, b]; omega, by rw [a, b, e]; omega, by rw [a, b, e]; omega⟩
    · have b := val2 D (V + m * (D - d) / 1000) x hDp hDb (by omega) hW hx (by omega)
      have a := val2 D V x hDp hDb h3 h4 hx (by omega)
      have e := hexS x (by omega) hx
      obtain ⟨a1, a2⟩ := fl_le (V * x) D hDp
      obtain ⟨q1, q2⟩ := fl_le ((V + m * (D - d) / 1000) * x) D hDp
      obtain ⟨e1, e2⟩ := fl_le (m * x) 1000 (by decide)
      have hD' : D - d = D := by omega
      rw [hD'] at M1 M2 hMn q1 q2 b hW ht
      have key := wide_mid V D 0 m x D x (V * x / D) 0 (m * D / 1000) ((V + m * D / 1000) * x / D) (m * x / 1000) hDp (Int.le_refl _) (by omega) (by omega) hx hx2 hDp a1 a2 (by simp) (by simp; omega) M1 M2 (by rw [Int.sub_zero]; exact q1) (by rw [Int.sub_zero]; exact q2) e1 e2
      have hen : 0 ≤ m * x / 1000 := Int.ediv_nonneg (Int.mul_nonneg hm hx) (by decide)
      rw [hD']
      exact ⟨ht, by simp, rfl, rfl, by rw [a, b]; omega, by rw [a, b, e]; omega, by rw [a, b, e]; omega⟩
  · rw [if_neg z0] at hc
    by_cases zD : d = D
    · have hh : hitX (shaL D V) d = true := by unfold hitX; rw [hc]; simp [knAt, zD]
      have hL : widL (shaL D V) d m = shaL D V := by
        unfold widL insL; rw [if_pos hh]; simp only [shaL, List.map_cons, List.map_nil, widK]; rw [if_neg (by omega), if_neg (by omega)]
      rw [hL]
      have e : extraV d m x = 0 := by unfold extraV; rw [if_neg (by omega)]
      exact ⟨tab2 D V hDp hDb h3 h4, by simp, rfl, rfl, by omega, by rw [e]; omega, by rw [e]; omega⟩
    · have hh : ¬ hitX (shaL D V) d = true := by unfold hitX; rw [hc]; simp [knAt]; omega
      have htv := val2 D V d hDp hDb h3 h4 hd0 (by omega)
      have hL : widL (shaL D V) d m = [⟨0, 0⟩, ⟨d, V * d / D⟩, ⟨D, V + m * (D - d) / 1000⟩] := by
        unfold widL insL; rw [if_neg hh, hc, htv]
        simp only [shaL, List.take_succ_cons, List.take_zero, List.drop_succ_cons, List.drop_zero, List.cons_append, List.nil_append, List.map_cons, List.map_nil, widK]
        rw [if_neg (by omega), if_neg (by omega), if_pos (by omega)]
      rw [hL] at hnb ⊢
      have hW : V + m * (D - d) / 1000 ≤ 1125899906842624 := by simp [bigB] at hnb; omega
      obtain ⟨t1, t2⟩ := fl_le (V * d) D hDp
      have htv0 : 0 ≤ V * d / D := Int.ediv_nonneg (Int.mul_nonneg h3 hd0) (by omega)
      have htvV : V * d / D ≤ V := by
        refine Int.ediv_le_of_le_mul hDp ?_
        exact Int.mul_le_mul_of_nonneg_left (by omega) h3
      have ht := tab3 d (V * d / D) D (V + m * (D - d) / 1000) (by omega) (by omega) hDb htv0 (by omega) hW
      by_cases hxD : x = D
      · subst hxD
        have b := val3e d (V * d / x) x (V + m * (x - d) / 1000) (by omega) (by omega) hDb htv0 (by omega) hW
        have a := val2e x V hDp hDb h3 h4
        have e := hexS (x - d) (by omega) (by omega)
        exact ⟨ht, by simp, rfl, rfl, by rw [a, b]; omega, by rw [a, b, e]; omega, by rw [a, b, e]; omega⟩
      · have a := val2 D V x hDp hDb h3 h4 hx (by omega)
        obtain ⟨a1, a2⟩ := fl_le (V * x) D hDp
        by_cases hxd : x < d
        · have b := val3a d (V * d / D) D (V + m * (D - d) / 1000) x (by omega) (by omega) hDb htv0 (by omega) hW hx hxd
          obtain ⟨b1, b2⟩ := fl_le (V * d / D * x) d (by omega)
          have e : extraV d m x = 0 := by unfold extraV; rw [if_neg (by omega)]
          have key := wide_pre V d D x (V * x / D) (V * d / D) (V * d / D * x / d) (by omega) hDp hx (by omega) a1 a2 t1 t2 b1 b2
          exact ⟨ht, by simp, rfl, rfl, by rw [a, b]; omega, by rw [a, b, e]; omega, by rw [a, b, e]; omega⟩
        · have b := val3b d (V * d / D) D (V + m * (D - d) / 1000) x (by omega) (by omega) hDb htv0 (by omega) hW (by omega) (by omega)
          obtain ⟨S, hS⟩ : ∃ S, x - d = S := ⟨_, rfl⟩
          have e := hexS S (by omega) (by omega)
          rw [hS] at b
          obtain ⟨q1, q2⟩ := fl_le ((V + m * (D - d) / 1000 - V * d / D) * S) (D - d) (by omega)
          obtain ⟨e1, e2⟩ := fl_le (m * S) 1000 (by decide)
          have hen : 0 ≤ m * S / 1000 := Int.ediv_nonneg (Int.mul_nonneg hm (by omega)) (by decide)
          have key := wide_mid V (D - d) d m S D x (V * x / D) (V * d / D) (m * (D - d) / 1000) ((V + m * (D - d) / 1000 - V * d / D) * S / (D - d)) (m * S / 1000) (by omega) hd0 (by omega) (by omega) (by omega) (by omega) hDp a1 a2 t1 t2 M1 M2 q1 q2 e1 e2
          exact ⟨ht, by simp, rfl, rfl, by rw [a, b]; omega, by rw [a, b, e]; omega, by rw [a, b, e]; omega⟩

end Go.Proofs.Ytjgfgbiohbgcaaa
