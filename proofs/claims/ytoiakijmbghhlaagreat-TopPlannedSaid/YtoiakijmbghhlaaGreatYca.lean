/- certificate.find: a value sought in a row of pairs. Conditions: the row's volumes ascend. -/
import Derived.Test.YtoiakijmbghhlaaGreatYph
namespace Go.Proofs.YtoiakijmbghhlaaGreat
open Go.RowKit
set_option linter.unusedVariables false
set_option linter.unusedSimpArgs false

/-- A row of a certificate as pairs. -/
def prs : List Int → List (Int × Int)
  | a :: b :: r => (a, b) :: prs r
  | _ => []
theorem prs_at : ∀ (row : List Int) (k : Nat) (h : k < (prs row).length), (prs row)[k] = (row.getD (2 * k) 0, row.getD (2 * k + 1) 0) ∧ 2 * k + 1 < row.length
  | [], k, h => by simp [prs] at h
  | [_], k, h => by simp [prs] at h
  | a :: b :: r, 0, h => by simp [prs]
  | a :: b :: r, k + 1, h => by
    have h' : k < (prs r).length := by simpa [prs] using h
    obtain ⟨h1, h2⟩ := prs_at r k h'
    refine ⟨?_, by simp; omega⟩
    simp only [prs, List.getElem_cons_succ, h1]
    rw [show 2 * (k + 1) = 2 * k + 1 + 1 from by omega]
    simp
theorem prs_len : ∀ (row : List Int), (prs row).length = row.length / 2
  | [] => rfl
  | [_] => by simp [prs]
  | a :: b :: r => by
    simp only [prs, List.length_cons, prs_len r]
    omega
theorem fnd_none : ∀ (P : List (Int × Int)) (t : Int), (∀ k (h : k < P.length), P[k].1 ≠ t) → Pn.fnd P t = none
  | [], t, _ => rfl
  | x :: P, t, h => by
    have h0 := h 0 (by simp)
    simp only [List.getElem_cons_zero] at h0
    have ih := fnd_none P t (fun k hk => by have := h (k + 1) (by simpa using hk); simpa using this)
    unfold Pn.fnd at ih ⊢
    rw [List.find?_cons_of_neg (by simpa using h0)]
    exact ih
theorem fnd_at : ∀ (P : List (Int × Int)) (t : Int) (i : Nat) (hi : i < P.length), P[i].1 = t → (∀ k (h : k < i), (P[k]'(by omega)).1 ≠ t) → Pn.fnd P t = some P[i].2
  | x :: P, t, 0, hi, h1, _ => by
    simp only [List.getElem_cons_zero] at h1 ⊢
    unfold Pn.fnd
    rw [List.find?_cons_of_pos (by simpa using h1)]
    rfl
  | x :: P, t, i + 1, hi, h1, h2 => by
    have h0 := h2 0 (by omega)
    simp only [List.getElem_cons_zero] at h0
    simp only [List.getElem_cons_succ] at h1 ⊢
    have ih := fnd_at P t i (by simpa using hi) h1 (fun k hk => by have := h2 (k + 1) (by omega); simpa using this)
    unfold Pn.fnd at ih ⊢
    rw [List.find?_cons_of_neg (by simpa using h0)]
    exact ih
def fndV : Option Int → Value
  | none => .tuple #[.int .i64 0, .bool false]
  | some x => .tuple #[.int .i64 x, .bool true]
def ascP (P : List (Int × Int)) : Prop := ∀ i j (hi : i < P.length) (hj : j < P.length), i < j → P[i].1 < P[j].1

set_option maxRecDepth 100000 in
set_option maxHeartbeats 8000000 in
theorem cfind_any (row : List Int) (v : Value) (t : Int) (w : World) (hv : IsInts w v row) (hev : row.length = 2 * (prs row).length) (hasc : ascP (prs row)) (hl : row.length ≤ 8000) :
    Calls Tryz.prog 77 #[v, .int .i64 t] w fun e w' => e = .returned (fndV (Pn.fnd (prs row) t)) ∧ Below w.heap.size w w' := by
  obtain ⟨a, cap, rfl, _, _, hs⟩ := hv
  obtain ⟨n, hn⟩ : ∃ n, n = (prs row).length := ⟨_, rfl⟩
  obtain ⟨rl, hrl⟩ : ∃ rl, rl = row.length := ⟨_, rfl⟩
  have hrn : rl = 2 * n := by omega
  have HN := Lib.hid hn
  have HRL := Lib.hid hrl
  have HRN := Lib.hid hrn
  have HS := Lib.hid hs
  have hr8 : rl ≤ 8000 := by omega
  have hri : (rl : Int) = 2 * n := by omega
  have x1 : (rl : Int).tdiv 2 = n := by rw [Int.tdiv_eq_ediv_of_nonneg (by omega)]; omega
  have hn4 : n ≤ 4000 := by omega
  rw [← hrl]
  have HRI := Lib.hid hri
  clear hrn hri hn hrl hs
  go_enter Tryz.func77, Tryz.ntmps77
  go_wp2_with fail
  go_loopw [6, 7] (fun s6 s7 wr => ∃ lo hi : Nat, lo ≤ hi ∧ hi ≤ n ∧ s6 = .int .i64 lo ∧ s7 = .int .i64 hi ∧ wr = w ∧ Hid (∀ k, k < lo → row.getD (2 * k) 0 < t) ∧ Hid (∀ k, hi ≤ k → k < n → t ≤ row.getD (2 * k) 0)) (fun s6 s7 _ => ((RowKit.intOf s7) - (RowKit.intOf s6)).toNat)
  case atStart => exact ⟨0, n, Nat.zero_le _, Nat.le_refl _, rfl, rfl, rfl, Lib.hid (fun k hk => absurd hk (Nat.not_lt_zero _)), Lib.hid (fun k h1 h2 => by omega)⟩
  case round =>
    obtain ⟨lo, hi, hlh, hhn, rfl, rfl, rfl, hL, hH⟩ := hrel
    by_cases hlt : lo < hi
    · obtain ⟨m, hm⟩ : ∃ m, m = (lo + hi) / 2 := ⟨_, rfl⟩
      have hm1 : lo ≤ m ∧ m < hi := by omega
      have x2 : ((lo : Int) + hi).tdiv 2 = m := by rw [Int.tdiv_eq_ediv_of_nonneg (by omega)]; omega
      have x3 : IntKind.i64.wrap ((lo : Int) + hi) = (lo : Int) + hi := IntWalk.i64_in _ (by omega)
      have x31 : IntKind.i64.wrap (m : Int) = m := IntWalk.i64_in _ (by omega)
      obtain ⟨j, hj⟩ : ∃ j, j = 2 * m := ⟨_, rfl⟩
      have x4 : IntKind.i64.wrap (2 * (m : Int)) = j := by rw [IntWalk.i64_in _ (by omega)]; omega
      have hjl : j < row.length := by rw [← HRL.out, HRN.out]; omega
      obtain ⟨b, off, rfl, d0⟩ := HS.out.int j hjl
      have hgd : row.getD (2 * m) 0 = row[j] := by rw [← hj]; simp [List.getD, List.getElem?_eq_getElem hjl]
      obtain ⟨y, hy⟩ : ∃ y, y = row[j] := ⟨_, rfl⟩
      rw [← hy] at d0 hgd
      have HGD := Lib.hid hgd
      have HM1 := Lib.hid hm1
      have i1 : decide (lo < hi) = true := decide_eq_true hlt
      have i2 : decide ((lo : Int) < hi) = true := decide_eq_true (by omega)
      have i3 : (0 : Int) ≤ j := by omega
      have i4 : (j : Int) < rl := by have := HRI.out; omega
      have x5 : IntKind.i64.wrap ((m : Int) + 1) = m + 1 := IntWalk.i64_in _ (by omega)
      clear hm hj hy hgd hm1
      cases hyt : decide (y < t)
      · have HYT := Lib.hid hyt
        clear hlt
        go_wp2_with fail
        go_roundw
        case measure => have := HM1.out; simp [RowKit.intOf]; omega
        case rel => exact ⟨lo, m, HM1.out.1, by have := HM1.out; omega, rfl, rfl, trivial, hL, Lib.hid (fun k h1 h2 => by
          have hyt' : ¬ y < t := by simpa using HYT.out
          by_cases hkh : hi ≤ k
          · exact hH.out k hkh h2
          · by_cases hkm : k = m
            · subst hkm; rw [HGD.out]; omega
            · have hm := HM1.out
              have hkl : k < (prs row).length := by rw [← HN.out]; exact h2
              have hml : m < (prs row).length := by rw [← HN.out]; omega
              have := hasc m k hml hkl (by omega)
              rw [(prs_at row m hml).1, (prs_at row k hkl).1] at this
              simp only at this
              have hg := HGD.out
              omega)⟩
      · have HYT := Lib.hid hyt
        clear hlt
        go_wp2_with fail
        go_roundw
        case measure => have := HM1.out; simp [RowKit.intOf, x5]; omega
        case rel => exact ⟨m + 1, hi, by have := HM1.out; omega, hhn, by go_num, rfl, trivial, Lib.hid (fun k hk => by
          have hyt' : y < t := by simpa using HYT.out
          by_cases hkm : k = m
          · subst hkm; rw [HGD.out]; exact hyt'
          · have hm := HM1.out
            have hkl : k < (prs row).length := by rw [← HN.out]; omega
            have hml : m < (prs row).length := by rw [← HN.out]; omega
            have := hasc k m hkl hml (by omega)
            rw [(prs_at row m hml).1, (prs_at row k hkl).1] at this
            simp only at this
            have hg := HGD.out
            omega), hH⟩
    · have hle : lo = hi := by omega
      subst hle
      have i1 : decide (lo < lo) = false := decide_eq_false (by omega)
      obtain ⟨j, hj⟩ : ∃ j, j = 2 * lo := ⟨_, rfl⟩
      have x4 : IntKind.i64.wrap (2 * (lo : Int)) = j := by rw [IntWalk.i64_in _ (by omega)]; omega
      by_cases hln : lo < n
      · have hjl : j + 1 < row.length := by rw [← HRL.out, HRN.out]; omega
        have hlp : lo < (prs row).length := by rw [← HN.out]; exact hln
        obtain ⟨b, off, rfl, d0⟩ := HS.out.int j (by omega)
        obtain ⟨b', off', he, d1⟩ := HS.out.int (j + 1) hjl
        simp only [Option.some.injEq, Addr.mk.injEq] at he
        obtain ⟨rfl, rfl, -⟩ := he
        have hpl := (prs_at row lo hlp).1
        rw [← hj] at hpl
        rw [show row.getD j 0 = row[j] from by simp [List.getD, List.getElem?_eq_getElem (show j < row.length by omega)], show row.getD (j + 1) 0 = row[j + 1] from by simp [List.getD, List.getElem?_eq_getElem hjl]] at hpl
        obtain ⟨y, hy⟩ : ∃ y, y = row[j] := ⟨_, rfl⟩
        obtain ⟨z, hz⟩ : ∃ z, z = row[j + 1] := ⟨_, rfl⟩
        rw [← hy] at d0 hpl
        rw [← hz] at d1 hpl
        have HPL := Lib.hid hpl
        have i2 : decide ((j : Int) < rl) = true := decide_eq_true (by have := HRI.out; omega)
        have i3 : decide (j < rl) = true := decide_eq_true (by have := HRN.out; omega)
        have i4 : (0 : Int) ≤ j := by omega
        have i5 : (j : Int) < rl := by have := HRI.out; omega
        have i6 : (0 : Int) ≤ (j : Int) + 1 := by omega
        have i7 : (j : Int) + 1 < rl := by rw [HRL.out]; omega
        have x5 : IntKind.i64.wrap ((j : Int) + 1) = j + 1 := IntWalk.i64_in _ (by omega)
        have hcell : wr.cell? ⟨b, off + (j + 1), none⟩ = some (.int .i64 z) := d1
        clear hj hy hz hpl
        by_cases hyt : y = t
        · have hfn : Pn.fnd (prs row) t = some z := by
            have h := fnd_at (prs row) t lo hlp (by rw [HPL.out]; exact hyt) (fun k hk => by rw [(prs_at row k (by omega)).1]; have := hL.out k hk; simp only; omega)
            rw [h, HPL.out]
          have HF := Lib.hid hfn
          have q1 : (y == t) = true := by rw [beq_iff_eq]; exact hyt
          have q2 : decide (y = t) = true := decide_eq_true hyt
          clear hfn hyt hlt
          go_wp2_with fail
          go_ret2
          exact ⟨by rw [HF.out]; rfl, Below.refl _ _⟩
        · have hfn : Pn.fnd (prs row) t = none := by
            refine fnd_none _ _ fun k hk e => ?_
            rcases Nat.lt_trichotomy k lo with h | h | h
            · rw [(prs_at row k hk).1] at e; have := hL.out k h; simp only at e; omega
            · subst h; rw [HPL.out] at e; exact hyt e
            · have h1 := hH.out lo (Nat.le_refl _) hln
              have h2 := hasc lo k hlp hk h
              rw [HPL.out] at h2
              rw [e] at h2
              have h3 : row.getD (2 * lo) 0 = y := by
                have := (prs_at row lo hlp).1
                rw [HPL.out] at this
                exact (congrArg Prod.fst this).symm
              simp only at h2
              omega
          have HF := Lib.hid hfn
          have q1 : (y == t) = false := by rw [beq_eq_false_iff_ne]; exact hyt
          have q2 : decide (y = t) = false := decide_eq_false hyt
          clear hfn hyt hlt
          go_wp2_with fail
          go_ret2
          exact ⟨by rw [HF.out]; rfl, Below.refl _ _⟩
      · have hfn : Pn.fnd (prs row) t = none := by
          refine fnd_none _ _ fun k hk e => ?_
          rw [(prs_at row k hk).1] at e
          have := hL.out k (by have := HN.out; omega)
          simp only at e
          omega
        have HF := Lib.hid hfn
        have i2 : decide ((j : Int) < rl) = false := decide_eq_false (by have := HRI.out; omega)
        have i3 : decide (j < rl) = false := decide_eq_false (by have := HRN.out; omega)
        clear hfn hlt hj
        go_wp2_with fail
        go_ret2
        exact ⟨by rw [HF.out]; rfl, Below.refl _ _⟩

end Go.Proofs.YtoiakijmbghhlaaGreat
