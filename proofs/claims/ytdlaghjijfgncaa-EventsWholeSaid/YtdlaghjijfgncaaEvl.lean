/- Period, and ranks by counting in the reference. Conditions: the slice reads as a list. -/
import Derived.Test.YtdlaghjijfgncaaEvk
import Derived.Test.YtdlaghjijfgncaaRat
namespace Go.Proofs.Ytdlaghjijfgncaa
open Go.RowKit
set_option linter.unusedVariables false
set_option linter.unusedSimpArgs false

set_option maxHeartbeats 1000000 in
theorem indexI_any (xs : List Int) (y : Int) (v : Value) (w : World) (hv : IsInts w v xs) :
    Calls Try.prog 46 #[v, .int .i64 y] w fun e w' => e = .returned (.int .i64 (idxFrom (fun x => y == x) xs 0)) ∧ Below w.heap.size w w' := by
  obtain ⟨a, cap, rfl, hcap, hbig, hs⟩ := hv
  go_enter Try.func46, Try.ntmps46
  go_wp2
  go_loopw [5, 8] (fun _ s8 wr => ∃ k : Nat, k ≤ xs.length ∧ s8 = .int .i64 k ∧ Below w.heap.size w wr ∧ Hid (idxFrom (fun x => y == x) xs 0 = idxFrom (fun x => y == x) (xs.drop k) k)) (fun _ i _ => xs.length - (intOf i).toNat)
  case atStart => exact ⟨0, Nat.zero_le _, rfl, Below.refl _ _, rfl⟩
  case round =>
    obtain ⟨k, hk, rfl, hb, hm⟩ := hrel
    by_cases hlt : k < xs.length
    · obtain ⟨b, off, rfl, c0⟩ := (hs.mono hb).int k hlt
      have hd := Lib.hid (List.drop_eq_getElem_cons hlt)
      clear hs
      generalize xs[k] = x at *
      cases h : (y == x)
      · have HS := Lib.hid h
        go_wp2_with fail
        go_roundw
        case rel => exact ⟨k + 1, by omega, by go_num, by repeat' (first | exact Below.refl _ _ | assumption | refine Below.more ?_ ?_ _ | refine Below.alloc ?_ ?_ _ | refine Below.drew ?_ | refine below_drewN ?_ _ | refine Below.setCell ?_ ?_ _ | exact Below.size (by assumption) | (simp [go_sem, size_more]; done) | (simp [go_sem, size_more]; omega)), hm.out.trans (by rw [hd.out]; simp [idxFrom, HS.out])⟩
        case measure => simp [intOf]; omega
      · have HS := Lib.hid h
        go_wp2_with fail
        go_ret
        exact ⟨ret_int (by rw [hm.out, hd.out]; simp [idxFrom, HS.out]), by repeat' (first | exact Below.refl _ _ | assumption | refine Below.more ?_ ?_ _ | refine Below.alloc ?_ ?_ _ | refine Below.drew ?_ | refine below_drewN ?_ _ | refine Below.setCell ?_ ?_ _ | exact Below.size (by assumption) | (simp [go_sem, size_more]; done) | (simp [go_sem, size_more]; omega))⟩
    · go_wp2_with fail
      go_ret
      refine ⟨ret_int ?_, by repeat' (first | exact Below.refl _ _ | assumption | refine Below.more ?_ ?_ _ | refine Below.alloc ?_ ?_ _ | refine Below.drew ?_ | refine below_drewN ?_ _ | refine Below.setCell ?_ ?_ _ | exact Below.size (by assumption) | (simp [go_sem, size_more]; done) | (simp [go_sem, size_more]; omega))⟩
      rw [hm.out, List.drop_eq_nil_of_le (by omega)]; rfl

theorem idx_nodup : ∀ {S : List Int} (_ : S.Nodup) (i j : Nat) (h : j < S.length), idxFrom (fun x => S[j] == x) S i = ((i + j : Nat) : Int)
  | x :: S, _, i, 0, _ => by simp [idxFrom]
  | x :: S, hn, i, j + 1, h => by
    rw [List.nodup_cons] at hn
    have hj : j < S.length := by simpa using h
    have hne : (S[j] == x) = false := by
      rw [beq_eq_false_iff_ne]
      rintro rfl
      exact hn.1 (List.getElem_mem hj)
    simp only [List.getElem_cons_succ, idxFrom, hne, Bool.false_eq_true, if_false]
    rw [idx_nodup hn.2 (i + 1) j hj]
    congr 1; omega
theorem iota_nodup (n : Nat) : (iota n).Nodup := (iota_pw n).imp (fun h => by omega)
theorem sorted_nodup {l : List Ev} {S : List Int} (h : SortedOf (wR l) (iota l.length) S) : S.Nodup := h.1.nodup_iff.2 (iota_nodup _)
/-- Where event k stands. -/
theorem sorted_idx {l : List Ev} {S : List Int} (h : SortedOf (wR l) (iota l.length) S) (k : Nat) (hk : k < l.length) : idxFrom (fun x => (k : Int) == x) S 0 = (rankN l k : Int) - 1 := by
  obtain ⟨j, hj, e⟩ := sorted_at h k hk
  have h1 := idx_nodup (sorted_nodup h) 0 j hj
  have h2 := rank_pos h j hj
  rw [e] at h1 h2
  rw [h1, h2]
  omega

def perM (l : List Ev) (k years : Int) : (Int × Int) × Int :=
  if validM l = false then ((0, 0), 1) else if k < 0 ∨ (l.length : Int) ≤ k ∨ years < 1 ∨ 10000 < years then ((0, 0), 2)
  else ((((years + 1).toNat / Nat.gcd (years + 1).toNat (rankN l k) : Nat), (rankN l k / Nat.gcd (years + 1).toNat (rankN l k) : Nat)), 0)

set_option maxRecDepth 100000 in
set_option maxHeartbeats 4000000 in
theorem period_any (l : List Ev) (v : Value) (k years : Int) (w : World) (hv : IsEvs w v l) :
    Calls Try.prog 17 #[v, .int .i64 k, .int .i64 years] w fun e w' => e = .returned (.tuple #[.agg #[.int .i64 (perM l k years).1.1, .int .i64 (perM l k years).1.2], .int .i64 (perM l k years).2]) ∧ Below w.heap.size w w' := by
  cases hr : validM l
  · rw [show perM l k years = ((0, 0), 1) from by simp only [perM, hr, if_true]]
    have HR := Lib.hid hr
    go_enter Try.func17, Try.ntmps17
    go_wp2_with fail
    refine Calls.to (evalid_any l _ _ (hv.mono ((Below.refl _ _).alloc (Nat.le_refl _) _))) ?_
    rintro e w1 rfl hb1
    rw [HR.out]
    have hbb : Below w.heap.size w w1 := by
      refine Below.trans ?_ (hb1.mono (by simp))
      repeat' (first | exact Below.refl _ _ | assumption | refine Below.more ?_ ?_ _ | refine Below.alloc ?_ ?_ _ | refine Below.drew ?_ | refine below_drewN ?_ _ | refine Below.setCell ?_ ?_ _ | exact Below.size (by assumption) | (simp [go_sem, size_more]; done) | (simp [go_sem, size_more]; omega))
    have hz : w.heap.size < w1.heap.size := by have := hb1.size; simp at this; omega
    have c0 : w1.cell? ⟨w.heap.size, 0, none⟩ = some (.int .i64 0) := (hb1.cell (p := ⟨w.heap.size, 0, none⟩) (by simp)).trans (by simp [go_sem])
    have c1 : w1.cell? ⟨w.heap.size, 1, none⟩ = some (.int .i64 0) := (hb1.cell (p := ⟨w.heap.size, 1, none⟩) (by simp)).trans (by simp [go_sem])
    have f0 : w1.frozen? ⟨w.heap.size, 0, none⟩ = false := (hb1.frozen (p := ⟨w.heap.size, 0, none⟩) (by simp)).trans (by simp [go_sem])
    have f1 : w1.frozen? ⟨w.heap.size, 1, none⟩ = false := (hb1.frozen (p := ⟨w.heap.size, 1, none⟩) (by simp)).trans (by simp [go_sem])
    clear hb1
    go_wp2_with fail
    exact bodyPost_ret (v := .tuple #[.agg #[.int .i64 0, .int .i64 0], .int .i64 1]) (by simp (maxDischargeDepth := 9) [results, Try.results17, go_sem, c0, c1]) rfl ⟨rfl, by repeat' (first | exact Below.refl _ _ | assumption | refine Below.more ?_ ?_ _ | refine Below.alloc ?_ ?_ _ | refine Below.drew ?_ | refine below_drewN ?_ _ | refine Below.setCell ?_ ?_ _ | exact Below.size (by assumption) | (simp [go_sem, size_more]; done) | (simp [go_sem, size_more]; omega))⟩
  have HR := Lib.hid hr
  have hl := validM_len hr
  obtain ⟨va, vc, rfl, hcap, hbig, hs⟩ := hv
  have hv : IsEvs w (.slice va l.length vc) l := ⟨va, vc, rfl, hcap, hbig, hs⟩
  clear hs hcap
  by_cases q1 : k < 0
  · rw [show perM l k years = ((0, 0), 2) from by simp only [perM, hr, q1, true_or, if_true]; simp]
    have u1 := decide_eq_true q1
    go_enter Try.func17, Try.ntmps17
    go_wp2_with fail
    refine Calls.to (evalid_any l _ _ (hv.mono ((Below.refl _ _).alloc (Nat.le_refl _) _))) ?_
    rintro e w1 rfl hb1
    rw [HR.out]
    have hbb : Below w.heap.size w w1 := by
      refine Below.trans ?_ (hb1.mono (by simp))
      repeat' (first | exact Below.refl _ _ | assumption | refine Below.more ?_ ?_ _ | refine Below.alloc ?_ ?_ _ | refine Below.drew ?_ | refine below_drewN ?_ _ | refine Below.setCell ?_ ?_ _ | exact Below.size (by assumption) | (simp [go_sem, size_more]; done) | (simp [go_sem, size_more]; omega))
    have hz : w.heap.size < w1.heap.size := by have := hb1.size; simp at this; omega
    have c0 : w1.cell? ⟨w.heap.size, 0, none⟩ = some (.int .i64 0) := (hb1.cell (p := ⟨w.heap.size, 0, none⟩) (by simp)).trans (by simp [go_sem])
    have c1 : w1.cell? ⟨w.heap.size, 1, none⟩ = some (.int .i64 0) := (hb1.cell (p := ⟨w.heap.size, 1, none⟩) (by simp)).trans (by simp [go_sem])
    have f0 : w1.frozen? ⟨w.heap.size, 0, none⟩ = false := (hb1.frozen (p := ⟨w.heap.size, 0, none⟩) (by simp)).trans (by simp [go_sem])
    have f1 : w1.frozen? ⟨w.heap.size, 1, none⟩ = false := (hb1.frozen (p := ⟨w.heap.size, 1, none⟩) (by simp)).trans (by simp [go_sem])
    clear hb1
    go_wp2_with fail
    exact bodyPost_ret (v := .tuple #[.agg #[.int .i64 0, .int .i64 0], .int .i64 2]) (by simp (maxDischargeDepth := 9) [results, Try.results17, go_sem, c0, c1]) rfl ⟨rfl, by repeat' (first | exact Below.refl _ _ | assumption | refine Below.more ?_ ?_ _ | refine Below.alloc ?_ ?_ _ | refine Below.drew ?_ | refine below_drewN ?_ _ | refine Below.setCell ?_ ?_ _ | exact Below.size (by assumption) | (simp [go_sem, size_more]; done) | (simp [go_sem, size_more]; omega))⟩
  have u1 := decide_eq_false q1
  by_cases q2 : (l.length : Int) ≤ k
  · rw [show perM l k years = ((0, 0), 2) from by simp only [perM, hr, q2, true_or, or_true, if_true]; simp]
    have u2 := decide_eq_true q2
    go_enter Try.func17, Try.ntmps17
    go_wp2_with fail
    refine Calls.to (evalid_any l _ _ (hv.mono ((Below.refl _ _).alloc (Nat.le_refl _) _))) ?_
    rintro e w1 rfl hb1
    rw [HR.out]
    have hbb : Below w.heap.size w w1 := by
      refine Below.trans ?_ (hb1.mono (by simp))
      repeat' (first | exact Below.refl _ _ | assumption | refine Below.more ?_ ?_ _ | refine Below.alloc ?_ ?_ _ | refine Below.drew ?_ | refine below_drewN ?_ _ | refine Below.setCell ?_ ?_ _ | exact Below.size (by assumption) | (simp [go_sem, size_more]; done) | (simp [go_sem, size_more]; omega))
    have hz : w.heap.size < w1.heap.size := by have := hb1.size; simp at this; omega
    have c0 : w1.cell? ⟨w.heap.size, 0, none⟩ = some (.int .i64 0) := (hb1.cell (p := ⟨w.heap.size, 0, none⟩) (by simp)).trans (by simp [go_sem])
    have c1 : w1.cell? ⟨w.heap.size, 1, none⟩ = some (.int .i64 0) := (hb1.cell (p := ⟨w.heap.size, 1, none⟩) (by simp)).trans (by simp [go_sem])
    have f0 : w1.frozen? ⟨w.heap.size, 0, none⟩ = false := (hb1.frozen (p := ⟨w.heap.size, 0, none⟩) (by simp)).trans (by simp [go_sem])
    have f1 : w1.frozen? ⟨w.heap.size, 1, none⟩ = false := (hb1.frozen (p := ⟨w.heap.size, 1, none⟩) (by simp)).trans (by simp [go_sem])
    clear hb1
    go_wp2_with fail
    exact bodyPost_ret (v := .tuple #[.agg #[.int .i64 0, .int .i64 0], .int .i64 2]) (by simp (maxDischargeDepth := 9) [results, Try.results17, go_sem, c0, c1]) rfl ⟨rfl, by repeat' (first | exact Below.refl _ _ | assumption | refine Below.more ?_ ?_ _ | refine Below.alloc ?_ ?_ _ | refine Below.drew ?_ | refine below_drewN ?_ _ | refine Below.setCell ?_ ?_ _ | exact Below.size (by assumption) | (simp [go_sem, size_more]; done) | (simp [go_sem, size_more]; omega))⟩
  have u2 := decide_eq_false q2
  by_cases q3 : years < 1
  · rw [show perM l k years = ((0, 0), 2) from by simp only [perM, hr, q3, true_or, or_true, if_true]; simp]
    have u3 := decide_eq_true q3
    go_enter Try.func17, Try.ntmps17
    go_wp2_with fail
    refine Calls.to (evalid_any l _ _ (hv.mono ((Below.refl _ _).alloc (Nat.le_refl _) _))) ?_
    rintro e w1 rfl hb1
    rw [HR.out]
    have hbb : Below w.heap.size w w1 := by
      refine Below.trans ?_ (hb1.mono (by simp))
      repeat' (first | exact Below.refl _ _ | assumption | refine Below.more ?_ ?_ _ | refine Below.alloc ?_ ?_ _ | refine Below.drew ?_ | refine below_drewN ?_ _ | refine Below.setCell ?_ ?_ _ | exact Below.size (by assumption) | (simp [go_sem, size_more]; done) | (simp [go_sem, size_more]; omega))
    have hz : w.heap.size < w1.heap.size := by have := hb1.size; simp at this; omega
    have c0 : w1.cell? ⟨w.heap.size, 0, none⟩ = some (.int .i64 0) := (hb1.cell (p := ⟨w.heap.size, 0, none⟩) (by simp)).trans (by simp [go_sem])
    have c1 : w1.cell? ⟨w.heap.size, 1, none⟩ = some (.int .i64 0) := (hb1.cell (p := ⟨w.heap.size, 1, none⟩) (by simp)).trans (by simp [go_sem])
    have f0 : w1.frozen? ⟨w.heap.size, 0, none⟩ = false := (hb1.frozen (p := ⟨w.heap.size, 0, none⟩) (by simp)).trans (by simp [go_sem])
    have f1 : w1.frozen? ⟨w.heap.size, 1, none⟩ = false := (hb1.frozen (p := ⟨w.heap.size, 1, none⟩) (by simp)).trans (by simp [go_sem])
    clear hb1
    go_wp2_with fail
    exact bodyPost_ret (v := .tuple #[.agg #[.int .i64 0, .int .i64 0], .int .i64 2]) (by simp (maxDischargeDepth := 9) [results, Try.results17, go_sem, c0, c1]) rfl ⟨rfl, by repeat' (first | exact Below.refl _ _ | assumption | refine Below.more ?_ ?_ _ | refine Below.alloc ?_ ?_ _ | refine Below.drew ?_ | refine below_drewN ?_ _ | refine Below.setCell ?_ ?_ _ | exact Below.size (by assumption) | (simp [go_sem, size_more]; done) | (simp [go_sem, size_more]; omega))⟩
  have u3 := decide_eq_false q3
  by_cases q4 : 10000 < years
  · rw [show perM l k years = ((0, 0), 2) from by simp only [perM, hr, q4, or_true, if_true]; simp]
    have u4 := decide_eq_true q4
    go_enter Try.func17, Try.ntmps17
    go_wp2_with fail
    refine Calls.to (evalid_any l _ _ (hv.mono ((Below.refl _ _).alloc (Nat.le_refl _) _))) ?_
    rintro e w1 rfl hb1
    rw [HR.out]
    have hbb : Below w.heap.size w w1 := by
      refine Below.trans ?_ (hb1.mono (by simp))
      repeat' (first | exact Below.refl _ _ | assumption | refine Below.more ?_ ?_ _ | refine Below.alloc ?_ ?_ _ | refine Below.drew ?_ | refine below_drewN ?_ _ | refine Below.setCell ?_ ?_ _ | exact Below.size (by assumption) | (simp [go_sem, size_more]; done) | (simp [go_sem, size_more]; omega))
    have hz : w.heap.size < w1.heap.size := by have := hb1.size; simp at this; omega
    have c0 : w1.cell? ⟨w.heap.size, 0, none⟩ = some (.int .i64 0) := (hb1.cell (p := ⟨w.heap.size, 0, none⟩) (by simp)).trans (by simp [go_sem])
    have c1 : w1.cell? ⟨w.heap.size, 1, none⟩ = some (.int .i64 0) := (hb1.cell (p := ⟨w.heap.size, 1, none⟩) (by simp)).trans (by simp [go_sem])
    have f0 : w1.frozen? ⟨w.heap.size, 0, none⟩ = false := (hb1.frozen (p := ⟨w.heap.size, 0, none⟩) (by simp)).trans (by simp [go_sem])
    have f1 : w1.frozen? ⟨w.heap.size, 1, none⟩ = false := (hb1.frozen (p := ⟨w.heap.size, 1, none⟩) (by simp)).trans (by simp [go_sem])
    clear hb1
    go_wp2_with fail
    exact bodyPost_ret (v := .tuple #[.agg #[.int .i64 0, .int .i64 0], .int .i64 2]) (by simp (maxDischargeDepth := 9) [results, Try.results17, go_sem, c0, c1]) rfl ⟨rfl, by repeat' (first | exact Below.refl _ _ | assumption | refine Below.more ?_ ?_ _ | refine Below.alloc ?_ ?_ _ | refine Below.drew ?_ | refine below_drewN ?_ _ | refine Below.setCell ?_ ?_ _ | exact Below.size (by assumption) | (simp [go_sem, size_more]; done) | (simp [go_sem, size_more]; omega))⟩
  have u4 := decide_eq_false q4
  obtain ⟨kn, rfl⟩ : ∃ x : Nat, k = (x : Int) := ⟨k.toNat, by omega⟩
  obtain ⟨n, rfl⟩ : ∃ x : Nat, years = (x : Int) - 1 := ⟨(years + 1).toNat, by omega⟩
  have hkn : kn < l.length := by omega
  have hrn := rankN_le l kn
  have hr1 : 1 ≤ rankN l kn := by unfold rankN; omega
  have HP : Hid (perM l kn ((n : Int) - 1) = ((((n / Nat.gcd n (rankN l kn) : Nat) : Int), ((rankN l kn / Nat.gcd n (rankN l kn) : Nat) : Int)), 0)) := by
    show _ = _
    simp only [perM, hr, q1, q2, q3, q4, or_self, if_false]
    rw [show ((n : Int) - 1 + 1).toNat = n from by omega]
    simp
  rw [HP.out]
  have HI := fun S h => sorted_idx (l := l) (S := S) h kn hkn
  clear HP
  generalize hd : rankN l kn = d at *
  clear hd
  have x1 : IntKind.i64.wrap ((n : Int) - 1 + 1) = n := IntWalk.i64_in _ (by omega) |>.trans (by omega)
  have x2 : IntKind.i64.wrap ((d : Int) - 1 + 1) = d := IntWalk.i64_in _ (by omega) |>.trans (by omega)
  have x3 : wrap64 (n : Int) = n := IntWalk.wrap64_in _ (by omega)
  obtain ⟨N, hN⟩ : ∃ N : Int, ((n / Nat.gcd n d : Nat) : Int) = N := ⟨_, rfl⟩
  obtain ⟨D, hD⟩ : ∃ D : Int, ((d / Nat.gcd n d : Nat) : Int) = D := ⟨_, rfl⟩
  have hmk := fun W => make_any n d W (by omega) hr1 (by omega)
  unfold MakeIs at hmk
  rw [hN, hD] at hmk ⊢
  clear hN hD q1 q2 q3 q4
  go_enter Try.func17, Try.ntmps17
  go_wp2_with fail
  refine Calls.to (evalid_any l _ _ (hv.mono ((Below.refl _ _).alloc (Nat.le_refl _) _))) ?_
  rintro e w1 rfl hb1
  rw [HR.out]
  have hbb : Below w.heap.size w w1 := by
    refine Below.trans ?_ (hb1.mono (by simp))
    repeat' (first | exact Below.refl _ _ | assumption | refine Below.more ?_ ?_ _ | refine Below.alloc ?_ ?_ _ | refine Below.drew ?_ | refine below_drewN ?_ _ | refine Below.setCell ?_ ?_ _ | exact Below.size (by assumption) | (simp [go_sem, size_more]; done) | (simp [go_sem, size_more]; omega))
  have hz : w.heap.size < w1.heap.size := by have := hb1.size; simp at this; omega
  have c0 : w1.cell? ⟨w.heap.size, 0, none⟩ = some (.int .i64 0) := (hb1.cell (p := ⟨w.heap.size, 0, none⟩) (by simp)).trans (by simp [go_sem])
  have c1 : w1.cell? ⟨w.heap.size, 1, none⟩ = some (.int .i64 0) := (hb1.cell (p := ⟨w.heap.size, 1, none⟩) (by simp)).trans (by simp [go_sem])
  have f0 : w1.frozen? ⟨w.heap.size, 0, none⟩ = false := (hb1.frozen (p := ⟨w.heap.size, 0, none⟩) (by simp)).trans (by simp [go_sem])
  have f1 : w1.frozen? ⟨w.heap.size, 1, none⟩ = false := (hb1.frozen (p := ⟨w.heap.size, 1, none⟩) (by simp)).trans (by simp [go_sem])
  clear hb1
  go_wp2_with fail
  refine Calls.go hbb (ranked_any l _ w1 (hv.mono hbb) hl) ?_
  rintro e w2 ⟨v2, S, rfl, hS, hown⟩ hb2' hb2
  have c0 := (hb2'.cell (p := ⟨w.heap.size, 0, none⟩) hz).trans c0
  have c1 := (hb2'.cell (p := ⟨w.heap.size, 1, none⟩) hz).trans c1
  have f0 := (hb2'.frozen (p := ⟨w.heap.size, 0, none⟩) hz).trans f0
  have f1 := (hb2'.frozen (p := ⟨w.heap.size, 1, none⟩) hz).trans f1
  have hz2 : w.heap.size < w2.heap.size := by have := hb2'.size; omega
  have isS := hown.isL (fun _ => rfl)
  have HIS := Lib.hid (HI S hS)
  obtain ⟨a7, c7, rfl⟩ := hown.isSlice
  clear hb2' hz hown HI hbb
  go_wp2_with fail
  refine Calls.go hb2 (indexI_any S kn _ w2 isS) ?_
  rintro e w3 rfl hb3' hb3
  have c0 := (hb3'.cell (p := ⟨w.heap.size, 0, none⟩) hz2).trans c0
  have c1 := (hb3'.cell (p := ⟨w.heap.size, 1, none⟩) hz2).trans c1
  have f0 := (hb3'.frozen (p := ⟨w.heap.size, 0, none⟩) hz2).trans f0
  have f1 := (hb3'.frozen (p := ⟨w.heap.size, 1, none⟩) hz2).trans f1
  have hz3 : w.heap.size < w3.heap.size := by have := hb3'.size; omega
  rw [HIS.out]
  clear hb3' hz2 isS hb2
  go_wp2_with fail
  refine Calls.go hb3 (hmk _) ?_
  rintro e w4 rfl hb4' hb4
  have c0 := (hb4'.cell (p := ⟨w.heap.size, 0, none⟩) hz3).trans c0
  have c1 := (hb4'.cell (p := ⟨w.heap.size, 1, none⟩) hz3).trans c1
  have f0 := (hb4'.frozen (p := ⟨w.heap.size, 0, none⟩) hz3).trans f0
  have f1 := (hb4'.frozen (p := ⟨w.heap.size, 1, none⟩) hz3).trans f1
  clear hb4' hb3
  go_wp2_with fail
  exact bodyPost_ret (v := .tuple #[.agg #[.int .i64 N, .int .i64 D], .int .i64 0]) (by simp (maxDischargeDepth := 9) [results, Try.results17, go_sem, c0, c1]) rfl ⟨rfl, by repeat' (first | exact Below.refl _ _ | assumption | refine Below.more ?_ ?_ _ | refine Below.alloc ?_ ?_ _ | refine Below.drew ?_ | refine below_drewN ?_ _ | refine Below.setCell ?_ ?_ _ | exact Below.size (by assumption) | (simp [go_sem, size_more]; done) | (simp [go_sem, size_more]; omega))⟩

end Go.Proofs.Ytdlaghjijfgncaa
