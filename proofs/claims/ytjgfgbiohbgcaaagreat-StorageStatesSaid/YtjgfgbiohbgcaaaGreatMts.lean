/- The search among a table's knots. Conditions: the table is right. | The search of storage.Widened among a table's knots. Conditions: the table is right. -/
import Derived.Test.YtjgfgbiohbgcaaaGreatTpl
import Derived.Test.YtjgfgbiohbgcaaaGreatNn
namespace Go.Proofs.YtjgfgbiohbgcaaaGreat
open Go.RowKit
set_option linter.unusedVariables false
set_option linter.unusedSimpArgs false

def cmpX (k : Kn) (x : Int) : Int := if k.X < x then -1 else if x < k.X then 1 else 0
theorem piece1_any (k : Kn) (x : Int) (w : World) : Calls Tryz.prog 111 #[vKn k, .int .i64 x] w fun e w' => e = .returned (.int .i64 (cmpX k x)) ∧ Below w.heap.size w w' := by
  unfold cmpX
  by_cases h1 : k.X < x
  · rw [if_pos h1]
    have u1 := decide_eq_true h1
    go_enter Tryz.func111, Tryz.ntmps111
    go_wp2_with fail
    go_ret
    exact ⟨rfl, by repeat' (first | exact Below.refl _ _ | assumption | refine Below.more ?_ ?_ _ | refine Below.alloc ?_ ?_ _ | refine Below.drew ?_ | refine below_drewN ?_ _ | refine Below.setCell ?_ ?_ _ | exact Below.size (by assumption) | (simp [go_sem, size_more]; done) | (simp [go_sem, size_more]; omega))⟩
  · rw [if_neg h1]
    have u1 := decide_eq_false h1
    by_cases h2 : x < k.X
    · rw [if_pos h2]
      have u2 := decide_eq_true h2
      go_enter Tryz.func111, Tryz.ntmps111
      go_wp2_with fail
      go_ret
      exact ⟨rfl, by repeat' (first | exact Below.refl _ _ | assumption | refine Below.more ?_ ?_ _ | refine Below.alloc ?_ ?_ _ | refine Below.drew ?_ | refine below_drewN ?_ _ | refine Below.setCell ?_ ?_ _ | exact Below.size (by assumption) | (simp [go_sem, size_more]; done) | (simp [go_sem, size_more]; omega))⟩
    · rw [if_neg h2]
      have u2 := decide_eq_false h2
      go_enter Tryz.func111, Tryz.ntmps111
      go_wp2_with fail
      go_ret
      exact ⟨rfl, by repeat' (first | exact Below.refl _ _ | assumption | refine Below.more ?_ ?_ _ | refine Below.alloc ?_ ?_ _ | refine Below.drew ?_ | refine below_drewN ?_ _ | refine Below.setCell ?_ ?_ _ | exact Below.size (by assumption) | (simp [go_sem, size_more]; done) | (simp [go_sem, size_more]; omega))⟩
theorem ent111 : ∀ args w, (callFunc 111 args).run Tryz.prog w = .ok (.enter 111 args) w := by
  intro args w
  simp [go_sem]

set_option maxRecDepth 100000 in
set_option maxHeartbeats 2000000 in
theorem bsearch_any (xs : List Kn) (x : Int) (v : Value) (w : World) (hv : IsKns w v xs) (h : tabB xs = true) :
    Calls Tryz.prog 68 #[v, .int .i64 x, .func (.func 111) #[] #[]] w fun e w' => e = .returned (.tuple #[.int .i64 (cntX xs x), .bool (hitX xs x)]) ∧ Below w.heap.size w w' := by
  obtain ⟨a, cap, rfl, hcap, hbig, hs⟩ := hv
  have hlen := tabB_len h
  have HT := Lib.hid h
  have hent := ent111
  clear h
  go_enter Tryz.func68, Tryz.ntmps68
  go_wp2_with fail
  go_loopw [9, 10] (fun s9 s10 wr => ∃ i j : Nat, i ≤ j ∧ j ≤ xs.length ∧ s9 = .int .i64 i ∧ s10 = .int .i64 j ∧ Hid (∀ q (_ : q < xs.length), q < i → xs[q].X < x) ∧ Hid (∀ q (_ : q < xs.length), j ≤ q → x ≤ xs[q].X) ∧ Below w.heap.size w wr) (fun i j _ => (intOf j - intOf i).toNat)
  case atStart => exact ⟨0, xs.length, Nat.zero_le _, Nat.le_refl _, rfl, rfl, fun q _ h => absurd h (Nat.not_lt_zero _), fun q h1 h2 => absurd h1 (by omega), Below.refl _ _⟩
  case round =>
    as_aux_lemma =>
    obtain ⟨i, j, hij, hjn, rfl, rfl, h1, h2, hb⟩ := hrel
    by_cases hlt : i < j
    · obtain ⟨m, hm⟩ : ∃ m : Nat, ((i : Int) + j) / 2 = m := ⟨(i + j) / 2, by omega⟩
      have hmi : i ≤ m := by omega
      have hmj : m < j := by omega
      have hml : m < xs.length := by omega
      obtain ⟨b, off, rfl, d1, d2⟩ := (hs.mono hb).kn m hml
      have hpc := fun W => piece1_any xs[m] x W
      have HLT : Hid (xs[m].X < x → ∀ q (_ : q < xs.length), q < m + 1 → xs[q].X < x) := by
        intro hx q hq hqm
        by_cases e : q = m
        · subst e; exact hx
        · have := (tabB_lt HT.out q m (by omega) hml).1; omega
      have HGE : Hid (¬ xs[m].X < x → ∀ q (_ : q < xs.length), m ≤ q → x ≤ xs[q].X) := by
        intro hx q hq hqm
        by_cases e : q = m
        · subst e; omega
        · have := (tabB_lt HT.out m q (by omega) hq).1; omega
      have x1 : IntKind.i64.wrap ((i : Int) + (j : Int)) = (i : Int) + j := IntWalk.i64_in _ (by omega)
      have x2 : IntKind.u64.wrap ((i : Int) + (j : Int)) = (i : Int) + j := by rw [IntKind.wrap_u64]; omega
      have x3 : IntKind.i64.wrap (m : Int) = (m : Int) := IntWalk.i64_in _ (by omega)
      have x4 : IntKind.i64.wrap ((m : Int) + 1) = (m : Int) + 1 := IntWalk.i64_in _ (by omega)
      clear hs
      generalize xs[m] = k at *
      unfold cmpX at hpc
      by_cases hx : k.X < x
      · rw [if_pos hx] at hpc
        have HX := Lib.hid hx
        clear hx
        go_wp2_with fail
        refine Calls.to (hpc _) ?_
        rintro e w1 rfl hb1
        have hbb := hb.trans (hb1.mono hb.size)
        go_wp2_with fail
        go_roundw
        case measure => simp [intOf]; omega
        case rel => exact ⟨m + 1, j, by omega, by omega, by go_num, rfl, HLT.out HX.out, h2, hbb⟩
      · rw [if_neg hx] at hpc
        have HX := Lib.hid hx
        obtain ⟨c, hc⟩ : ∃ c : Int, (if x < k.X then 1 else 0) = c := ⟨_, rfl⟩
        rw [hc] at hpc
        have g := decide_eq_false (show ¬ c < 0 by split at hc <;> omega)
        clear hx hc
        go_wp2_with fail
        refine Calls.to (hpc _) ?_
        rintro e w1 rfl hb1
        have hbb := hb.trans (hb1.mono hb.size)
        go_wp2_with fail
        go_roundw
        case measure => simp [intOf]; omega
        case rel => exact ⟨i, m, by omega, by omega, rfl, rfl, h1, HGE.out HX.out, hbb⟩
    · obtain rfl : i = j := by omega
      have HK := Lib.hid (cntX_is HT.out x i (by omega) h1.out h2.out)
      by_cases hin : i < xs.length
      · obtain ⟨b, off, rfl, d1, d2⟩ := (hs.mono hb).kn i hin
        have g1 := decide_eq_true hin
        have g1' := decide_eq_true (show (i : Int) < xs.length by omega)
        have hpc := fun W => piece1_any xs[i] x W
        have hge := h2.out i hin (Nat.le_refl _)
        have HH : Hid (hitX xs x = decide (xs[i].X = x)) := by
          show _ = _
          unfold hitX
          rw [← HK.out, knAt_is hin]
          simp [hin]
        clear hs
        generalize xs[i] = k at *
        unfold cmpX at hpc
        rw [if_neg (by omega)] at hpc
        by_cases hx : x < k.X
        · rw [if_pos hx] at hpc
          have hh2 := HH.out.trans (decide_eq_false (show ¬ k.X = x by omega))
          have HH2 := Lib.hid hh2
          clear hx hh2 hge
          go_wp2_with fail
          refine Calls.to (hpc _) ?_
          rintro e w1 rfl hb1
          have hbb := hb.trans (hb1.mono hb.size)
          go_wp2_with fail
          go_ret2
          exact ⟨by rw [← HK.out, HH2.out]; rfl, hbb⟩
        · rw [if_neg hx] at hpc
          have hh2 := HH.out.trans (decide_eq_true (show k.X = x by omega))
          have HH2 := Lib.hid hh2
          clear hx hh2 hge
          go_wp2_with fail
          refine Calls.to (hpc _) ?_
          rintro e w1 rfl hb1
          have hbb := hb.trans (hb1.mono hb.size)
          go_wp2_with fail
          go_ret2
          exact ⟨by rw [← HK.out, HH2.out]; rfl, hbb⟩
      · have g1 := decide_eq_false hin
        have g1' := decide_eq_false (show ¬ (i : Int) < xs.length by omega)
        have HH : Hid (hitX xs x = false) := by
          show _ = _
          unfold hitX
          rw [← HK.out]
          simp [hin]
        go_wp2_with fail
        go_ret2
        exact ⟨by rw [← HK.out, HH.out]; rfl, hb⟩

end Go.Proofs.YtjgfgbiohbgcaaaGreat

namespace Go.Proofs.YtjgfgbiohbgcaaaGreat
open Go.RowKit
set_option linter.unusedVariables false
set_option linter.unusedSimpArgs false

theorem wid1_any (k : Kn) (x : Int) (w : World) (h : -9223372036854775808 ≤ k.X - x ∧ k.X - x ≤ 9223372036854775807) : Calls Tryz.prog 69 #[vKn k, .int .i64 x] w fun e w' => e = .returned (.int .i64 (k.X - x)) ∧ Below w.heap.size w w' := by
  have x1 : IntKind.i64.wrap (k.X - x) = k.X - x := IntWalk.i64_in _ h
  obtain ⟨kx, ky⟩ := k
  simp only at x1
  go_enter Tryz.func69, Tryz.ntmps69
  go_wp2_with fail
  go_ret
  exact ⟨rfl, by repeat' (first | exact Below.refl _ _ | assumption | refine Below.more ?_ ?_ _ | refine Below.alloc ?_ ?_ _ | refine Below.drew ?_ | refine below_drewN ?_ _ | refine Below.setCell ?_ ?_ _ | exact Below.size (by assumption) | (simp [go_sem, size_more]; done) | (simp [go_sem, size_more]; omega))⟩
theorem ent69 : ∀ args w, (callFunc 69 args).run Tryz.prog w = .ok (.enter 69 args) w := by
  intro args w
  simp [go_sem]

set_option maxRecDepth 100000 in
set_option maxHeartbeats 2000000 in
theorem bsearchW_any (xs : List Kn) (x : Int) (v : Value) (w : World) (hv : IsKns w v xs) (h : tabB xs = true) (hx1 : -1125899906842624 ≤ x) (hx2 : x ≤ 1125899906842624) :
    Calls Tryz.prog 68 #[v, .int .i64 x, .func (.func 69) #[] #[]] w fun e w' => e = .returned (.tuple #[.int .i64 (cntX xs x), .bool (hitX xs x)]) ∧ Below w.heap.size w w' := by
  obtain ⟨a, cap, rfl, hcap, hbig, hs⟩ := hv
  have hlen := tabB_len h
  have HT := Lib.hid h
  have HX12 : Hid (-1125899906842624 ≤ x ∧ x ≤ 1125899906842624) := ⟨hx1, hx2⟩
  have hent := ent69
  clear h hx1 hx2
  go_enter Tryz.func68, Tryz.ntmps68
  go_wp2_with fail
  go_loopw [9, 10] (fun s9 s10 wr => ∃ i j : Nat, i ≤ j ∧ j ≤ xs.length ∧ s9 = .int .i64 i ∧ s10 = .int .i64 j ∧ Hid (∀ q (_ : q < xs.length), q < i → xs[q].X < x) ∧ Hid (∀ q (_ : q < xs.length), j ≤ q → x ≤ xs[q].X) ∧ Below w.heap.size w wr) (fun i j _ => (intOf j - intOf i).toNat)
  case atStart => exact ⟨0, xs.length, Nat.zero_le _, Nat.le_refl _, rfl, rfl, fun q _ h => absurd h (Nat.not_lt_zero _), fun q h1 h2 => absurd h1 (by omega), Below.refl _ _⟩
  case round =>
    as_aux_lemma =>
    obtain ⟨i, j, hij, hjn, rfl, rfl, h1, h2, hb⟩ := hrel
    by_cases hlt : i < j
    · obtain ⟨m, hm⟩ : ∃ m : Nat, ((i : Int) + j) / 2 = m := ⟨(i + j) / 2, by omega⟩
      have hmi : i ≤ m := by omega
      have hmj : m < j := by omega
      have hml : m < xs.length := by omega
      obtain ⟨b, off, rfl, d1, d2⟩ := (hs.mono hb).kn m hml
      have hpc := fun W => wid1_any xs[m] x W (by have := tabB_at HT.out m hml; have := HX12.out; omega)
      have HLT : Hid (xs[m].X < x → ∀ q (_ : q < xs.length), q < m + 1 → xs[q].X < x) := by
        intro hx q hq hqm
        by_cases e : q = m
        · subst e; exact hx
        · have := (tabB_lt HT.out q m (by omega) hml).1; omega
      have HGE : Hid (¬ xs[m].X < x → ∀ q (_ : q < xs.length), m ≤ q → x ≤ xs[q].X) := by
        intro hx q hq hqm
        by_cases e : q = m
        · subst e; omega
        · have := (tabB_lt HT.out m q (by omega) hq).1; omega
      have x1 : IntKind.i64.wrap ((i : Int) + (j : Int)) = (i : Int) + j := IntWalk.i64_in _ (by omega)
      have x2 : IntKind.u64.wrap ((i : Int) + (j : Int)) = (i : Int) + j := by rw [IntKind.wrap_u64]; omega
      have x3 : IntKind.i64.wrap (m : Int) = (m : Int) := IntWalk.i64_in _ (by omega)
      have x4 : IntKind.i64.wrap ((m : Int) + 1) = (m : Int) + 1 := IntWalk.i64_in _ (by omega)
      clear hs
      generalize xs[m] = k at *
      obtain ⟨c, hc⟩ : ∃ c : Int, k.X - x = c := ⟨_, rfl⟩
      rw [hc] at hpc
      by_cases hx : k.X < x
      · have g := decide_eq_true (show c < 0 by omega)
        have HX := Lib.hid hx
        clear hx hc
        go_wp2_with fail
        refine Calls.to (hpc _) ?_
        rintro e w1 rfl hb1
        have hbb := hb.trans (hb1.mono hb.size)
        go_wp2_with fail
        go_roundw
        case measure => simp [intOf]; omega
        case rel => exact ⟨m + 1, j, by omega, by omega, by go_num, rfl, HLT.out HX.out, h2, hbb⟩
      · have HX := Lib.hid hx
        have g := decide_eq_false (show ¬ c < 0 by omega)
        clear hx hc
        go_wp2_with fail
        refine Calls.to (hpc _) ?_
        rintro e w1 rfl hb1
        have hbb := hb.trans (hb1.mono hb.size)
        go_wp2_with fail
        go_roundw
        case measure => simp [intOf]; omega
        case rel => exact ⟨i, m, by omega, by omega, rfl, rfl, h1, HGE.out HX.out, hbb⟩
    · obtain rfl : i = j := by omega
      have HK := Lib.hid (cntX_is HT.out x i (by omega) h1.out h2.out)
      by_cases hin : i < xs.length
      · obtain ⟨b, off, rfl, d1, d2⟩ := (hs.mono hb).kn i hin
        have g1 := decide_eq_true hin
        have g1' := decide_eq_true (show (i : Int) < xs.length by omega)
        have hpc := fun W => wid1_any xs[i] x W (by have := tabB_at HT.out i hin; have := HX12.out; omega)
        have hge := h2.out i hin (Nat.le_refl _)
        have HH : Hid (hitX xs x = decide (xs[i].X = x)) := by
          show _ = _
          unfold hitX
          rw [← HK.out, knAt_is hin]
          simp [hin]
        clear hs
        generalize xs[i] = k at *
        obtain ⟨c, hc⟩ : ∃ c : Int, k.X - x = c := ⟨_, rfl⟩
        rw [hc] at hpc
        by_cases hx : x < k.X
        · have gz : (c == 0) = false := by rw [beq_eq_false_iff_ne]; omega
          have hh2 := HH.out.trans (decide_eq_false (show ¬ k.X = x by omega))
          have HH2 := Lib.hid hh2
          clear hx hh2 hge hc
          go_wp2_with fail
          refine Calls.to (hpc _) ?_
          rintro e w1 rfl hb1
          have hbb := hb.trans (hb1.mono hb.size)
          go_wp2_with fail
          go_ret2
          exact ⟨by rw [← HK.out, HH2.out]; rfl, hbb⟩
        · have gz : (c == 0) = true := by rw [beq_iff_eq]; omega
          have hh2 := HH.out.trans (decide_eq_true (show k.X = x by omega))
          have HH2 := Lib.hid hh2
          clear hx hh2 hge hc
          go_wp2_with fail
          refine Calls.to (hpc _) ?_
          rintro e w1 rfl hb1
          have hbb := hb.trans (hb1.mono hb.size)
          go_wp2_with fail
          go_ret2
          exact ⟨by rw [← HK.out, HH2.out]; rfl, hbb⟩
      · have g1 := decide_eq_false hin
        have g1' := decide_eq_false (show ¬ (i : Int) < xs.length by omega)
        have HH : Hid (hitX xs x = false) := by
          show _ = _
          unfold hitX
          rw [← HK.out]
          simp [hin]
        go_wp2_with fail
        go_ret2
        exact ⟨by rw [← HK.out, HH.out]; rfl, hb⟩

end Go.Proofs.YtjgfgbiohbgcaaaGreat
