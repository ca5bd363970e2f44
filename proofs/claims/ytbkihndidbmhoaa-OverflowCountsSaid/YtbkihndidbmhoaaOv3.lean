/- Spills on both sides, and equality of two lists of events. Conditions: at most 2^31 elements (Equal). -/
import Derived.Test.YtbkihndidbmhoaaOv2
import Derived.Deep.QuietTactic
import Derived.BigQuiet
namespace Go.Proofs.Ytbkihndidbmhoaa
open Go.RowKit
set_option linter.unusedVariables false
set_option linter.unusedSimpArgs false

/-- Spills: the list, and the error's number. -/
def spillsM (xs : List Int) (dry : Int) : List Ev × Int :=
  if 10000 < xs.length then ([], 4)
  else if xs.any volBad = true ∨ dry < 1 then ([], 2)
  else if bigGo 0 xs = true then ([], 5)
  else (spillsGo dry xs 0 [] false 0, 0)

set_option maxHeartbeats 400000 in
theorem spillsX_any (xs : List Int) (v : Value) (dry : Int) (w : World) (hv : IsInts w v xs) :
    Calls Try.prog 12 #[v, .int .i64 dry] w fun e w' => (∃ v', e = .returned (.tuple #[v', .int .i64 (spillsM xs dry).2]) ∧ Own w.heap.size 33 eEv 4 w' v' (spillsM xs dry).1) ∧ Below w.heap.size w w' := by
  unfold spillsM
  obtain ⟨a, cap, rfl, hcap, hbig, hs⟩ := hv
  have hv : IsInts w (.slice a xs.length cap) xs := ⟨a, cap, rfl, hcap, hbig, hs⟩
  by_cases h1 : 10000 < xs.length
  · rw [if_pos h1]
    go_enter Try.func12, Try.ntmps12
    go_wp2_with fail
    go_ret2
    exact ⟨⟨_, rfl, World.ownsRow_nil _ _ _ _⟩, Below.refl _ _⟩
  · rw [if_neg h1]
    by_cases h2 : xs.any volBad = true
    · rw [if_pos (.inl h2)]
      go_enter Try.func12, Try.ntmps12
      go_wp2_with fail
      refine Calls.to (volumes_any xs _ _ hv) ?_
      rintro e w1 rfl hb
      go_wp2_with fail
      go_ret2
      exact ⟨⟨_, rfl, World.ownsRow_nil _ _ _ _⟩, hb⟩
    · by_cases h3 : dry < 1
      · rw [if_pos (.inr h3)]
        go_enter Try.func12, Try.ntmps12
        go_wp2_with fail
        refine Calls.to (volumes_any xs _ _ hv) ?_
        rintro e w1 rfl hb
        go_wp2_with fail
        go_ret2
        exact ⟨⟨_, rfl, World.ownsRow_nil _ _ _ _⟩, hb⟩
      · rw [if_neg (by intro h; rcases h with h | h <;> contradiction)]
        have h2' : xs.any volBad = false := by simpa using h2
        clear h2
        cases h4 : bigGo 0 xs
        all_goals
          go_enter Try.func12, Try.ntmps12
          go_wp2_with fail
          refine Calls.to (volumes_any xs _ _ hv) ?_
          rintro e w1 rfl hb
          go_wp2_with fail
          refine Calls.to (big_any xs _ _ (hv.mono hb)) ?_
          rintro e w2 rfl hb2
          have hbb := hb.trans (hb2.mono hb.size)
          go_wp2_with fail
        · refine Calls.mono (spills_any xs _ dry _ (hv.mono hbb) (by omega)) ?_
          rintro e w3 ⟨⟨v', rfl, hown⟩, hb3⟩
          go_wp2_with fail
          go_ret2
          exact ⟨⟨_, rfl, hown.base (by have := hbb.size; omega)⟩, hbb.trans (hb3.mono hbb.size)⟩
        · go_ret2
          exact ⟨⟨_, rfl, World.ownsRow_nil _ _ _ _⟩, hbb⟩

def rspillsM (xs : List Int) (dry : Int) : List Ev × Int :=
  if 10000 < xs.length then ([], 4)
  else if xs.all volOk = false then ([], 2)
  else if dry < 1 then ([], 2)
  else if bigGo 0 xs = true then ([], 5)
  else (runsGo dry xs 0 [], 0)

set_option maxHeartbeats 1000000 in
theorem rspills_any (xs : List Int) (v : Value) (dry : Int) (w : World) (hv : IsInts w v xs) :
    Calls Try.prog 13 #[v, .int .i64 dry] w fun e w' => (∃ v', e = .returned (.tuple #[v', .int .i64 (rspillsM xs dry).2]) ∧ Own w.heap.size 33 eEv 4 w' v' (rspillsM xs dry).1) ∧ Below w.heap.size w w' := by
  obtain ⟨a, cap, rfl, hcap, hbig, hs⟩ := hv
  have hv : IsInts w (.slice a xs.length cap) xs := ⟨a, cap, rfl, hcap, hbig, hs⟩
  by_cases h1 : 10000 < xs.length
  · go_enter Try.func13, Try.ntmps13
    go_wp2_with fail
    go_ret2
    have hR : rspillsM xs dry = ([], 4) := by simp [rspillsM, h1]
    rw [hR]
    exact ⟨⟨_, rfl, World.ownsRow_nil _ _ _ _⟩, Below.refl _ _⟩
  · go_enter Try.func13, Try.ntmps13
    go_wp2_with fail
    go_loopw [6] (fun s6 wr => ∃ k : Nat, k ≤ xs.length ∧ s6 = .int .i64 k ∧ Below w.heap.size w wr ∧ Hid (xs.all volOk = (xs.drop k).all volOk)) (fun i _ => xs.length - (intOf i).toNat)
    case atStart => exact ⟨0, Nat.zero_le _, rfl, Below.refl _ _, rfl⟩
    case round =>
      obtain ⟨k, hk, rfl, hb, hm⟩ := hrel
      by_cases hlt : k < xs.length
      · obtain ⟨b, off, rfl, hc⟩ := (hs.mono hb).int k hlt
        have hstep : Hid ((xs.drop k).all volOk = (volOk xs[k] && (xs.drop (k + 1)).all volOk)) := by
          rw [List.drop_eq_getElem_cons hlt]; rfl
        clear hs
        generalize xs[k] = y at *
        cases hy : volOk y
        all_goals
          rw [hy] at hstep
          go_wp2_with fail
          refine Calls.to (rvol_any y _) ?_
          rintro e w1 rfl hb1
          have hbb := hb.trans (hb1.mono hb.size)
          go_wp2_with fail
        · go_ret2
          have hf : xs.all volOk = false := by rw [hm.out, hstep.out]; rfl
          have hR : rspillsM xs dry = ([], 2) := by simp [rspillsM, h1, hf]
          rw [hR]
          exact ⟨⟨_, rfl, World.ownsRow_nil _ _ _ _⟩, hbb⟩
        · go_roundw
          case rel => exact ⟨k + 1, by omega, by go_num, hbb, hm.out.trans (hstep.out.trans (by simp))⟩
          case measure => simp [intOf]; omega
      · have ht : Hid (xs.all volOk = true) := by
          show xs.all volOk = true
          rw [hm.out, List.drop_eq_nil_of_le (by omega)]; rfl
        by_cases h3 : dry < 1
        · go_wp2_with fail
          go_ret2
          have hR : rspillsM xs dry = ([], 2) := by simp [rspillsM, h1, h3, ht.out]
          rw [hR]
          exact ⟨⟨_, rfl, World.ownsRow_nil _ _ _ _⟩, hb⟩
        · cases h4 : bigGo 0 xs
          all_goals
            go_wp2_with fail
            refine Calls.to (rbig_any xs _ _ (hv.mono hb)) ?_
            rintro e w2 rfl hb2
            have hbb := hb.trans (hb2.mono hb.size)
            go_wp2_with fail
          · refine Calls.mono (runs_any xs _ dry _ (hv.mono hbb) (by omega)) ?_
            rintro e w3 ⟨⟨v', rfl, hown⟩, hb3⟩
            go_wp2_with fail
            go_ret2
            have h3' : ¬ dry < 1 := by omega
            refine ⟨⟨v', ?_, ?_⟩, hbb.trans (hb3.mono hbb.size)⟩
            · simp [rspillsM, h1, h3', ht.out, h4]
            · simp [rspillsM, h1, h3', ht.out, h4]; exact hown.base (by have := hbb.size; omega)
          · go_ret2
            have h3' : ¬ dry < 1 := by omega
            have hR : rspillsM xs dry = ([], 5) := by simp [rspillsM, h1, h3', ht.out, h4]
            rw [hR]
            exact ⟨⟨_, rfl, World.ownsRow_nil _ _ _ _⟩, hbb⟩

theorem neqEv (a b : Ev) (w : World) : (binOp .neq 33 (vEv a) (vEv b)).run Try.prog w = .ok (.bool (!decide (a = b))) w := by
  obtain ⟨a1, a2, a3, a4⟩ := a
  obtain ⟨b1, b2, b3, b4⟩ := b
  simp [go_sem]
  by_cases h1 : a1 = b1 <;> by_cases h2 : a2 = b2 <;> by_cases h3 : a3 = b3 <;> by_cases h4 : a4 = b4 <;> simp [h1, h2, h3, h4]

def eqGo {α : Type} [DecidableEq α] : List α → List α → Bool
  | x :: r, y :: s => decide (x = y) && eqGo r s
  | _, _ => true

theorem eqGo_iff {α : Type} [DecidableEq α] : ∀ (xs ys : List α), xs.length = ys.length → eqGo xs ys = decide (xs = ys)
  | [], [], _ => by simp [eqGo]
  | x :: r, y :: s, h => by
    simp only [eqGo, eqGo_iff r s (by simpa using h)]
    by_cases h1 : x = y <;> by_cases h2 : r = s <;> simp [h1, h2]
  | [], _ :: _, h => by simp at h
  | _ :: _, [], h => by simp at h

set_option maxHeartbeats 1000000 in
theorem eqEvs (xs ys : List Ev) (v v2 : Value) (w : World) (hv : IsEvs w v xs) (hv2 : IsEvs w v2 ys) :
    Calls Try.prog 14 #[v, v2] w fun e w' => e = .returned (.bool (decide (xs = ys))) ∧ Below w.heap.size w w' := by
  obtain ⟨a, cap, rfl, hcap, hbig, hs⟩ := hv
  obtain ⟨a2, cap2, rfl, hcap2, hbig2, hs2⟩ := hv2
  by_cases hl : xs.length = ys.length
  · rw [← eqGo_iff xs ys hl]
    have Hl : Hid (xs.length = ys.length) := hl
    rw [← hl]
    clear hl
    have hneq := neqEv
    go_enter Try.func14, Try.ntmps14
    go_wp2_with fail
    go_loopw [13] (fun s6 wr => ∃ k : Nat, k ≤ xs.length ∧ s6 = .int .i64 k ∧ Below w.heap.size w wr ∧ Hid (eqGo xs ys = eqGo (xs.drop k) (ys.drop k))) (fun i _ => xs.length - (intOf i).toNat)
    case atStart => exact ⟨0, Nat.zero_le _, rfl, Below.refl _ _, rfl⟩
    case round =>
      obtain ⟨k, hk, rfl, hb, hm⟩ := hrel
      by_cases hlt : k < xs.length
      · have hlt2 : k < ys.length := by have := Hl.out; omega
        obtain ⟨b, off, rfl, c1, c2, c3, c4⟩ := (hs.mono hb).ev k hlt
        obtain ⟨b', off', rfl, d1, d2, d3, d4⟩ := (hs2.mono hb).ev k hlt2
        have hstep : Hid (eqGo (xs.drop k) (ys.drop k) = (decide (xs[k] = ys[k]) && eqGo (xs.drop (k + 1)) (ys.drop (k + 1)))) := by
          rw [List.drop_eq_getElem_cons hlt, List.drop_eq_getElem_cons hlt2]; rfl
        clear hs hs2
        generalize xs[k] = x at *
        generalize ys[k] = y at *
        have i1 : (0 : Int) ≤ k := by omega
        have i2 : (k : Int) < xs.length := by omega
        by_cases hxy : x = y
        · subst hxy
          go_wp2_with fail
          go_quiet (fail)
          go_wp2_with fail
          go_roundw
          case rel => exact ⟨k + 1, by omega, by go_num, by repeat' (first | exact Below.refl _ _ | assumption | refine Below.more ?_ ?_ _ | refine Below.alloc ?_ ?_ _ | refine Below.drew ?_ | refine below_drewN ?_ _ | refine Below.setCell ?_ ?_ _ | exact Below.size (by assumption) | (simp [go_sem, size_more]; done) | (simp [go_sem, size_more]; omega)), hm.out.trans (hstep.out.trans (by simp))⟩
          case measure => simp [intOf]; omega
        · go_wp2_with fail
          go_quiet (fail)
          go_wp2_with fail
          go_ret
          exact ⟨ret_bool (hm.out.trans (hstep.out.trans (by simp [hxy]))).symm, by repeat' (first | exact Below.refl _ _ | assumption | refine Below.more ?_ ?_ _ | refine Below.alloc ?_ ?_ _ | refine Below.drew ?_ | refine below_drewN ?_ _ | refine Below.setCell ?_ ?_ _ | exact Below.size (by assumption) | (simp [go_sem, size_more]; done) | (simp [go_sem, size_more]; omega))⟩
      · go_wp2_with fail
        go_ret
        refine ⟨ret_bool ?_, hb⟩
        rw [hm.out, List.drop_eq_nil_of_le (by omega)]; rfl
  · have hd : decide (xs = ys) = false := by
      simp; intro h; exact hl (by rw [h])
    rw [hd]
    clear hd
    go_enter Try.func14, Try.ntmps14
    go_wp2_with fail
    go_ret
    exact ⟨rfl, Below.refl _ _⟩

end Go.Proofs.Ytbkihndidbmhoaa
