/- The reference's Total, and the plain law of states. Conditions: none. -/
import Derived.Test.YtbkihndidbmhoaaOv12
import Derived.Test.YtbkihndidbmhoaaLaw1
namespace Go.Proofs.Ytbkihndidbmhoaa
open Go.RowKit
set_option linter.unusedVariables false
set_option linter.unusedSimpArgs false

theorem rvol_same (v : Int) (w : World) : Calls Try.prog 41 #[.int .i64 v] w fun e w' => e = .returned (.bool (volOk v)) ∧ w = w' := by
  go_enter Try.func41, Try.ntmps41
  unfold volOk
  by_cases h : 0 ≤ v
  all_goals
    go_wp2
    go_ret
    exact ⟨by simp <;> omega, rfl⟩

set_option maxRecDepth 100000 in
set_option maxHeartbeats 4000000 in
theorem rtotal_any (xs : List St) (v : Value) (w : World) (hv : IsSts w v xs) (hg : ∀ x ∈ xs, gSt w x) :
    Calls Try.prog 24 #[v] w fun e w' => TotIs (totalM xs) e ∧ Below w.heap.size w w' := by
  obtain ⟨a, cap, rfl, hcap, hbig, hs⟩ := hv
  by_cases h1 : 10000 < xs.length
  · go_enter Try.func24, Try.ntmps24
    go_wp2_with fail
    go_ret3
    exact ⟨by simp [TotIs, totalM, h1], Below.refl _ _⟩
  · have HG := Lib.hid hg
    clear hg
    go_enter Try.func24, Try.ntmps24
    go_wp2_with fail
    go_loop [5] (fun s5 => ∃ k : Nat, k ≤ xs.length ∧ s5 = .int .i64 k ∧ Hid ((xs.any fun s => decide (300 < (s.P.xs.length : Int))) = ((xs.drop k).any fun s => decide (300 < (s.P.xs.length : Int))))) (fun i => xs.length - (intOf i).toNat)
    case atStart => exact ⟨0, Nat.zero_le _, rfl, rfl⟩
    case round =>
      obtain ⟨k, hk, rfl, hm⟩ := hrel
      by_cases hlt : k < xs.length
      · obtain ⟨b, off, rfl, c0, c1, c2, c3⟩ := hs.st k hlt
        have hdrop : Hid (xs.drop k = xs[k] :: xs.drop (k + 1)) := List.drop_eq_getElem_cons hlt
        clear hs
        generalize xs[k] = x at *
        obtain ⟨V, ⟨aP, cP, P⟩, S, O⟩ := x
        simp only at c1
        have hstep : Hid ((xs.any fun s => decide (300 < (s.P.xs.length : Int))) = (decide (300 < (P.length : Int)) || ((xs.drop (k + 1)).any fun s => decide (300 < (s.P.xs.length : Int))))) := by
          show _ = _
          rw [hm.out, hdrop.out]; rfl
        by_cases hp : 300 < (P.length : Int)
        · go_wp2_with fail
          go_ret3
          have h2 : (xs.any fun s => decide (300 < (s.P.xs.length : Int))) = true := by rw [hstep.out, decide_eq_true hp]; rfl
          exact ⟨by have hq : totalM xs = (0, 0, 4) := (by unfold totalM; rw [if_pos (.inr h2)]); simp [TotIs, hq], Below.refl _ _⟩
        · go_wp2_with fail
          go_round
          case measure => simp [intOf]; omega
          case rel => exact ⟨k + 1, by omega, by go_num, by show _ = _; rw [hstep.out, decide_eq_false hp]; rfl⟩
      · have h2 := hm.out
        rw [List.drop_eq_nil_of_le (by omega)] at h2
        have H2 : Hid (totalM xs = totalGo (-1) 0 0 xs) := by
          show _ = _
          unfold totalM
          rw [if_neg]
          rintro (h | h)
          · exact h1 h
          · rw [h2] at h; simp at h
        clear h2
        go_wp2_with fail
        go_loop [6, 7, 8] (fun s5 s6 s22 => ∃ (k : Nat) (g t : Int), k ≤ xs.length ∧ s22 = .int .i64 k ∧ s5 = .int .i64 g ∧ s6 = .int .i64 t ∧ Hid (totalGo (-1) 0 0 xs = totalGo g t k (xs.drop k))) (fun _ _ i => xs.length - (intOf i).toNat)
        case atStart => exact ⟨0, -1, 0, Nat.zero_le _, rfl, rfl, rfl, rfl⟩
        case round =>
          obtain ⟨k, g, t, hk, rfl, rfl, rfl, hm⟩ := hrel
          by_cases hlt : k < xs.length
          · obtain ⟨b, off, rfl, c0, c1, c2, c3⟩ := hs.st k hlt
            have hgk := (HG.out _ (List.getElem_mem hlt)).2.1
            have hdrop : Hid (xs.drop k = xs[k] :: xs.drop (k + 1)) := List.drop_eq_getElem_cons hlt
            clear hs
            generalize xs[k] = x at *
            obtain ⟨V, ⟨aP, cP, P⟩, S, O⟩ := x
            obtain ⟨q1, q2, q3, q4⟩ := hgk
            simp only at q1 q2 q3 q4 c1
            have hstep : Hid (totalGo (-1) 0 0 xs = if P.any volBad = true then (0, 0, 2) else if g < wsum 0 P then totalGo (wsum 0 P) k (k + 1) (xs.drop (k + 1)) else totalGo g t (k + 1) (xs.drop (k + 1))) := by
              show _ = _
              rw [hm.out, hdrop.out, totalGo]
            go_wp2_with fail
            go_loop [9, 10] (fun s i => ∃ (j : Nat) (sm : Int), j ≤ P.length ∧ i = .int .i64 j ∧ s = .int .i64 sm ∧ Hid (wsum 0 P = wsum sm (P.drop j)) ∧ Hid (P.any volBad = (P.drop j).any volBad)) (fun _ i => P.length - (intOf i).toNat)
            case atStart => exact ⟨0, 0, Nat.zero_le _, rfl, rfl, rfl, rfl⟩
            case round =>
              obtain ⟨j, sm, hj, rfl, rfl, hw, ha⟩ := hrel
              by_cases hjl : j < P.length
              · obtain ⟨b2, off2, rfl, d0⟩ := q3.int j hjl
                have hd2 : Hid (P.drop j = P[j] :: P.drop (j + 1)) := List.drop_eq_getElem_cons hjl
                generalize P[j] = y at *
                cases hy : volOk y
                · have hbad : P.any volBad = true := by rw [ha.out, hd2.out, List.any_cons, volBad_ok, hy]; rfl
                  have HB := Lib.hid hbad; have HY := Lib.hid hy
                  clear hbad hy
                  go_wp2_with fail
                  refine (rvol_same y _).mono ?_
                  rintro e w1 ⟨rfl, rfl⟩
                  rw [HY.out]
                  go_wp2_with fail
                  go_ret3
                  exact ⟨by simp [TotIs, H2.out, hstep.out, HB.out], Below.refl _ _⟩
                · have HY := Lib.hid hy
                  clear hy
                  go_wp2_with fail
                  refine (rvol_same y _).mono ?_
                  rintro e w1 ⟨rfl, rfl⟩
                  rw [HY.out]
                  go_wp2_with fail
                  go_round
                  case measure => simp [intOf]; omega
                  case rel => exact ⟨j + 1, _, by omega, by go_num, rfl, hw.out.trans (by rw [hd2.out, wsum]), by show _ = _; rw [ha.out, hd2.out, List.any_cons, volBad_ok, HY.out]; rfl⟩
              · have hw' := hw.out
                have ha' := ha.out
                rw [List.drop_eq_nil_of_le (by omega)] at hw' ha'
                simp only [wsum, List.any_nil] at hw' ha'
                have HW := Lib.hid hw'; have HA := Lib.hid ha'
                clear hw' ha'
                by_cases hgs : g < sm
                all_goals
                  have HGS := Lib.hid hgs
                  go_wp2_with fail
                  go_round
                  case measure => simp [intOf]; omega
                  case rel => exact ⟨k + 1, _, _, by omega, by go_num, rfl, rfl, by show _ = _; rw [hstep.out, HA.out, HW.out]; simp only [HGS.out, Bool.false_eq_true, if_true, if_false]⟩
          · have h3 := hm.out
            rw [List.drop_eq_nil_of_le (by omega), totalGo] at h3
            have H3 := Lib.hid h3
            clear h3
            by_cases hg0 : g < 0
            · have hT : totalM xs = (0, 0, 14) := by rw [H2.out, H3.out, if_pos hg0]
              have HTT := Lib.hid hT
              clear hT
              go_wp2_with fail
              go_ret3
              exact ⟨by simp [TotIs, HTT.out], Below.refl _ _⟩
            · have hT : totalM xs = (g, t, 0) := by rw [H2.out, H3.out, if_neg hg0]
              have HTT := Lib.hid hT
              clear hT
              go_wp2_with fail
              go_ret3
              exact ⟨by simp [TotIs, HTT.out], Below.refl _ _⟩

theorem ofGo_rof (node : Int) : ∀ (xs : List St) (out : List Int), (∀ v ∈ out, volOk v = true) → rofGo node xs out = (match ofGo node xs out with | none => none | some l => if l.all volOk = true then some l else none)
  | [], out, ho => by
    simp only [rofGo, ofGo]
    rw [if_pos (List.all_eq_true.2 ho)]
  | s :: r, out, ho => by
    by_cases hn : node < 0 ∨ (s.P.xs.length : Int) ≤ node
    · simp only [rofGo, ofGo, if_pos hn]
    · simp only [rofGo, ofGo, if_neg hn]
      by_cases hv : volOk (s.P.xs.getD node.toNat 0) = true
      · rw [if_pos hv]
        refine ofGo_rof node r _ ?_
        intro v hm
        rcases List.mem_append.1 hm with h | h
        · exact ho v h
        · simp at h; rw [h]; exact hv
      · rw [if_neg hv]
        have hlem : ∀ (r : List St) (out : List Int), (∃ v ∈ out, ¬ volOk v = true) → (match ofGo node r out with | none => none | some l => if l.all volOk = true then some l else none) = (none : Option (List Int)) := by
          intro r
          induction r with
          | nil =>
            rintro out ⟨v, h1, h2⟩
            simp only [ofGo]
            rw [if_neg]
            intro h
            exact h2 (List.all_eq_true.1 h v h1)
          | cons s' r ih =>
            rintro out ⟨v, h1, h2⟩
            simp only [ofGo]
            split
            · rfl
            · rename_i h
              split at h
              · cases h
              · have h5 := ih (out ++ [s'.P.xs.getD node.toNat 0]) ⟨v, List.mem_append_left _ h1, h2⟩
                rw [h] at h5
                exact h5
        exact (hlem r (out ++ [s.P.xs.getD node.toNat 0]) ⟨s.P.xs.getD node.toNat 0, List.mem_append.2 (.inr (List.mem_singleton.2 rfl)), hv⟩).symm

theorem ofGo_len (node : Int) : ∀ (xs : List St) (out l : List Int), ofGo node xs out = some l → l.length = out.length + xs.length
  | [], out, l, h => by simp only [ofGo, Option.some.injEq] at h; subst h; simp
  | s :: r, out, l, h => by
    simp only [ofGo] at h
    split at h
    · cases h
    · have := ofGo_len node r _ l h
      rw [this]; simp; omega

/-- Of is as specified. -/
theorem of_law (xs : List St) (node : Int) : ofM xs node = rofM xs node := by
  unfold ofM rofM
  by_cases h1 : 10000 < xs.length
  · rw [if_pos h1, if_pos h1]
  · rw [if_neg h1, if_neg h1, ofGo_rof node xs [] (by simp)]
    cases h : ofGo node xs [] with
    | none => rfl
    | some l =>
      have hl := ofGo_len node xs [] l h
      simp only [List.length_nil, Nat.zero_add] at hl
      simp only
      rw [spills_law]
      unfold rspillsM
      rw [if_neg (by omega)]
      cases h2 : l.all volOk
      · simp
      · simp only [if_true, Bool.true_eq_false, if_false]
        rw [if_neg (by omega)]

end Go.Proofs.Ytbkihndidbmhoaa
