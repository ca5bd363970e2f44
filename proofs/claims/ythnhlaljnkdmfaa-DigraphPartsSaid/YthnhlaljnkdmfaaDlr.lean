/- What the laws of chapter 08 share on reaching: equal marks, all cases of Reach. Conditions: none. -/
import Derived.Test.YthnhlaljnkdmfaaDgy
import Derived.Test.YthnhlaljnkdmfaaDrh
namespace Go.Proofs.Ythnhlaljnkdmfaa
open Go.RowKit
set_option linter.unusedVariables false
set_option linter.unusedSimpArgs false

theorem eqB_same (xs : List Bool) (v v2 : Value) (w : World) (hv : IsBools w v xs) (hv2 : IsBools w v2 xs) : Calls Try.prog 31 #[v, v2] w fun e w' => e = .returned (.bool true) ∧ Below w.heap.size w w' := by
  have h := eqBools xs xs v v2 w hv hv2
  simpa using h
/-- What Reach hands back for a valid graph. -/
def ReachR (N : Nat) (G : List (Nat × Nat)) (F : List Int) (base : Nat) (w : World) (u : Value) (c : Int) : Prop :=
  (1000 < F.length ∧ c = 4 ∧ u = .slice none 0 0) ∨ (F.length ≤ 1000 ∧ F.any (fun i => !isB N i) = true ∧ c = 2 ∧ u = .slice none 0 0) ∨
    (F.length ≤ 1000 ∧ F.any (fun i => !isB N i) = false ∧ ∃ f : List Nat, F = nzs f ∧ (∀ s ∈ f, s < N) ∧ c = 0 ∧ Own base 4 eBool 1 w u (Gp.reachL N G f))
theorem nat_of_any {N : Nat} {F : List Int} (h : F.any (fun i => !isB N i) = false) : ∃ f : List Nat, F = nzs f ∧ ∀ s ∈ f, s < N := by
  rw [List.any_eq_false] at h
  refine ⟨F.map Int.toNat, ?_, ?_⟩
  · unfold nzs
    rw [List.map_map]
    refine ((List.map_congr_left (fun z hz => ?_)).trans (List.map_id _)).symm
    have := h z hz
    simp [isB] at this ⊢
    omega
  · intro s hs
    obtain ⟨z, hz, rfl⟩ := List.mem_map.1 hs
    have := h z hz
    simp [isB] at this
    omega
theorem reach_all (N : Nat) (G : List (Nat × Nat)) (F : List Int) (v fv : Value) (w : World) (hE : IsEds w v G) (hv : Gp.vtx N G) (hn : N ≤ 300) (hl : G.length ≤ 1000) (hF : IsInts w fv F) :
    Calls Try.prog 29 #[.int .i64 N, v, fv] w fun e w' => (∃ u c, e = .returned (.tuple #[u, .int .i64 c]) ∧ ReachR N G F w.heap.size w' u c) ∧ Below w.heap.size w w' := by
  have hok := validB_ok hv hn hl
  by_cases h1 : 1000 < F.length
  · refine (reach_full N (edI G) F v fv w (isL_edI.2 hE) hok hF h1).mono ?_
    rintro e w' ⟨rfl, hb⟩
    exact ⟨⟨_, _, rfl, .inl ⟨h1, rfl, rfl⟩⟩, hb⟩
  · cases h2 : F.any (fun i => !isB N i)
    · obtain ⟨f, rfl, hf⟩ := nat_of_any h2
      refine (reach_ok N G f v fv w hE hv hn hl (isL_ints.1 hF) (by rw [ints_len] at h1; omega) hf).mono ?_
      rintro e w' ⟨⟨u, rfl, hO⟩, hb⟩
      exact ⟨⟨_, _, rfl, .inr (.inr ⟨by omega, h2, f, rfl, hf, rfl, hO⟩)⟩, hb⟩
    · refine (reach_rng N (edI G) F v fv w (isL_edI.2 hE) hok hF (by omega) h2).mono ?_
      rintro e w' ⟨rfl, hb⟩
      exact ⟨⟨_, _, rfl, .inr (.inl ⟨by omega, h2, rfl, rfl⟩)⟩, hb⟩
theorem ReachR.below {N : Nat} {G : List (Nat × Nat)} {F : List Int} {base : Nat} {w w' : World} {u : Value} {c : Int} (h : ReachR N G F base w u c) (hb : Below w.heap.size w w') : ReachR N G F base w' u c := by
  rcases h with h | h | ⟨h1, h2, f, h3, h4, h5, h6⟩
  · exact .inl h
  · exact .inr (.inl h)
  · exact .inr (.inr ⟨h1, h2, f, h3, h4, h5, h6.below hb⟩)
theorem cloL_get {n : Nat} {E : Gp.Gr} {i : Nat} (hi : i < n) : (cloL n E n)[i]'(by rw [cloL_len]; exact hi) = Gp.reachL n E [i] := by simp [cloL]

end Go.Proofs.Ythnhlaljnkdmfaa
