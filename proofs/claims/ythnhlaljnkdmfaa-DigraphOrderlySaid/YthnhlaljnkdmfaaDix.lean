/- slices.Index at numbers. Conditions: none. -/
import Derived.Test.YthnhlaljnkdmfaaDlr
import Derived.Test.YthnhlaljnkdmfaaDrj
import Derived.Test.YthnhlaljnkdmfaaGqw
namespace Go.Proofs.Ythnhlaljnkdmfaa
open Go.RowKit
set_option linter.unusedVariables false
set_option linter.unusedSimpArgs false

set_option maxRecDepth 100000 in
set_option maxHeartbeats 1000000 in
theorem indexN_any (xs : List Nat) (x : Nat) (v : Value) (w : World) (hv : IsNats w v xs) (hl : xs.length ≤ 1000000) :
    Calls Try.prog 22 #[v, .int .i64 (x : Int)] w fun e w' => e = .returned (.int .i64 (idxFrom (fun y => x == y) xs 0)) ∧ w' = w := by
  obtain ⟨a, cap, rfl, hcap, hbig, hs⟩ := hv
  go_enter Try.func22, Try.ntmps22
  go_wp2_with fail
  go_loopw [8] (fun s8 wx => wx = w ∧ ∃ k : Nat, k ≤ xs.length ∧ s8 = .int .i64 k ∧ Hid (idxFrom (fun y => x == y) xs 0 = idxFrom (fun y => x == y) (xs.drop k) k)) (fun i _ => xs.length - (intOf i).toNat)
  case atStart => exact ⟨rfl, 0, Nat.zero_le _, rfl, rfl⟩
  case round =>
    obtain ⟨rfl, k, hk, rfl, hm⟩ := hrel
    by_cases hlt : k < xs.length
    · obtain ⟨b, off, rfl, c1⟩ := hs.nat k hlt
      have hstep : Hid (idxFrom (fun y => x == y) (xs.drop k) k = if x == xs[k] then (k : Int) else idxFrom (fun y => x == y) (xs.drop (k + 1)) (k + 1)) := by
        rw [List.drop_eq_getElem_cons hlt]; rfl
      have x8 : IntKind.i64.wrap ((k : Int) + 1) = k + 1 := IntWalk.i64_in _ (by omega)
      clear hs
      generalize xs[k] = y at *
      by_cases hxy : x = y
      · subst hxy
        have hf : Hid (idxFrom (fun y => x == y) xs 0 = (k : Int)) := Lib.hid (by rw [hm.out, hstep.out]; simp)
        go_wp2_with fail
        go_ret
        exact ⟨ret_int hf.out.symm, rfl⟩
      · have h1 : (x == y) = false := by simpa using hxy
        have h2 : ((x : Int) == (y : Int)) = false := by rw [beq_eq_false_iff_ne]; omega
        have hf : Hid (idxFrom (fun y => x == y) xs 0 = idxFrom (fun y => x == y) (xs.drop (k + 1)) (k + 1)) := Lib.hid (by rw [hm.out, hstep.out, h1]; simp)
        go_wp2_with fail
        go_roundw
        case measure => simp [intOf]; omega
        case rel => exact ⟨trivial, k + 1, by omega, by go_num, hf⟩
    · have hf : Hid (idxFrom (fun y => x == y) xs 0 = -1) := Lib.hid (by rw [hm.out, List.drop_eq_nil_of_le (by omega)]; rfl)
      go_wp2_with fail
      go_ret
      exact ⟨ret_int hf.out.symm, rfl⟩

/-- What Path hands back, and whether the end is reached. -/
def WayR (N : Nat) (G : List (Nat × Nat)) (a b base : Nat) (w : World) (u : Value) (c : Int) (rb : Bool) (L : List Nat) : Prop :=
  (rb = false ∧ c = 12 ∧ u = .slice none 0 0 ∧ L = [] ∧ ¬ Gp.Rch G a b) ∨
    (rb = true ∧ c = 0 ∧ Own base 3 eNat 1 w u L ∧ Gp.Rch G a b ∧ ∃ k, L.length = k + 1 ∧ k ≤ N ∧ Gp.Dk G 0 b false a k ∧ Gp.PthI N G (Gp.stepsL N G b 0) b k a L)
theorem WayR.of {N : Nat} {G : List (Nat × Nat)} {a b base : Nat} {w : World} {u : Value} {c : Int} (hv : Gp.vtx N G) (ha : a < N) (hb : b < N)
    (h : (Gp.pthL N G a b = none ∧ c = 12 ∧ u = .slice none 0 0) ∨ ∃ l, Gp.pthL N G a b = some l ∧ c = 0 ∧ Own base 3 eNat 1 w u l) : ∃ rb L, WayR N G a b base w u c rb L ∧ (Gp.reachL N G [a]).getD b false = rb := by
  rcases Gp.pthL_cases hv ha hb with ⟨h1, h2⟩ | ⟨k, h1, h2, h3, h4⟩
  · rcases h with ⟨_, rfl, rfl⟩ | ⟨l, h5, _⟩
    · refine ⟨false, [], .inl ⟨rfl, rfl, rfl, rfl, h2⟩, ?_⟩
      cases hr : (Gp.reachL N G [a]).getD b false
      · rfl
      · obtain ⟨s, hs, hsr⟩ := (Gp.reachL_get hb).1 hr
        rw [List.mem_singleton] at hs; subst hs
        exact absurd hsr h2
    · rw [h1] at h5; cases h5
  · rcases h with ⟨h5, _⟩ | ⟨l, h5, rfl, hO⟩
    · rw [h3] at h5; cases h5
    · rw [h3] at h5
      injection h5 with h5
      have hS := Gp.lpR_spec hv (Gp.stepsL_is (low := 0) hv hb) hb k a ha h2
      rw [h5] at hS
      refine ⟨true, l, .inr ⟨rfl, rfl, hO, h4, k, hS.len, Nat.le_of_lt (h1.small hv hb), h1, hS⟩, (Gp.reachL_get hb).2 ⟨a, List.mem_singleton.2 rfl, h4⟩⟩
theorem WayR.below {N : Nat} {G : List (Nat × Nat)} {a b base : Nat} {w w' : World} {u : Value} {c : Int} {rb : Bool} {L : List Nat} (h : WayR N G a b base w u c rb L) (hb : Below w.heap.size w w') : WayR N G a b base w' u c rb L := by
  rcases h with h | ⟨h1, h2, h3, h4⟩
  · exact .inl h
  · exact .inr ⟨h1, h2, h3.below hb, h4⟩
theorem WayR.isSlice {N : Nat} {G : List (Nat × Nat)} {a b base : Nat} {w : World} {u : Value} {c : Int} {rb : Bool} {L : List Nat} (h : WayR N G a b base w u c rb L) : ∃ ua uc, u = .slice ua L.length uc := by
  rcases h with ⟨_, _, h3, h4, _⟩ | ⟨_, _, h3, _⟩
  · exact ⟨none, 0, by rw [h3, h4]; rfl⟩
  · exact h3.isSlice

end Go.Proofs.Ythnhlaljnkdmfaa
