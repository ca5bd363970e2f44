/- The example of chapter 08 holds; which graphs are large. Conditions: none. -/
import Derived.Test.YthnhlaljnkdmfaaDgp
namespace Go.Proofs.Ythnhlaljnkdmfaa
open Go.RowKit
set_option linter.unusedVariables false
set_option linter.unusedSimpArgs false

theorem flat_edI (E : List (Nat × Nat)) : (edI E).flatMap eEi = E.flatMap eEd := by
  induction E with
  | nil => rfl
  | cons e r ih =>
    simp only [edI, List.map_cons, List.flatMap_cons] at ih ⊢
    rw [ih]
theorem own_edI {base : Nat} {e : TypeId} {w : World} {v : Value} {E : List (Nat × Nat)} : Own base e eEi 2 w v (edI E) ↔ Own base e eEd 2 w v E := by
  unfold Own
  rw [flat_edI, edI_len]
/-- A list that is laid down in one block. -/
theorem IsL.lit {α : Type} {enc : α → List Value} {k : Nat} (hk : ∀ x, (enc x).length = k) (w : World) (xs : List α) (cs : Array Value) (hcs : cs = (xs.flatMap enc).toArray) (e : TypeId) (hl : xs.length ≤ 1000) :
    IsL enc k (w.alloc (.cells cs e)) (.slice (some ⟨w.heap.size, 0, none⟩) xs.length xs.length) xs := by
  subst hcs
  refine ⟨_, _, rfl, Nat.le_refl _, by omega, fun i hi => ⟨w.heap.size, 0, rfl, fun j hj => ?_⟩⟩
  rw [Nat.zero_add, blk_cell (heap_alloc_new w _), List.getElem?_toArray]
  exact flat_get enc k hk xs i j hi hj
theorem eqN_same (xs : List Nat) (v v2 : Value) (w : World) (hv : IsNats w v xs) (hv2 : IsNats w v2 xs) : Calls Try.prog 18 #[v, v2] w fun e w' => e = .returned (.bool true) ∧ Below w.heap.size w w' := by
  have h := eqNats xs xs v v2 w hv hv2
  simpa using h
theorem eqI_same (xs : List Int) (v v2 : Value) (w : World) (hv : IsInts w v xs) (hv2 : IsInts w v2 xs) : Calls Try.prog 18 #[v, v2] w fun e w' => e = .returned (.bool true) ∧ Below w.heap.size w w' := by
  have h := eqInts xs xs v v2 w hv hv2
  simpa using h

abbrev exG : List (Nat × Nat) := [(3, 1), (1, 0), (3, 0)]
abbrev exH : List (Nat × Nat) := [(3, 1), (1, 0), (3, 0), (0, 3)]
theorem exG_v : Gp.vtx 4 exG := by unfold Gp.vtx; decide
theorem exH_v : Gp.vtx 4 exH := by unfold Gp.vtx; decide
theorem exG_ord : Gp.ordL 4 exG = [2, 3, 1, 0] := by decide
theorem exG_dep : Gp.depL 4 exG = [2, 1, 0, 0] := by decide
theorem exG_pth : Gp.pthL 4 exG 3 0 = some [3, 0] := by decide
theorem exH_lop : Gp.lopL 4 exH = [0, 3] := by decide

set_option maxRecDepth 100000 in
set_option maxHeartbeats 4000000 in
theorem d8awake_any (w : World) : Calls Try.prog 11 #[] w fun e w' => e = .returned (.bool true) ∧ Below w.heap.size w w' := by
  have hE := IsL.lit eEd_len w exG #[.int .i64 3, .int .i64 1, .int .i64 1, .int .i64 0, .int .i64 3, .int .i64 0] rfl 35 (by decide)
  have hb0 : Below w.heap.size w (w.alloc (.cells #[.int .i64 3, .int .i64 1, .int .i64 1, .int .i64 0, .int .i64 3, .int .i64 0] 35)) := alloc_below _ _
  go_enter Try.func11, Try.ntmps11
  go_wp2_with fail
  refine Calls.to (show Calls Try.prog 13 #[.int .i64 4, _] _ _ from order_ok 4 exG _ _ hE exG_v (by decide) (by decide)) ?_
  rintro e w1 ⟨ua, c, rfl, ⟨-, rfl, hA⟩ | ⟨h, -, -⟩⟩ hb1
  rotate_left
  · rw [exG_ord] at h; exact absurd h (by decide)
  rw [exG_ord] at hA
  have hE1 := hE.mono hb1
  have hbb1 := hb0.trans (hb1.mono hb0.size)
  have iA := hA.isL (fun _ => rfl)
  clear hE hb0 hb1 hA
  go_wp2_with fail
  refine Calls.to (show Calls Try.prog 14 #[.int .i64 4, _] _ _ from depths_ok 4 exG _ _ hE1 exG_v (by decide) (by decide)) ?_
  rintro e w2 ⟨ud, c, rfl, ⟨-, rfl, hD⟩ | ⟨h, -, -⟩⟩ hb2
  rotate_left
  · rw [exG_ord] at h; exact absurd h (by decide)
  rw [exG_dep] at hD
  have hE2 := hE1.mono hb2
  have hbb2 := hbb1.trans (hb2.mono hbb1.size)
  have iA2 := iA.mono hb2
  have iD2 := hD.isL (fun _ => rfl)
  clear hE1 hb2 hD iA hbb1
  go_wp2_with fail
  refine Calls.to (show Calls Try.prog 28 #[.int .i64 4, _, .int .i64 3, .int .i64 0] _ _ from path_ok 4 exG 3 0 _ _ hE2 exG_v (by decide) (by decide) (by decide) (by decide)) ?_
  rintro e w3 ⟨up, c, rfl, ⟨h, -, -⟩ | ⟨l, h, rfl, hP⟩⟩ hb3
  · rw [exG_pth] at h; cases h
  rw [exG_pth] at h
  injection h with h
  subst h
  have hE3 := hE2.mono hb3
  have hbb3 := hbb2.trans (hb3.mono hbb2.size)
  have iA3 := iA2.mono hb3
  have iD3 := iD2.mono hb3
  have iP3 := hP.isL (fun _ => rfl)
  clear hE2 hb3 hP iA2 iD2 hbb2
  go_wp2_with fail
  refine Calls.to (cloneEd_any (edI exG) _ _ (isL_edI.2 hE3) (by decide)) ?_
  rintro e w4 ⟨uc, rfl, hC⟩ hb4
  have hC2 := own_edI.1 hC
  have hbb4 := hbb3.trans (hb4.mono hbb3.size)
  have hs4 := hb4.size
  have hs3 := hbb3.size
  obtain ⟨ca, cc, rfl⟩ := hC2.isSlice
  clear hE3 hC
  go_wp2_with (at_builtin; go_must (refine wpList_pushR rfl _ _ 22 rfl 35 _ 2 16 undEds infEd rfl (by decide) (0, 3) eEd_len (by simp [Value.oneCell']) _ exG rfl hC2 w4.heap.size rfl rfl (by decide) (by decide) hs4 _ rfl ?_); intro g5 cap5 w5 hR5)
  have hO5 := hR5.own
  have hb35 := hb4.trans (hR5.below hC2 hs4)
  have hE5 : IsEds w5 (.slice (some ⟨g5, 0, none⟩) (exG.length + 1) cap5) exH := hO5.isL eEd_len
  have hbb5 := hbb3.trans (hb35.mono hs3)
  have iA5 := iA3.mono hb35
  have iD5 := iD3.mono hb35
  have iP5 := iP3.mono hb35
  clear hR5 hC2 hO5 hb35 iA3 iD3 iP3 hb4 hbb4 hs4 hbb3
  refine Calls.to (show Calls Try.prog 20 #[.int .i64 4, _] _ _ from loop_ok 4 exH _ _ hE5 exH_v (by decide) (by decide)) ?_
  rintro e w6 ⟨ul, c, rfl, ⟨h, -, -⟩ | ⟨-, rfl, hL⟩⟩ hb6
  · rw [exH_lop] at h; cases h
  rw [exH_lop] at hL
  have iL6 := hL.isL (fun _ => rfl)
  have hbb6 := hbb5.trans (hb6.mono hbb5.size)
  have iA6 := iA5.mono hb6
  have iD6 := iD5.mono hb6
  have iP6 := iP5.mono hb6
  clear hE5 hL hb6 iA5 iD5 iP5 hbb5
  go_wp2_with fail
  refine Calls.to (eqN_same [2, 3, 1, 0] _ _ _ (iA6.mono (alloc_below _ _)) (IsL.lit (enc := eNat) (k := 1) (fun _ => rfl) w6 [2, 3, 1, 0] #[.int .i64 2, .int .i64 3, .int .i64 1, .int .i64 0] rfl 3 (by decide))) ?_
  rintro e w7 rfl hb7
  have hb67 := (alloc_below w6 (.cells #[.int .i64 2, .int .i64 3, .int .i64 1, .int .i64 0] 3)).trans (hb7.mono (by simp))
  have hbb7 := hbb6.trans (hb67.mono hbb6.size)
  have iD7 := iD6.mono hb67
  have iP7 := iP6.mono hb67
  have iL7 := iL6.mono hb67
  clear hb7 hb67 iA6 iD6 iP6 iL6 hbb6
  go_wp2_with fail
  refine Calls.to (eqI_same [2, 1, 0, 0] _ _ _ (iD7.mono (alloc_below _ _)) (IsL.lit (enc := eInt) (k := 1) (fun _ => rfl) w7 [2, 1, 0, 0] #[.int .i64 2, .int .i64 1, .int .i64 0, .int .i64 0] rfl 3 (by decide))) ?_
  rintro e w8 rfl hb8
  have hb78 := (alloc_below w7 (.cells #[.int .i64 2, .int .i64 1, .int .i64 0, .int .i64 0] 3)).trans (hb8.mono (by simp))
  have hbb8 := hbb7.trans (hb78.mono hbb7.size)
  have iP8 := iP7.mono hb78
  have iL8 := iL7.mono hb78
  clear hb8 hb78 iD7 iP7 iL7 hbb7
  go_wp2_with fail
  refine Calls.to (eqN_same [3, 0] _ _ _ (iP8.mono (alloc_below _ _)) (IsL.lit (enc := eNat) (k := 1) (fun _ => rfl) w8 [3, 0] #[.int .i64 3, .int .i64 0] rfl 3 (by decide))) ?_
  rintro e w9 rfl hb9
  have hb89 := (alloc_below w8 (.cells #[.int .i64 3, .int .i64 0] 3)).trans (hb9.mono (by simp))
  have hbb9 := hbb8.trans (hb89.mono hbb8.size)
  have iL9 := iL8.mono hb89
  clear hb9 hb89 iP8 iL8 hbb8
  go_wp2_with fail
  refine Calls.to (eqN_same [0, 3] _ _ _ (iL9.mono (alloc_below _ _)) (IsL.lit (enc := eNat) (k := 1) (fun _ => rfl) w9 [0, 3] #[.int .i64 0, .int .i64 3] rfl 3 (by decide))) ?_
  rintro e w10 rfl hb10
  have hb910 := (alloc_below w9 (.cells #[.int .i64 0, .int .i64 3] 3)).trans (hb10.mono (by simp))
  have hbb10 := hbb9.trans (hb910.mono hbb9.size)
  go_wp2_with fail
  go_ret
  exact ⟨rfl, hbb10⟩

/-- Which graphs are large. -/
def largeB (n : Int) (len : Nat) : Bool := (decide (20 < n) && decide (n ≤ 300)) || (decide (60 < len) && decide (len ≤ 1000)) || decide (2000 < len)
set_option maxHeartbeats 1000000 in
theorem large_any (n : Int) (a : Option Addr) (len cap : Nat) (w : World) : Calls Try.prog 12 #[.int .i64 n, .slice a len cap] w fun e w' => e = .returned (.bool (largeB n len)) ∧ w' = w := by
  unfold largeB
  cases h1 : decide (20 < n)
  all_goals
    cases h2 : decide (n ≤ 300)
    all_goals
      cases h3 : decide (60 < len)
      all_goals
        have h3' : decide ((60 : Int) < len) = decide (60 < len) := by simp; omega
        rw [h3] at h3'
        cases h4 : decide (len ≤ 1000)
        all_goals
          have h4' : decide ((len : Int) ≤ 1000) = decide (len ≤ 1000) := by simp; omega
          rw [h4] at h4'
          cases h5 : decide (2000 < len)
          all_goals
            have h5' : decide ((2000 : Int) < len) = decide (2000 < len) := by simp; omega
            rw [h5] at h5'
            go_enter Try.func12, Try.ntmps12
            go_wp2_with fail
            go_ret
            exact ⟨rfl, rfl⟩

end Go.Proofs.Ythnhlaljnkdmfaa
