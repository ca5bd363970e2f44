/- slices.Concat of two lists of edges. Conditions: at most a million edges in all. -/
import Derived.Test.YthnhlaljnkdmfaaDgh
import Derived.Lib.AppendZeros
import Derived.Lib.AppendZerosOnto
namespace Go.Proofs.Ythnhlaljnkdmfaa
open Go.RowKit
set_option linter.unusedVariables false
set_option linter.unusedSimpArgs false

theorem shrinkE_run (a : Option Addr) (n m c : Nat) (hm : m ≤ c) (W : World) : (Instr.sliceAt 22 (.slice a n c) none (some (.int .i64 (m : Int))) none).run Try.prog W = .ok (.slice (if c = 0 then a else a.map (·.add (0 * 2))) m c) W := by
  have hel : Try.prog.elem 22 = 35 := by kernel_rfl
  have ht : Try.prog.underlying 22 = some (.slice (Try.prog.elem 22)) := by rw [hel]; exact undEds
  have hsz : ∀ W, (sizeOf (Try.prog.elem 22)).run Try.prog W = .ok 2 W := by rw [hel]; exact Try.sizeOf35
  rw [run_sliceAt_slice _ _ _ _ _ _ ht, run_slice_h W 22 _ _ _ ht .i64 m (by omega) (by omega), hsz]
  simp [sliced, Result.andThen]

set_option maxRecDepth 100000 in
set_option maxHeartbeats 2000000 in
theorem grow_any (n : Nat) (w : World) (hn : n ≤ 1000000) :
    Calls Try.prog 66 #[.slice none 0 0, .int .i64 (n : Int)] w fun e w' => (∃ v, e = .returned v ∧ Own w.heap.size 35 eEd 2 w' v []) ∧ Below w.heap.size w w' := by
  have hneg : decide ((n : Int) < 0) = false := decide_eq_false (by omega)
  by_cases h0 : n = 0
  · subst h0
    go_enter Try.func66, Try.ntmps66
    go_wp2_with fail
    go_ret
    exact ⟨⟨_, rfl, World.ownsRow_nil _ _ _ _⟩, Below.refl _ _⟩
  · obtain ⟨i0, hi0, hz0, hzs, hzb⟩ := info_parts infEd
    have hpos : decide (0 < n) = true := decide_eq_true (by omega)
    have hpos2 : decide ((0 : Int) < n) = true := decide_eq_true (by omega)
    have hold : (Builtin.firstCells i0.size 0 (.slice none 0 0)).run Try.prog w.drew = .ok #[] w.drew := by
      rw [hzs]; exact run_firstCells_none w.drew 2 0 0 0
    obtain ⟨G, hG⟩ : ∃ G, G = grownCap w (0 + n) 0 35 := ⟨_, rfl⟩
    obtain ⟨Z, hZ⟩ : ∃ Z : Array Value, Z = #[] ++ Builtin.zeroCells (Value.agg #[.int .i64 0, .int .i64 0]).cells n ++ Builtin.zeroCells (Value.agg #[.int .i64 0, .int .i64 0]).cells (G - (0 + n)) := ⟨_, rfl⟩
    have hrz : ∀ ty, (Builtin.append_ #[22, 3] ty #[.slice none 0 0, .int .i64 (n : Int)]).run Try.prog w = .ok (.slice (some ⟨w.heap.size, 0, none⟩) (0 + n) G) (w.drew.alloc (.cells Z 35)) := fun ty => by
      have h := Lib.run_append_grow_zeros w 22 3 ty 35 i0 _ .i64 .i64 undEds (by kernel_rfl) hi0 hz0 none 0 0 [] hold n (by omega) (by omega) (by omega) (by omega) (by rw [hzb]; omega) (by rw [hzb]; exact growslice_fits (by omega) (by omega))
      rw [h, hZ, hG]
    have hGn : n ≤ G := by rw [hG]; have := grownCap_ge w (0 + n) 0 35; omega
    have hGm : G ≤ maxLen := by rw [hG]; exact grownCap_le_maxLen w (0 + n) 0 35 (by unfold maxLen; omega)
    have hZs : Z.size = G * 2 := by
      rw [hZ]
      simp [Builtin.zeroCells, Value.cells]
      omega
    have hs2 := fun W => shrinkE_run (some ⟨w.heap.size, 0, none⟩) (0 + n) 0 G (Nat.zero_le _) W
    have hG0 : ¬ G = 0 := by omega
    have e1 : (⟨w.heap.size, 0, none⟩ : Addr).add (0 * 2) = ⟨w.heap.size, 0, none⟩ := Addr.add_lit ..
    simp only [hG0, if_false, Option.map_some, e1, Nat.zero_add] at hs2 hrz
    have hs1 := fun W => shrinkE_run none 0 0 0 (Nat.zero_le _) W
    simp only [if_true] at hs1
    clear hold hG hZ
    go_enter Try.func66, Try.ntmps66
    go_wp2_with (at_builtin; refine Lib.wpList_append_run _ rfl _ _ _ _ rfl _ _ rfl rfl _ _ (hrz _) ?_)
    go_ret
    refine ⟨⟨_, rfl, ⟨rfl, .inr ⟨w.heap.size, G, Z, rfl, Nat.le_refl _, heap_alloc_new w.drew _, Nat.zero_le _, hGm, hZs, by simp⟩⟩⟩, (Below.drew (Below.refl _ _)).alloc (Nat.le_refl _) _⟩

def szS (a NT : Nat) : Nat → Int
  | 0 => 0
  | 1 => a
  | _ => NT
def catS (A B : List (Nat × Nat)) : Nat → List (Nat × Nat)
  | 0 => []
  | 1 => A
  | _ => A ++ B
def nthS {α : Type} (a b : α) : Nat → α
  | 0 => a
  | _ => b

set_option maxRecDepth 100000 in
set_option maxHeartbeats 4000000 in
theorem concat_any (A B : List (Nat × Nat)) (va vb : Value) (CB : Nat) (w : World) (hA : IsEds w va A) (hB : IsEds w vb B) (h0 : w.cell? ⟨CB, 0, none⟩ = some va) (h1 : w.cell? ⟨CB, 1, none⟩ = some vb) (hl : A.length + B.length ≤ 1000000) :
    Calls Try.prog 58 #[.slice (some ⟨CB, 0, none⟩) 2 2] w fun e w' => (∃ v, e = .returned v ∧ Own w.heap.size 35 eEd 2 w' v (A ++ B)) ∧ Below w.heap.size w w' := by
  obtain ⟨aa, ac, rfl, _, _, hAs⟩ := hA
  obtain ⟨ba, bc, rfl, _, _, hBs⟩ := hB
  obtain ⟨NT, hNT⟩ : ∃ NT, NT = A.length + B.length := ⟨_, rfl⟩
  have HNT := Lib.hid hNT
  have hl2 : NT ≤ 1000000 := by omega
  clear hNT
  go_enter Try.func58, Try.ntmps58
  go_wp2_with fail
  go_loopw [3, 11] (fun s3 s11 wx => wx = w ∧ ∃ k : Nat, k ≤ 2 ∧ s11 = .int .i64 k ∧ s3 = .int .i64 (szS A.length NT k)) (fun _ s11 _ => 2 - (intOf s11).toNat)
  case atStart => exact ⟨rfl, 0, Nat.zero_le _, rfl, rfl⟩
  case round =>
    obtain ⟨rfl, k, hk, rfl, rfl⟩ := hrel
    have hcase : k = 0 ∨ k = 1 ∨ k = 2 := by omega
    rcases hcase with rfl | rfl | rfl
    · have x9 : IntKind.i64.wrap ((A.length : Int)) = A.length := IntWalk.i64_in _ (by omega)
      have g0 : decide ((A.length : Int) < 0) = false := decide_eq_false (by omega)
      simp only [szS]
      go_wp2_with fail
      go_roundw
      case measure => simp [intOf]
      case rel => exact ⟨trivial, 1, by omega, by go_num, rfl⟩
    · have x9 : IntKind.i64.wrap ((A.length : Int) + B.length) = NT := by rw [IntWalk.i64_in _ (by omega)]; have := HNT.out; omega
      have g0 : decide ((NT : Int) < 0) = false := decide_eq_false (by omega)
      simp only [szS]
      go_wp2_with fail
      go_roundw
      case measure => simp [intOf]
      case rel => exact ⟨trivial, 2, by omega, by go_num, rfl⟩
    · simp only [szS]
      go_wp2_with fail
      refine Calls.to (grow_any NT _ hl2) ?_
      rintro e w1 ⟨gv, rfl, hO⟩ hb1
      have c0 := cell_lt h0 hb1
      have c1 := cell_lt h1 hb1
      go_wp2_with fail
      go_loopw [6, 27] (fun s6 s27 wx => ∃ k : Nat, k ≤ 2 ∧ s27 = .int .i64 k ∧ Own wr.heap.size 35 eEd 2 wx s6 (catS A B k) ∧ Below wr.heap.size wr wx) (fun _ s27 _ => 2 - (intOf s27).toNat)
      case atStart => exact ⟨0, Nat.zero_le _, rfl, hO, hb1⟩
      clear hO hb1 c0 c1
      case round =>
        obtain ⟨k, hk, rfl, HO, hb⟩ := hrel
        have c0 := cell_lt h0 hb
        have c1 := cell_lt h1 hb
        have hAx := hAs.mono hb
        have hBx := hBs.mono hb
        have hal : A.length < 1073741824 := by omega
        have hbl : B.length < 1073741824 := by omega
        have hcase : k = 0 ∨ k = 1 ∨ k = 2 := by omega
        have hsz := hb.size
        rcases hcase with rfl | rfl | rfl
        · obtain ⟨oa, oc, rfl⟩ := HO.isSlice
          go_wp2_with (at_builtin; go_must (refine wpList_appR rfl _ _ 22 rfl 35 _ 2 16 undEds infEd rfl (by decide) eEd_len (by intro y u hu; simp at hu; rcases hu with rfl | rfl <;> rfl) _ [] A rfl HO aa ac rfl hAx (by decide) hal (by decide) hsz ?_); intro v5 w5 hR5)
          have HO5 := hR5.own
          have hb5 := hb.trans (hR5.below HO hsz)
          go_wp2_with fail
          go_roundw
          case measure => simp [intOf]
          case rel => exact ⟨1, by omega, by go_num, HO5, hb5⟩
        · obtain ⟨oa, oc, rfl⟩ := HO.isSlice
          go_wp2_with (at_builtin; go_must (refine wpList_appR rfl _ _ 22 rfl 35 _ 2 16 undEds infEd rfl (by decide) eEd_len (by intro y u hu; simp at hu; rcases hu with rfl | rfl <;> rfl) _ A B rfl HO ba bc rfl hBx hal hbl (by decide) hsz ?_); intro v5 w5 hR5)
          have HO5 := hR5.own
          have hb5 := hb.trans (hR5.below HO hsz)
          go_wp2_with fail
          go_roundw
          case measure => simp [intOf]
          case rel => exact ⟨2, by omega, by go_num, HO5, hb5⟩
        · obtain ⟨oa, oc, rfl⟩ := HO.isSlice
          go_wp2_with fail
          go_ret
          exact ⟨⟨_, rfl, HO⟩, hb⟩

end Go.Proofs.Ythnhlaljnkdmfaa
