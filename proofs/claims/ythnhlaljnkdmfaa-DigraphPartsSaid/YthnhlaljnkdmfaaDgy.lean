/- What is reached: digraph.Reach, digraph.Closure. Conditions: the edges read as data. -/
import Derived.Test.YthnhlaljnkdmfaaDgh
namespace Go.Proofs.Ythnhlaljnkdmfaa
open Go.RowKit
set_option linter.unusedVariables false
set_option linter.unusedSimpArgs false

set_option maxRecDepth 100000 in
set_option maxHeartbeats 2000000 in
theorem reach_bad (n : Int) (E : List (Int × Int)) (v fv : Value) (w : World) (hE : IsEis w v E) (hbad : validB n E = false) :
    Calls Try.prog 29 #[.int .i64 n, v, fv] w fun e w' => e = .returned (.tuple #[.slice none 0 0, .int .i64 1]) ∧ Below w.heap.size w w' := by
  have hb0 := alloc_below w (.cells #[.int .i64 n] 3)
  have hc := valid_any n E v _ (hE.mono hb0)
  rw [hbad] at hc
  go_enter Try.func29, Try.ntmps29
  go_wp2_with fail
  refine Calls.go hb0 hc ?_
  rintro e w1 rfl _ hb
  go_wp2_with fail
  go_ret2
  exact ⟨rfl, hb⟩

set_option maxRecDepth 100000 in
set_option maxHeartbeats 2000000 in
theorem reach_full (n : Int) (E : List (Int × Int)) (F : List Int) (v fv : Value) (w : World) (hE : IsEis w v E) (hok : validB n E = true) (hF : IsInts w fv F) (hl : 1000 < F.length) :
    Calls Try.prog 29 #[.int .i64 n, v, fv] w fun e w' => e = .returned (.tuple #[.slice none 0 0, .int .i64 4]) ∧ Below w.heap.size w w' := by
  have hb0 := alloc_below w (.cells #[.int .i64 n] 3)
  have hc := valid_any n E v _ (hE.mono hb0)
  rw [hok] at hc
  obtain ⟨fa, fc, rfl, _, _, _⟩ := hF
  have h1 : decide (1000 < F.length) = true := decide_eq_true hl
  have h2 : decide ((1000 : Int) < F.length) = true := decide_eq_true (by omega)
  go_enter Try.func29, Try.ntmps29
  go_wp2_with fail
  refine Calls.go hb0 hc ?_
  rintro e w1 rfl _ hb
  go_wp2_with fail
  go_ret2
  exact ⟨rfl, hb⟩

set_option maxHeartbeats 1000000 in
theorem reach1_any (n i : Int) (B : Nat) (w : World) (hc : w.cell? ⟨B, 0, none⟩ = some (.int .i64 n)) :
    Calls Try.prog 54 #[.int .i64 i, .pointer (some ⟨B, 0, none⟩)] w fun r w' => r = .returned (.bool (!isB n i)) ∧ Below w.heap.size w w' := by
  have hx := fun W => is_any n i W
  generalize isB n i = b at *
  cases b
  all_goals
    go_enter Try.func54, Try.ntmps54
    go_wp2_with fail
    refine (hx _).mono ?_
    rintro e w1 ⟨rfl, rfl⟩
    go_wp2_with fail
    go_ret
    exact ⟨rfl, by repeat' (first | exact Below.refl _ _ | assumption | refine Below.more ?_ ?_ _ | refine Below.alloc ?_ ?_ _ | refine Below.drew ?_ | refine below_drewN ?_ _ | refine Below.setCell ?_ ?_ _ | exact Below.size (by assumption) | (simp [go_sem, size_more]; done) | (simp [go_sem, size_more]; omega))⟩

set_option maxRecDepth 100000 in
set_option maxHeartbeats 2000000 in
theorem reach_rng (n : Int) (E : List (Int × Int)) (F : List Int) (v fv : Value) (w : World) (hE : IsEis w v E) (hok : validB n E = true) (hF : IsInts w fv F) (hl : F.length ≤ 1000) (ha : F.any (fun i => !isB n i) = true) :
    Calls Try.prog 29 #[.int .i64 n, v, fv] w fun e w' => e = .returned (.tuple #[.slice none 0 0, .int .i64 2]) ∧ Below w.heap.size w w' := by
  have hb0 := alloc_below w (.cells #[.int .i64 n] 3)
  have hc := valid_any n E v _ (hE.mono hb0)
  rw [hok] at hc
  have hF0 := hF
  obtain ⟨fa, fc, rfl, _, _, _⟩ := hF
  have h1 : decide (1000 < F.length) = false := decide_eq_false (by omega)
  have h2 : decide ((1000 : Int) < F.length) = false := decide_eq_false (by omega)
  have hcell : (w.alloc (.cells #[.int .i64 n] 3)).cell? ⟨w.heap.size, 0, none⟩ = some (.int .i64 n) := by simp [go_sem]
  go_enter Try.func29, Try.ntmps29
  go_wp2_with fail
  refine Calls.go hb0 hc ?_
  rintro e w1 rfl hb1 hb
  have hk := containsI 54 #[.pointer (some ⟨w.heap.size, 0, none⟩)] (fun _ _ => by kernel_rfl) (fun i => !isB n i) F _ w1 (hF0.mono hb) (fun X hX x hx => reach1_any n x w.heap.size X (cell_lt (cell_lt hcell hb1) hX))
  rw [ha] at hk
  go_wp2_with fail
  refine Calls.go hb hk ?_
  rintro e w2 rfl _ hb2
  go_wp2_with fail
  go_ret2
  exact ⟨rfl, hb2⟩

set_option maxRecDepth 100000 in
set_option maxHeartbeats 2000000 in
theorem reach_ok (n : Nat) (E : List (Nat × Nat)) (f : List Nat) (v fv : Value) (w : World) (hE : IsEds w v E) (hv : Gp.vtx n E) (hn : n ≤ 300) (hl : E.length ≤ 1000) (hF : IsNats w fv f) (hfl : f.length ≤ 1000) (hf : ∀ s ∈ f, s < n) :
    Calls Try.prog 29 #[.int .i64 n, v, fv] w fun e w' => (∃ u, e = .returned (.tuple #[u, .int .i64 0]) ∧ Own w.heap.size 4 eBool 1 w' u (Gp.reachL n E f)) ∧ Below w.heap.size w w' := by
  have hb0 := alloc_below w (.cells #[.int .i64 (n : Int)] 3)
  have hc := valid_any n (edI E) v _ (isL_edI.2 (hE.mono hb0))
  rw [validB_ok hv hn hl] at hc
  have hF0 := hF
  obtain ⟨fa, fc, rfl, _, _, _⟩ := hF
  have h1 : decide (1000 < f.length) = false := decide_eq_false (by omega)
  have h2 : decide ((1000 : Int) < f.length) = false := decide_eq_false (by omega)
  have hcell : (w.alloc (.cells #[.int .i64 (n : Int)] 3)).cell? ⟨w.heap.size, 0, none⟩ = some (.int .i64 (n : Int)) := by simp [go_sem]
  have hany : (nzs f).any (fun i => !isB n i) = false := by
    rw [List.any_eq_false]
    intro i hi
    obtain ⟨x, hx, rfl⟩ := List.mem_map.1 hi
    have := hf x hx
    simp [isB]; omega
  go_enter Try.func29, Try.ntmps29
  go_wp2_with fail
  refine Calls.go hb0 hc ?_
  rintro e w1 rfl hb1 hb
  have hk := containsI 54 #[.pointer (some ⟨w.heap.size, 0, none⟩)] (fun _ _ => by kernel_rfl) (fun i => !isB n i) (nzs f) _ w1 (isL_ints.2 (hF0.mono hb)) (fun X hX x hx => reach1_any n x w.heap.size X (cell_lt (cell_lt hcell hb1) hX))
  rw [hany] at hk
  have c1 := cell_lt hcell hb1
  go_wp2_with fail
  refine Calls.go hb hk ?_
  rintro e w2 rfl hb2 hbb2
  have c2 := cell_lt c1 hb2
  go_wp2_with fail
  refine Calls.go hbb2 (next_any n E v w2 (hE.mono hbb2) hv (by omega) (by omega)) ?_
  rintro e w3 ⟨ru, vs, rfl, hR⟩ hb3 hbb3
  go_wp2_with fail
  refine Calls.go hbb3 (reach0_any n E f _ ru _ vs w3 hR (hF0.mono hbb3) hv hn hf (by omega)) ?_
  rintro e w4 ⟨u, rfl, hO⟩ hb4 hbb4
  go_wp2_with fail
  go_ret2
  exact ⟨⟨_, rfl, hO.base hbb3.size⟩, hbb4⟩

set_option maxRecDepth 100000 in
set_option maxHeartbeats 2000000 in
theorem closure_bad (n : Int) (E : List (Int × Int)) (v : Value) (w : World) (hE : IsEis w v E) (hbad : validB n E = false) :
    Calls Try.prog 30 #[.int .i64 n, v] w fun e w' => e = .returned (.tuple #[.slice none 0 0, .int .i64 1]) ∧ Below w.heap.size w w' := by
  have hc := valid_any n E v w hE
  rw [hbad] at hc
  go_enter Try.func30, Try.ntmps30
  go_wp2_with fail
  refine Calls.to hc ?_
  rintro e w1 rfl hb
  go_wp2_with fail
  go_ret2
  exact ⟨rfl, hb⟩

noncomputable def cloL (n : Nat) (E : Gp.Gr) (k : Nat) : List (List Bool) := (List.range k).map fun i => Gp.reachL n E [i]
theorem cloL_succ (n : Nat) (E : Gp.Gr) (k : Nat) : cloL n E (k + 1) = cloL n E k ++ [Gp.reachL n E [k]] := by
  unfold cloL
  rw [List.range_succ, List.map_append]; rfl
theorem cloL_len (n : Nat) (E : Gp.Gr) (k : Nat) : (cloL n E k).length = k := by simp [cloL]

set_option maxRecDepth 100000 in
set_option maxHeartbeats 4000000 in
theorem closure_ok (n : Nat) (E : List (Nat × Nat)) (v : Value) (w : World) (hE : IsEds w v E) (hv : Gp.vtx n E) (hn : n ≤ 300) (hl : E.length ≤ 1000) :
    Calls Try.prog 30 #[.int .i64 n, v] w fun e w' => (∃ u vs, e = .returned (.tuple #[u, .int .i64 0]) ∧ OwnR w.heap.size 39 4 eBool 1 w' u vs (cloL n E n)) ∧ Below w.heap.size w w' := by
  have hc := valid_any n (edI E) v w (isL_edI.2 hE)
  rw [validB_ok hv hn hl] at hc
  go_enter Try.func30, Try.ntmps30
  go_wp2_with fail
  refine Calls.to hc ?_
  rintro e w1 rfl hb1
  go_wp2_with fail
  refine Calls.go hb1 (next_any n E v w1 (hE.mono hb1) hv (by omega) (by omega)) ?_
  rintro e w2 ⟨ru, vs, rfl, hR⟩ hb2 hbb2
  have HR := Lib.hid hR
  clear hR hc
  go_wp2_with fail
  go_loopw [7, 17] (fun s7 s17 wr => ∃ (i : Nat) (us : List Value), i ≤ n ∧ s17 = .int .i64 i ∧ Below w2.heap.size w2 wr ∧ OwnR w2.heap.size 39 4 eBool 1 wr s7 us (cloL n E i)) (fun _ s17 _ => n - (intOf s17).toNat)
  case atStart => exact ⟨0, [], Nat.zero_le _, rfl, Below.refl _ _, OwnR.nil _ _ _ _ _ _⟩
  case round =>
    obtain ⟨i, us, hi, rfl, hb, HC⟩ := hrel
    obtain ⟨oa, oc, rfl⟩ := HC.out.isSlice
    by_cases hin : i < n
    · have hA := alloc_below wr (.cells #[.int .i64 (i : Int)] 3)
      have hbA := hb.trans (hA.mono hb.size)
      have hRA := HR.out.below hbA
      have hFA : IsNats (wr.alloc (.cells #[.int .i64 (i : Int)] 3)) (.slice (some ⟨wr.heap.size, 0, none⟩) 1 1) [i] := IsL.lit (enc := eNat) (k := 1) (fun _ => rfl) wr [i] #[.int .i64 (i : Int)] rfl 3 (by simp)
      have hul : us.length < 2147483648 := by have := HC.len; rw [cloL_len] at this; omega
      have x8 : IntKind.i64.wrap ((i : Int) + 1) = i + 1 := IntWalk.i64_in _ (by omega)
      have HC0 := Lib.hid HC
      clear HC
      go_wp2_with fail
      refine Calls.to (reach0_any n E [i] _ ru _ vs _ hRA hFA hv hn (by simp; omega) (by simp)) ?_
      rintro e w5 ⟨rv, rfl, hO⟩ hb5
      have hsA : wr.heap.size ≤ (wr.alloc (.cells #[.int .i64 (i : Int)] 3)).heap.size := hA.size
      have hbr5 : Below wr.heap.size wr w5 := hA.trans (hb5.mono hsA)
      have hb25 := hb.trans (hbr5.mono hb.size)
      have HC5 := HC0.out.below hbr5
      have hO5 := hO.base (base' := w2.heap.size) (Nat.le_trans hb.size hsA)
      have hfar : ∀ g, rv.ownBlock = some g → (Value.slice oa us.length oc).ownBlock ≠ some g ∧ ∀ (j : Nat) (hj : j < us.length), us[j].ownBlock ≠ some g := fun g hg => by
        have h1 := (hO.lt g hg).1
        refine ⟨fun e => ?_, fun j hj e => ?_⟩
        · have := (HC0.out.out.lt g e).2; omega
        · have := ((HC0.out.row j hj (by rw [← HC0.out.len]; exact hj)).lt g e).2; omega
      obtain ⟨rva, rvc, rfl⟩ := hO.isSlice
      have hone : ∀ u ∈ eV (Value.slice rva (Gp.reachL n E [i]).length rvc), u.oneCell' = true := by
        intro u hu; rw [List.mem_singleton] at hu; subst hu; rfl
      have hs5 : w2.heap.size ≤ w5.heap.size := hb25.size
      have hO5' := Lib.hid hO5
      clear hO hO5 hb5 hbr5 HC0 hRA hFA hA hbA hb hsA
      have HC6 := HC5.out
      generalize hrl : (Gp.reachL n E [i]).length = rl at *
      clear hrl
      go_wp2_with (at_builtin; go_must (refine wpList_pushR rfl _ _ 43 rfl 39 _ 1 24 undBRows infBRow rfl (by decide) (.slice rva rl rvc) (fun _ => rfl) hone _ us rfl HC6 w5.heap.size rfl rfl hul (by decide) hs5 _ rfl ?_); intro g7 cap7 w7 hR7)
      have HC7 := HC5.push hO5'.out hfar hR7
      rw [← cloL_succ] at HC7
      have hb7 := hb25.trans (hR7.below HC6 hs5)
      clear HC5 HC6 hR7 hfar hO5' hb25 hs5
      go_wp2_with fail
      go_roundw
      case measure => simp [intOf]; omega
      case rel => exact ⟨i + 1, us ++ [.slice rva rl rvc], by omega, by go_num, hb7, HC7⟩
    · obtain rfl : n = i := by omega
      go_wp2_with fail
      go_ret2
      exact ⟨⟨_, us, rfl, HC.base' hbb2.size⟩, hbb2.trans (hb.mono hbb2.size)⟩

end Go.Proofs.Ythnhlaljnkdmfaa
