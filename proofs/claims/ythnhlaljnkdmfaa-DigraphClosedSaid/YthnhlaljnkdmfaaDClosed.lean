/- The law DigraphClosed returns true for every number, every list of edges and every list of numbers, and leaves its arguments as they were. Conditions: none beyond the row's own. -/
import Derived.Test.YthnhlaljnkdmfaaRows
import Derived.WalkKit
import Derived.ProofKit
import Derived.OpenShut
import Derived.ShutString
import Derived.ChangeOld
import Derived.Below
import Derived.Test.YthnhlaljnkdmfaaDcl
import Derived.Test.YthnhlaljnkdmfaaDge
import Derived.Test.YthnhlaljnkdmfaaRowk
namespace Go.Proofs.Ythnhlaljnkdmfaa.digraphClosed
open Go.ChangeShapes Go.WideShapes Go.ChangeAt Go.RowKit
set_option linter.unusedVariables false
set_option linter.unusedSimpArgs false
open Go.ChangeMaps (open_string shut_string)
set_option linter.unusedVariables false

theorem own : ownKnob Try.prog.godebug = none := by kernel_rfl
theorem laidOut : laidOutB Try.prog = true := by kernel_rfl

set_option maxHeartbeats 1000000 in
theorem out1_any (n i : Int) (B : Nat) (w : World) (hc : w.cell? ⟨B, 0, none⟩ = some (.int .i64 n)) :
    Calls Try.prog 35 #[.int .i64 i, .pointer (some ⟨B, 0, none⟩)] w fun r w' => r = .returned (.bool (!isB n i)) ∧ Below w.heap.size w w' := by
  unfold isB
  cases h1 : decide (0 ≤ i)
  · have h1' : decide (i < 0) = true := by simp at h1 ⊢; exact h1
    go_enter Try.func35, Try.ntmps35
    go_wp2_with fail
    go_ret
    exact ⟨rfl, by repeat' (first | exact Below.refl _ _ | assumption | refine Below.more ?_ ?_ _ | refine Below.alloc ?_ ?_ _ | refine Below.drew ?_ | refine below_drewN ?_ _ | refine Below.setCell ?_ ?_ _ | exact Below.size (by assumption) | (simp [go_sem, size_more]; done) | (simp [go_sem, size_more]; omega))⟩
  · have h1' : decide (i < 0) = false := by simp at h1 ⊢; exact h1
    cases h2 : decide (i < n)
    · have h2' : decide (n ≤ i) = true := by simp at h2 ⊢; exact h2
      go_enter Try.func35, Try.ntmps35
      go_wp2_with fail
      go_ret
      exact ⟨rfl, by repeat' (first | exact Below.refl _ _ | assumption | refine Below.more ?_ ?_ _ | refine Below.alloc ?_ ?_ _ | refine Below.drew ?_ | refine below_drewN ?_ _ | refine Below.setCell ?_ ?_ _ | exact Below.size (by assumption) | (simp [go_sem, size_more]; done) | (simp [go_sem, size_more]; omega))⟩
    · have h2' : decide (n ≤ i) = false := by simp at h2 ⊢; exact h2
      go_enter Try.func35, Try.ntmps35
      go_wp2_with fail
      go_ret
      exact ⟨rfl, by repeat' (first | exact Below.refl _ _ | assumption | refine Below.more ?_ ?_ _ | refine Below.alloc ?_ ?_ _ | refine Below.drew ?_ | refine below_drewN ?_ _ | refine Below.setCell ?_ ?_ _ | exact Below.size (by assumption) | (simp [go_sem, size_more]; done) | (simp [go_sem, size_more]; omega))⟩
set_option maxHeartbeats 1000000 in
theorem len2_any (N : Nat) (a : Option Addr) (c B : Nat) (w : World) (hc : w.cell? ⟨B, 0, none⟩ = some (.int .i64 (N : Int))) :
    Calls Try.prog 37 #[.slice a N c, .pointer (some ⟨B, 0, none⟩)] w fun r w' => r = .returned (.bool false) ∧ Below w.heap.size w w' := by
  go_enter Try.func37, Try.ntmps37
  go_wp2_with fail
  go_ret
  exact ⟨rfl, by repeat' (first | exact Below.refl _ _ | assumption | refine Below.more ?_ ?_ _ | refine Below.alloc ?_ ?_ _ | refine Below.drew ?_ | refine below_drewN ?_ _ | refine Below.setCell ?_ ?_ _ | exact Below.size (by assumption) | (simp [go_sem, size_more]; done) | (simp [go_sem, size_more]; omega))⟩
set_option maxRecDepth 100000 in
set_option maxHeartbeats 4000000 in
theorem edge3_any (N : Nat) (G : List (Nat × Nat)) (e : Nat × Nat) (i j base rg cc IB CB JB : Nat) (vs : List Value) (w : World) (hC : OwnR base 39 4 eBool 1 w (.slice (some ⟨rg, 0, none⟩) N cc) vs (cloL N G N)) (he : e.2 < N) (hj : j < N)
    (h1 : w.cell? ⟨IB, 0, none⟩ = some (.int .i64 (i : Int))) (h2 : w.cell? ⟨CB, 0, none⟩ = some (.slice (some ⟨rg, 0, none⟩) N cc)) (h3 : w.cell? ⟨JB, 0, none⟩ = some (.int .i64 (j : Int))) :
    Calls Try.prog 38 #[vEd e, .pointer (some ⟨IB, 0, none⟩), .pointer (some ⟨CB, 0, none⟩), .pointer (some ⟨JB, 0, none⟩)] w fun r w' => r = .returned (.bool (e.1 == i && cB N G e.2 j)) ∧ Below w.heap.size w w' := by
  obtain ⟨p, q⟩ := e
  simp only at he ⊢
  obtain ⟨ra, rc, q1, q2⟩ := clo_cells hC he
  have q3 := q2 j hj
  clear q2 hC
  have hX := alloc_below w (.cells #[.int .i64 (p : Int), .int .i64 (q : Int)] 35)
  have d1 := cell_lt h1 hX
  have d2 := cell_lt h2 hX
  have d3 := cell_lt h3 hX
  have d4 := cell_lt q1 hX
  have d5 := cell_lt q3 hX
  have e0 : (w.alloc (.cells #[.int .i64 (p : Int), .int .i64 (q : Int)] 35)).cell? ⟨w.heap.size, 0, none⟩ = some (.int .i64 (p : Int)) := by simp [go_sem]
  have e1 : (w.alloc (.cells #[.int .i64 (p : Int), .int .i64 (q : Int)] 35)).cell? ⟨w.heap.size, 1, none⟩ = some (.int .i64 (q : Int)) := by simp [go_sem]
  generalize cB N G q j = b at *
  by_cases hpi : p = i
  · subst hpi
    have hpp : (p == p) = true := by simp
    go_enter Try.func38, Try.ntmps38
    go_wp2_with fail
    go_quiet (fail)
    go_wp2_with fail
    go_ret
    exact ⟨ret_bool (by simp), by repeat' (first | exact Below.refl _ _ | assumption | refine Below.more ?_ ?_ _ | refine Below.alloc ?_ ?_ _ | refine Below.drew ?_ | refine below_drewN ?_ _ | refine Below.setCell ?_ ?_ _ | exact Below.size (by assumption) | (simp [go_sem, size_more]; done) | (simp [go_sem, size_more]; omega))⟩
  · have g1 : (p == i) = false := by simpa using hpi
    have g2 : ((p : Int) == (i : Int)) = false := by rw [beq_eq_false_iff_ne]; omega
    go_enter Try.func38, Try.ntmps38
    go_wp2_with fail
    go_quiet (fail)
    go_wp2_with fail
    go_ret
    exact ⟨ret_bool (by simp [g1]), by repeat' (first | exact Below.refl _ _ | assumption | refine Below.more ?_ ?_ _ | refine Below.alloc ?_ ?_ _ | refine Below.drew ?_ | refine below_drewN ?_ _ | refine Below.setCell ?_ ?_ _ | exact Below.size (by assumption) | (simp [go_sem, size_more]; done) | (simp [go_sem, size_more]; omega))⟩
set_option maxRecDepth 100000 in
set_option maxHeartbeats 4000000 in
theorem mark4_any (N : Nat) (G : List (Nat × Nat)) (v i base rg cc IB CB : Nat) (vs : List Value) (w : World) (hC : OwnR base 39 4 eBool 1 w (.slice (some ⟨rg, 0, none⟩) N cc) vs (cloL N G N)) (hv : v < N) (hi : i < N)
    (h1 : w.cell? ⟨IB, 0, none⟩ = some (.int .i64 (i : Int))) (h2 : w.cell? ⟨CB, 0, none⟩ = some (.slice (some ⟨rg, 0, none⟩) N cc)) :
    Calls Try.prog 39 #[.int .i64 (v : Int), .pointer (some ⟨CB, 0, none⟩), .pointer (some ⟨IB, 0, none⟩)] w fun r w' => r = .returned (.bool (cB N G v i)) ∧ Below w.heap.size w w' := by
  obtain ⟨ra, rc, q1, q2⟩ := clo_cells hC hv
  have q3 := q2 i hi
  clear q2 hC
  generalize cB N G v i = b at *
  go_enter Try.func39, Try.ntmps39
  go_wp2_with fail
  go_quiet (fail)
  go_wp2_with fail
  go_ret
  exact ⟨rfl, by repeat' (first | exact Below.refl _ _ | assumption | refine Below.more ?_ ?_ _ | refine Below.alloc ?_ ?_ _ | refine Below.drew ?_ | refine below_drewN ?_ _ | refine Below.setCell ?_ ?_ _ | exact Below.size (by assumption) | (simp [go_sem, size_more]; done) | (simp [go_sem, size_more]; omega))⟩

theorem any_edge {N : Nat} {G : List (Nat × Nat)} (hv : Gp.vtx N G) {i j : Nat} (hj : j < N) (h : cB N G i j = true) (hij : i ≠ j) : (edI G).any (fun e => e.1 == (i : Int) && cB N G e.2.toNat j) = true := by
  rcases ((cB_iff hj).1 h).head with h1 | ⟨c, h1, h2⟩
  · exact absurd h1 hij
  · rw [List.any_eq_true]
    refine ⟨((i : Int), (c : Int)), List.mem_map.2 ⟨(i, c), Gp.inE_iff.1 h1, rfl⟩, ?_⟩
    simp only [beq_self_eq_true, Int.toNat_natCast, Bool.true_and]
    exact (cB_iff hj).2 h2
theorem any_from {N : Nat} {G : List (Nat × Nat)} {f : List Nat} {i : Nat} (hi : i < N) : (nzs f).any (fun z => cB N G z.toNat i) = (Gp.reachL N G f).getD i false := by
  rw [Bool.eq_iff_iff, Gp.reachL_get hi, List.any_eq_true]
  constructor
  · rintro ⟨z, hz, h⟩
    obtain ⟨s, hs, rfl⟩ := List.mem_map.1 hz
    exact ⟨s, hs, (cB_iff hi).1 (by simpa using h)⟩
  · rintro ⟨s, hs, h⟩
    exact ⟨(s : Int), List.mem_map.2 ⟨s, hs, rfl⟩, by simpa using (cB_iff hi).2 h⟩

set_option maxRecDepth 100000 in
set_option maxHeartbeats 16000000 in
theorem walk (n : Int) (v1 : Value) (x1 : Sl (Int × Int)) (v2 : Value) (x2 : Sl Int) (w : World) (w0 : (Lit.int .i64 n).wf = true) (w1 : v1 = vSl x1 ∧ gSl eEi 2 gEd w x1) (w2 : v2 = vSl x2 ∧ gSl eInt 1 gI64 w x2) :
    Calls Try.prog 8 #[.int .i64 n, v1, v2] w fun e w' => e = .returned (.bool true) ∧ Below w.heap.size w w' := by
  obtain ⟨rfl, hx⟩ := w1
  obtain ⟨rfl, hy⟩ := w2
  have hE : IsEis w (vSl x1) x1.xs := hx.isL
  have hF : IsInts w (vSl x2) x2.xs := hy.isL
  clear hx hy w0
  obtain ⟨xa, xc, E⟩ := x1
  obtain ⟨ya, yc, F⟩ := x2
  simp only at hE hF
  have hvr := fun W (hW : IsEis W (vSl ⟨xa, xc, E⟩) E) => r8valid_any n E _ W hW
  have hb0 := alloc_below w (.cells #[.int .i64 n] 3)
  have hcell : (w.alloc (.cells #[.int .i64 n] 3)).cell? ⟨w.heap.size, 0, none⟩ = some (.int .i64 n) := by simp [go_sem]
  go_enter Try.func8, Try.ntmps8
  go_wp2_with fail
  refine Calls.go hb0 (d8awake_any _) ?_
  rintro e w1 rfl hb1 hbb1
  have cN1 := cell_lt hcell hb1
  clear hb0 hcell hb1
  cases g1 : decide (30 < n)
  rotate_left
  · go_wp2_with fail
    go_ret
    exact ⟨rfl, hbb1⟩
  by_cases g2 : 100 < E.length
  · have j1 : decide (100 < E.length) = true := decide_eq_true g2
    have j2 : decide ((100 : Int) < E.length) = true := decide_eq_true (by omega)
    go_wp2_with fail
    go_ret
    exact ⟨rfl, hbb1⟩
  have j1 : decide (100 < E.length) = false := decide_eq_false g2
  have j2 : decide ((100 : Int) < E.length) = false := decide_eq_false (by omega)
  by_cases g3 : 10 < F.length
  · have j3 : decide (10 < F.length) = true := decide_eq_true g3
    have j4 : decide ((10 : Int) < F.length) = true := decide_eq_true (by omega)
    go_wp2_with fail
    go_ret
    exact ⟨rfl, hbb1⟩
  have j3 : decide (10 < F.length) = false := decide_eq_false g3
  have j4 : decide ((10 : Int) < F.length) = false := decide_eq_false (by omega)
  cases hvb : validB n E
  · rw [hvb] at hvr
    go_wp2_with fail
    refine Calls.go hbb1 (hvr _ (hE.mono hbb1)) ?_
    rintro e w2 rfl hb2 hbb2
    go_wp2_with fail
    go_ret
    exact ⟨rfl, hbb2⟩
  rw [hvb] at hvr
  obtain ⟨N, G, rfl, rfl, hv, hN, hG⟩ := validB_nat hvb
  have hEG := isL_edI.1 hE
  go_wp2_with fail
  refine Calls.go hbb1 (hvr _ (hE.mono hbb1)) ?_
  rintro e w2 rfl hb2 hbb2
  have cN2 := cell_lt cN1 hb2
  have hk := containsI 35 #[.pointer (some ⟨w.heap.size, 0, none⟩)] (fun _ _ => by kernel_rfl) (fun i => !isB N i) F _ w2 (hF.mono hbb2) (fun X hX x hx => out1_any N x w.heap.size X (cell_lt cN2 hX))
  cases ha : F.any (fun i => !isB N i)
  rotate_left
  · rw [ha] at hk
    go_wp2_with fail
    refine Calls.go hbb2 hk ?_
    rintro e w3 rfl hb3 hbb3
    go_wp2_with fail
    go_ret
    exact ⟨rfl, hbb3⟩
  rw [ha] at hk
  obtain ⟨f, rfl, hf⟩ := nat_of_any ha
  have hfl : f.length ≤ 10 := by rw [ints_len] at g3; omega
  go_wp2_with fail
  refine Calls.go hbb2 hk ?_
  rintro e w3 rfl hb3 hbb3
  have cN3 := cell_lt cN2 hb3
  clear hk hvr ha cN1 cN2 hb2 hb3 hbb1 hbb2
  go_wp2_with fail
  refine Calls.go hbb3 (closure_ok N G _ _ (hEG.mono hbb3) hv hN hG) ?_
  rintro e w4 ⟨cu, vs, rfl, hC⟩ hb4 hbb4
  have cN4 := cell_lt cN3 hb4
  obtain ⟨ca, cc, hce⟩ := hC.out.isSlice
  have hvl : vs.length = N := by have := hC.len; rw [cloL_len] at this; exact this
  have HVL := Lib.hid hvl
  rw [hvl] at hce
  subst hce
  have HC4 := Lib.hid hC
  have hA5 := alloc_below w4 (.cells #[.slice ca N cc] 43)
  have hbb5 := hbb4.trans (hA5.mono hbb4.size)
  have cN5 := cell_lt cN4 hA5
  have cC5 : (w4.alloc (.cells #[.slice ca N cc] 43)).cell? ⟨w4.heap.size, 0, none⟩ = some (.slice ca N cc) := by simp [go_sem]
  clear hC hvl cN3 cN4 hb4
  go_wp2_with fail
  refine Calls.go hbb5 (reach_ok N G f _ _ _ (hEG.mono hbb5) hv hN hG (isL_ints.1 (hF.mono hbb5)) (by omega) hf) ?_
  rintro e w6 ⟨lu, rfl, hO⟩ hb6 hbb6
  have cN6 := cell_lt cN5 hb6
  have cC6 := cell_lt cC5 hb6
  have hb46 : Below w4.heap.size w4 w6 := hA5.trans (hb6.mono hA5.size)
  have HC6 := HC4.out.below hb46
  have hrl := Gp.reachL_len N G f
  obtain ⟨la, lc, hle⟩ := hO.isSlice
  rw [hrl] at hle
  subst hle
  have HO6 := Lib.hid hO
  have hvsL : IsVs w6 (.slice ca N cc) vs := HC6.out.isL (fun _ => rfl)
  have hk2 := containsB 37 #[.pointer (some ⟨w.heap.size, 0, none⟩)] (fun _ _ => by kernel_rfl) (fun _ => false) vs _ w6 hvsL (fun X hX x hx => by
    obtain ⟨i, hi, rfl⟩ := List.mem_iff_getElem.1 hx
    have hi' : i < N := by have := HVL.out; omega
    have hrow := HC6.row i hi (by rw [cloL_len]; exact hi')
    rw [cloL_get hi'] at hrow
    obtain ⟨ra, rc, he⟩ := hrow.isSlice
    rw [Gp.reachL_len] at he
    rw [he]
    exact len2_any N ra rc w.heap.size X (cell_lt cN6 hX))
  have hany : vs.any (fun _ => false) = false := by simp
  rw [hany] at hk2
  clear hO hrl cN5 cC5 hA5 hb6 hbb4 hbb5 hvsL hany HC6
  go_wp2_with fail
  refine Calls.go hbb6 hk2 ?_
  rintro e w7 rfl hb7 hbb7
  have cN7 := cell_lt cN6 hb7
  have cC7 := cell_lt cC6 hb7
  have HC7 := Lib.hid (HC4.out.below (hb46.trans (hb7.mono hb46.size)))
  have HO7 := Lib.hid (HO6.out.below hb7)
  have HE7 := Lib.hid (hEG.mono hbb7)
  have HF7 := Lib.hid (isL_ints.1 (hF.mono hbb7))
  clear hk2 HC4 HO6 cN6 cC6 hb46 hb7 hbb6 hEG hE hF j1 j2 j3 j4 g1
  go_wp2_with fail
  go_loopw [76] (fun s76 wr => ∃ i : Nat, i ≤ N ∧ s76 = .int .i64 i ∧ Below w7.heap.size w7 wr) (fun s76 _ => N - (intOf s76).toNat)
  case atStart => exact ⟨0, Nat.zero_le _, rfl, Below.refl _ _⟩
  case round =>
    obtain ⟨i, hi, rfl, hb⟩ := hrel
    have hbr := hbb7.trans (hb.mono hbb7.size)
    by_cases hin : i < N
    · have i1 : decide (i < N) = true := decide_eq_true hin
      have x1 : IntKind.i64.wrap ((i : Int) + 1) = i + 1 := IntWalk.i64_in _ (by omega)
      have hA := alloc_below wr (.cells #[.int .i64 (i : Int)] 3)
      have cI : (wr.alloc (.cells #[.int .i64 (i : Int)] 3)).cell? ⟨wr.heap.size, 0, none⟩ = some (.int .i64 (i : Int)) := by simp [go_sem]
      have hb8 := hb.trans (hA.mono hb.size)
      have cN8 := cell_lt cN7 hb8
      have cC8 := cell_lt cC7 hb8
      have hiv : i < vs.length := by have := HVL.out; omega
      obtain ⟨rg, rfl, _⟩ := HC7.out.rowAt i hiv
      go_wp2_with fail
      generalize wr.alloc (.cells #[.int .i64 (i : Int)] 3) = w8 at *
      generalize wr.heap.size = IB at *
      clear hA hb hbr
      go_loopw [80] (fun s80 wr => ∃ j : Nat, j ≤ N ∧ s80 = .int .i64 j ∧ Below w8.heap.size w8 wr) (fun s80 _ => N - (intOf s80).toNat)
      case atStart => exact ⟨0, Nat.zero_le _, rfl, Below.refl _ _⟩
      case round =>
        obtain ⟨j, hj, rfl, hb⟩ := hrel
        by_cases hjn : j < N
        · have i2 : decide (j < N) = true := decide_eq_true hjn
          have x2 : IntKind.i64.wrap ((j : Int) + 1) = j + 1 := IntWalk.i64_in _ (by omega)
          have hA := alloc_below wr (.cells #[.int .i64 (j : Int)] 3)
          have cJ : (wr.alloc (.cells #[.int .i64 (j : Int)] 3)).cell? ⟨wr.heap.size, 0, none⟩ = some (.int .i64 (j : Int)) := by simp [go_sem]
          have hb9 := hb.trans (hA.mono hb.size)
          have hb79 := hb8.trans (hb9.mono hb8.size)
          have cN9 := cell_lt cN7 hb79
          have cC9 := cell_lt cC7 hb79
          have cI9 := cell_lt cI hb9
          go_wp2_with fail
          generalize wr.alloc (.cells #[.int .i64 (j : Int)] 3) = w9 at *
          generalize wr.heap.size = JB at *
          clear hA hb
          go_loopw [84] (fun s84 wr => ∃ k : Nat, k ≤ N ∧ s84 = .int .i64 k ∧ Below w9.heap.size w9 wr) (fun s84 _ => N - (intOf s84).toNat)
          case atStart => exact ⟨0, Nat.zero_le _, rfl, Below.refl _ _⟩
          case round =>
            obtain ⟨k, hk, rfl, hb⟩ := hrel
            have hb7x := hb79.trans (hb.mono hb79.size)
            have HCx := HC7.out.below hb7x
            by_cases hkn : k < N
            · have i3 : decide (k < N) = true := decide_eq_true hkn
              have x3 : IntKind.i64.wrap ((k : Int) + 1) = k + 1 := IntWalk.i64_in _ (by omega)
              have cCx := cell_lt cC9 hb
              have cIx := cell_lt cI9 hb
              have cJx := cell_lt cJ hb
              obtain ⟨ra, rc, q1, q2⟩ := clo_cells HCx hin
              obtain ⟨rb, rd, q3, q4⟩ := clo_cells HCx hjn
              have m1 := q2 j hjn
              have m2 := q2 k hkn
              have m3 := q4 k hkn
              have htr : cB N G i j = true → cB N G j k = true → cB N G i k = true := fun h1 h2 => (cB_iff hkn).2 (((cB_iff hjn).1 h1).trans ((cB_iff hkn).1 h2))
              have l1 : (i : Int) < N := by omega
              have l2 : (j : Int) < N := by omega
              have l3 : (k : Int) < N := by omega
              clear q2 q4 HCx
              generalize cB N G i j = b1 at *
              generalize cB N G j k = b2 at *
              generalize cB N G i k = b3 at *
              cases b1
              · clear htr
                go_wp2_with fail
                go_quiet (fail)
                have hbd := below_drewN hb nq
                clear q1 q3 m1 m2 m3
                go_wp2_with fail
                go_roundw
                case measure => simp [intOf]; omega
                case rel => exact ⟨k + 1, by omega, by go_num, hbd⟩
              · cases b2
                · clear htr
                  go_wp2_with fail
                  go_quiet (fail)
                  have hbd := below_drewN hb nq
                  clear q1 q3 m1 m2 m3
                  go_wp2_with fail
                  go_roundw
                  case measure => simp [intOf]; omega
                  case rel => exact ⟨k + 1, by omega, by go_num, hbd⟩
                · have h3 := htr rfl rfl
                  subst h3
                  clear htr
                  go_wp2_with fail
                  go_quiet (fail)
                  have hbd := below_drewN hb nq
                  clear q1 q3 m1 m2 m3
                  go_wp2_with fail
                  go_roundw
                  case measure => simp [intOf]; omega
                  case rel => exact ⟨k + 1, by omega, by go_num, hbd⟩
            · obtain rfl : N = k := by omega
              have i3 : decide (N < N) = false := by simp
              have cCx := cell_lt cC9 hb
              have cIx := cell_lt cI9 hb
              have cJx := cell_lt cJ hb
              obtain ⟨ra, rc, q1, q2⟩ := clo_cells HCx hin
              have m1 := q2 j hjn
              have l1 : (i : Int) < N := by omega
              have l2 : (j : Int) < N := by omega
              have hb8x := hb9.trans (hb.mono hb9.size)
              have hcon := fun W (hW : Below wr.heap.size wr W) => containsE 38 #[.pointer (some ⟨IB, 0, none⟩), .pointer (some ⟨w4.heap.size, 0, none⟩), .pointer (some ⟨JB, 0, none⟩)] (fun _ _ => by kernel_rfl) (fun e => e.1 == (i : Int) && cB N G e.2.toNat j) (edI G) _ W (isL_edI.2 ((HE7.out.mono hb7x).mono hW)) (fun X hX x hx => by
                obtain ⟨e, he, rfl⟩ := List.mem_map.1 hx
                have hWX := hW.trans (hX.mono hW.size)
                have := edge3_any N G e i j _ rg cc IB w4.heap.size JB vs X (HCx.below hWX) (hv e he).2 hjn (cell_lt cIx hWX) (cell_lt cCx hWX) (cell_lt cJx hWX)
                have hb : ((e.1 : Int) == (i : Int)) = (e.1 == i) := by
                  by_cases h : e.1 = i
                  · subst h; simp
                  · rw [show (e.1 == i) = false by simpa using h, beq_eq_false_iff_ne]; omega
                simp only [Int.toNat_natCast, hb]
                exact this)
              have hae := fun h1 h2 => any_edge hv (i := i) (j := j) hjn h1 h2
              clear q2
              cases hb1 : cB N G i j
              · rw [hb1] at m1
                clear hcon hae hb1 HCx
                go_wp2_with fail
                refine wp_region_more_lit (by kernel_rfl) (by kernel_rfl) ?_
                repeat (go_big_quiet_step (fail))
                refine wpQuiet_nil ?_
                intro _ hwq
                obtain ⟨xq, hwq⟩ := hwq
                subst hwq
                have hbd := Below.more hb8x hb8x.size xq
                clear q1 m1
                go_wp2_with fail
                go_roundw
                case measure => simp [intOf]; omega
                case rel => exact ⟨j + 1, by omega, by go_num, hbd⟩
              · rw [hb1] at m1
                by_cases hij : i = j
                · subst hij
                  clear hcon hae hb1 HCx
                  go_wp2_with fail
                  refine wp_region_more_lit (by kernel_rfl) (by kernel_rfl) ?_
                  repeat (go_big_quiet_step (fail))
                  refine wpQuiet_nil ?_
                  intro _ hwq
                  obtain ⟨xq, hwq⟩ := hwq
                  subst hwq
                  have hbd := Below.more hb8x hb8x.size xq
                  clear q1 m1
                  go_wp2_with fail
                  go_roundw
                  case measure => simp [intOf]; omega
                  case rel => exact ⟨i + 1, by omega, by go_num, hbd⟩
                · have h1 := hae hb1 hij
                  simp only [h1] at hcon
                  have ij1 : ((i : Int) == (j : Int)) = false := by rw [beq_eq_false_iff_ne]; omega
                  have ij2 : ((i : Int) != (j : Int)) = true := by rw [bne_iff_ne]; omega
                  have HCON := Lib.hid hcon
                  clear hcon hae hb1 HCx h1
                  go_wp2_with fail
                  refine wp_region_more_lit (by kernel_rfl) (by kernel_rfl) ?_
                  repeat (go_big_quiet_step ((go_at_call 23; exact Calls.more_of (HCON.out _ (below_more _ _)))))
                  refine wpQuiet_nil ?_
                  intro _ hwq
                  obtain ⟨xq, hwq⟩ := hwq
                  subst hwq
                  have hbd := Below.more hb8x hb8x.size xq
                  clear q1 m1
                  go_wp2_with fail
                  go_roundw
                  case measure => simp [intOf]; omega
                  case rel => exact ⟨j + 1, by omega, by go_num, hbd⟩
        · obtain rfl : N = j := by omega
          have i2 : decide (N < N) = false := by simp
          have hb7x := hb8.trans (hb.mono hb8.size)
          have HCx := HC7.out.below hb7x
          have cCx := cell_lt cC8 hb
          have cIx := cell_lt cI hb
          have hil : i < (Gp.reachL N G f).length := by rw [Gp.reachL_len]; exact hin
          have HOx := (HO7.out.below hb7x).isC
          obtain ⟨lb, lo, rfl, m1⟩ := HOx.boolc i hil
          rw [← getD_at hil false] at m1
          have l1 : (i : Int) < N := by omega
          have hcon := fun W (hW : Below wr.heap.size wr W) => containsI 39 #[.pointer (some ⟨w4.heap.size, 0, none⟩), .pointer (some ⟨IB, 0, none⟩)] (fun _ _ => by kernel_rfl) (fun z => cB N G z.toNat i) (nzs f) _ W (isL_ints.2 ((HF7.out.mono hb7x).mono hW)) (fun X hX x hx => by
            obtain ⟨s, hs, rfl⟩ := List.mem_map.1 hx
            have hWX := hW.trans (hX.mono hW.size)
            simp only [Int.toNat_natCast]
            exact mark4_any N G s i _ rg cc IB w4.heap.size vs X (HCx.below hWX) (hf s hs) hin (cell_lt cIx hWX) (cell_lt cCx hWX))
          simp only [any_from hin] at hcon
          generalize (Gp.reachL N G f).getD i false = bb at *
          clear HOx HCx hil
          cases bb
          all_goals
            have HCON := Lib.hid hcon
            clear hcon
            go_wp2_with fail
            refine wp_region_more_lit (by kernel_rfl) (by kernel_rfl) ?_
            repeat (go_big_quiet_step ((go_at_call 33; exact Calls.more_of (HCON.out _ (below_more _ _)))))
            refine wpQuiet_nil ?_
            intro _ hwq
            obtain ⟨xq, hwq⟩ := hwq
            subst hwq
            have hbd := Below.more hb7x hb7x.size xq
            clear m1
            go_wp2_with fail
            go_roundw
            case measure => simp [intOf]; omega
            case rel => exact ⟨i + 1, by omega, by go_num, hbd⟩
    · obtain rfl : N = i := by omega
      have i1 : decide (N < N) = false := by simp
      have cNr := cell_lt cN7 hb
      go_wp2_with fail
      go_ret
      exact ⟨rfl, hbr⟩

/-! ### The row -/
set_option maxRecDepth 100000 in
theorem lifted (os : Os) (started : os.Started) (H : Type) (enc : TypeId × Value → H) :
    ReturnsInHanded {} Try.checked os 8 .any (Rows.digraphClosedSpec.pre6 enc Try.prog Try.f8 Rows.digraphClosedRow.domain false) (Rows.digraphClosedSpec.post enc Try.prog Try.f8 false true false false) := by
  refine returnsInHanded_of_change (C := Try.checked) own started (by kernel_rfl) Try.func8
    (ChangeSpec.witness6 (enc := enc) (C := Try.checked) false ⟨#[], #[.int .i64 0, .slice none 0 0, .slice none 0 0], []⟩ 8 (by kernel_rfl) (by kernel_rfl) (by kernel_rfl) (by kernel_rfl)) ?_
  intro W base args ds gs before hval0 hW hcnd _
  have hval : ∀ (j : Nat) t v, Try.f8.params[j]? = some t → args[j]? = some v → Value.okWide Try.prog W .any base t v := hval0
  have hW' := hW
  obtain ⟨p, q, hA0, hV, rfl, hfz, hnd⟩ := hW
  have hA : DataW.TrodAll enc Try.prog W 0 (fun _ => true) true Try.f8.params.toList args.toList ds p := hA0
  rw [Try.params8] at hA hval
  obtain ⟨v0, vs0, d0, ds0, p0, q0, hargs, rfl, rfl, h0, r0⟩ := trodAll_cons hA
  obtain ⟨v1, vs1, d1, ds1, p1, q1, rfl, rfl, rfl, h1, r1⟩ := trodAll_cons r0
  obtain ⟨v2, vs2, d2, ds2, p2, q2, rfl, rfl, rfl, h2, r2⟩ := trodAll_cons r1
  obtain ⟨rfl, rfl, rfl⟩ := trodAll_nil r2
  obtain rfl : args = #[v0, v1, v2] := by cases args; simp_all
  obtain ⟨rfl, rfl⟩ := trodVars_none hV
  obtain ⟨a0, rfl, rfl, rfl, w0⟩ := open_int Try.underlying3 (hval 0 3 v0 rfl rfl) h0
  have k1 := h1
  have lt1 : ∀ x ∈ p1, x.block < W.heap.size := by obtain ⟨m, hm⟩ := k1; exact DataW.trod_lt m _ _ _ hm
  obtain ⟨x1, w1⟩ := openEds (hval 1 22 v1 rfl rfl) h1
  have k2 := h2
  have lt2 : ∀ x ∈ p2, x.block < W.heap.size := by obtain ⟨m, hm⟩ := k2; exact DataW.trod_lt m _ _ _ hm
  obtain ⟨x2, w2⟩ := openInts (hval 2 25 v2 rfl rfl) h2
  clear hA0 hval0
  refine (walk a0 v1 x1 v2 x2 W w0 w1 w2).mono fun e W' ⟨he, bel⟩ => ?_
  subst he
  exact ⟨_, rfl, _, _, _, [], _, [], hW', trodAll_mk1 (shut_bool Try.underlying4 _), (trodAll_cons_mk (shut_int Try.underlying3 w0) (trodAll_cons_mk (Below.trod laidOut (by kernel_rfl) (of_decide_eq_true (by kernel_rfl)) k1 bel lt1) (trodAll_cons_mk (Below.trod laidOut (by kernel_rfl) (of_decide_eq_true (by kernel_rfl)) k2 bel lt2) trodAll_mk0))), rfl, bel.frame _, fun h => by cases h⟩

theorem over : Rows.digraphClosedRow.holds Try.pinned (OpenSpec.ofChange Rows.digraphClosedSpec) :=
  OpenClaim.holds_of_wide 8 Try.f8 rfl rfl rfl rfl rfl rfl rfl ⟨rfl, rfl, rfl, rfl, rfl⟩ rfl rfl rfl rfl rfl (by kernel_rfl) Try.func8 (by kernel_rfl)
    (of_decide_eq_true (by kernel_rfl)) (by unfold Func.isWrapper; first | (rw [if_pos (by decide +kernel)]; kernel_rfl) | (rw [if_neg (by decide +kernel)]; exact ⟨rfl, rfl⟩))
    (fun os started H enc _ => lifted os started H enc)

end Go.Proofs.Ythnhlaljnkdmfaa.digraphClosed
namespace Go.Proofs.Ythnhlaljnkdmfaa
/-- The statement. -/
theorem digraphClosed_holds : Rows.DigraphClosedSaid := digraphClosed.over
#print axioms digraphClosed_holds
end Go.Proofs.Ythnhlaljnkdmfaa
