/- The small examples of the Top statements on plans are answered. Conditions: none. -/
import Derived.Test.YtoiakijmbghhlaaGreatMPc
import Derived.Test.YtoiakijmbghhlaaGreatYzf
import Derived.Test.YtoiakijmbghhlaaGreatYrr
import Derived.Test.YtoiakijmbghhlaaGreatYct
namespace Go.Proofs.YtoiakijmbghhlaaGreat
open Go.RowKit
set_option linter.unusedVariables false
set_option linter.unusedSimpArgs false

set_option maxRecDepth 100000 in
set_option maxHeartbeats 4000000 in
theorem eqI_zero (b1 o1 c1 b2 o2 c2 : Nat) (w : World) (h1 : w.cell? ⟨b1, o1, none⟩ = some (.int .i64 0)) (h2 : w.cell? ⟨b2, o2, none⟩ = some (.int .i64 0)) :
    Calls Tryz.prog 41 #[.slice (some ⟨b1, o1, none⟩) 1 c1, .slice (some ⟨b2, o2, none⟩) 1 c2] w fun e w' => e = .returned (.bool true) ∧ Below w.heap.size w w' := by
  go_enter Tryz.func41, Tryz.ntmps41
  go_wp2_with fail
  refine wp_loop_rounds 2 ?_
  rw [rounds_succ]
  go_upto_region 6 with (fail)
  go_quiet (fail)
  have hm : Below w.heap.size w (w.drewN nq) := below_drewN (Below.refl _ w) nq
  go_wp2_with fail
  rw [rounds_succ]
  go_wp2_with fail
  go_ret
  exact ⟨rfl, hm⟩
set_option maxRecDepth 100000 in
set_option maxHeartbeats 4000000 in
theorem eqS_ab (b1 c1 b2 c2 : Nat) (w : World) (h1 : w.cell? ⟨b1, 0, none⟩ = some (.string ⟨#[97, 32, 98]⟩)) (h2 : w.cell? ⟨b2, 0, none⟩ = some (.string ⟨#[97, 32, 98]⟩)) :
    Calls Tryz.prog 42 #[.slice (some ⟨b1, 0, none⟩) 1 c1, .slice (some ⟨b2, 0, none⟩) 1 c2] w fun e w' => e = .returned (.bool true) ∧ Below w.heap.size w w' := by
  go_enter Tryz.func42, Tryz.ntmps42
  go_wp2_with fail
  refine wp_loop_rounds 2 ?_
  rw [rounds_succ]
  go_upto_region 6 with (fail)
  go_quiet (fail)
  have hm : Below w.heap.size w (w.drewN nq) := below_drewN (Below.refl _ w) nq
  go_wp2_with fail
  rw [rounds_succ]
  go_wp2_with fail
  go_ret
  exact ⟨rfl, hm⟩

abbrev exS (b : Nat) : SecD := ⟨⟨#[115]⟩, 100, 3, ⟨some ⟨b, 0, none⟩, 2, [⟨0, 0⟩, ⟨100, 9⟩]⟩, ⟨some ⟨b + 1, 0, none⟩, 2, [⟨0, 0⟩, ⟨100, 9⟩]⟩⟩
theorem exS_sec (b : Nat) : secB (exS b) = true := rfl
theorem exS_cat (b : Nat) : catB [exS b] = true := rfl

theorem gI64_lit {W : World} (n : Int) (h : (Lit.int .i64 n).wf = true) : gI64 W n := h
theorem knots_blk {W : World} {b : Nat} {T : TypeId} (h : W.heap[b]? = some (.cells #[.int .i64 0, .int .i64 0, .int .i64 100, .int .i64 9] T (0, 0))) : IsKns W (.slice (some ⟨b, 0, none⟩) 2 2) [⟨0, 0⟩, ⟨100, 9⟩] :=
  isL_blk (xs := [⟨0, 0⟩, ⟨100, 9⟩]) eKn_len rfl h (by decide)
theorem exP_ok {W : World} {b : Nat} {T1 T2 T3 : TypeId} (h0 : W.heap[b]? = some (.cells #[.int .i64 3] T1 (0, 0))) (h1 : W.heap[b + 1]? = some (.cells #[.int .i64 0, .int .i64 4] T2 (0, 0))) (h2 : W.heap[b + 1 + 1]? = some (.cells #[.int .i64 0, .int .i64 2] T3 (0, 0))) :
    gPl W (exP (some ⟨b, 0, none⟩) (some ⟨b + 1, 0, none⟩) (some ⟨b + 1 + 1, 0, none⟩)) := by
  refine ⟨gI64_lit _ rfl, gI64_lit _ rfl, gI64_lit _ rfl, ?_, ?_, ?_, gI64_lit _ rfl⟩
  · exact gSl_blk (xs := [3]) (fun _ => rfl) rfl h0 (by decide) (fun x hx => by rw [List.mem_singleton.1 hx]; exact gI64_lit _ rfl)
  · exact gSl_blk (xs := [0, 4]) (fun _ => rfl) rfl h1 (by decide) (fun x hx => by rcases List.mem_cons.1 hx with h | h; rw [h]; exact gI64_lit _ rfl; rw [List.mem_singleton.1 h]; exact gI64_lit _ rfl)
  · exact gSl_blk (xs := [⟨0, 2⟩]) (good := gKn) eKn_len rfl h2 (by decide) (fun x hx => by
      have e := List.mem_singleton.1 hx
      subst e
      exact (show gI64 W 0 ∧ gI64 W 2 from ⟨gI64_lit _ rfl, gI64_lit _ rfl⟩))
theorem exPip {W : World} {b : Nat} {T0 T1 T3 T4 T5 T6 T7 T8 : TypeId} (h0 : W.heap[b]? = some (.cells #[.int .i64 0, .int .i64 0, .int .i64 100, .int .i64 9] T0 (0, 0))) (h1 : W.heap[b + 1]? = some (.cells #[.int .i64 0, .int .i64 0, .int .i64 100, .int .i64 9] T1 (0, 0)))
    (h3 : W.heap[b + 3]? = some (.cells #[.int .i64 (-1)] T3 (0, 0))) (h4 : W.heap[b + 4]? = some (.cells #[.int .i64 7] T4 (0, 0))) (h5 : W.heap[b + 5]? = some (.cells #[.int .i64 0] T5 (0, 0))) (h6 : W.heap[b + 6]? = some (.cells #[.int .i64 0] T6 (0, 0)))
    (h7 : W.heap[b + 7]? = some (.cells #[.int .i64 100] T7 (0, 0))) (h8 : W.heap[b + 8]? = some (.cells (eSec (exS b)).toArray T8 (0, 0))) : Pip W (b + 3) (b + 4) (b + 5) (b + 6) (b + 7) (b + 8) (exS b) :=
  ⟨(tank_blk h3 0).trans rfl, (tank_blk h4 0).trans rfl, (tank_blk h5 0).trans rfl, (tank_blk h6 0).trans rfl, (tank_blk h7 0).trans rfl, (tank_blk h8 0).trans rfl, (tank_blk h8 1).trans rfl, (tank_blk h8 2).trans rfl, (tank_blk h8 3).trans rfl, (tank_blk h8 4).trans rfl,
    ⟨(show (1 : Nat) ≤ maxLen by decide), knots_blk h0, knots_blk h1⟩⟩

theorem one_int {w : World} {a : Option Addr} {c : Nat} {x : Int} (h : IsInts w (.slice a 1 c) [x]) : ∃ b o, a = some ⟨b, o, none⟩ ∧ w.cell? ⟨b, o, none⟩ = some (.int .i64 x) := by
  obtain ⟨a', c', e, _, _, hC⟩ := h
  simp only [Value.slice.injEq] at e
  obtain ⟨rfl, _, _⟩ := e
  obtain ⟨b, o, e, hc⟩ := hC.int 0 (by simp)
  exact ⟨b, o, e, by simpa using hc⟩

set_option maxRecDepth 100000 in
set_option maxHeartbeats 8000000 in
theorem planAwake_any (w : World) : Calls Tryz.prog 6 #[] w fun e w' => e = .returned (.bool true) ∧ Below w.heap.size w w' := by
  obtain ⟨W1, hW1⟩ : ∃ W1, W1 = allocs w [(#[.int .i64 3], 3), (#[.int .i64 0, .int .i64 4], 3), (#[.int .i64 0, .int .i64 2], 100)] := ⟨_, rfl⟩
  have hb1 : Below w.heap.size w W1 := by rw [hW1]; exact allocs_below _ _
  have hg1 : gPl W1 (exP (some ⟨w.heap.size, 0, none⟩) (some ⟨w.heap.size + 1, 0, none⟩) (some ⟨w.heap.size + 1 + 1, 0, none⟩)) := by
    rw [hW1]
    exact exP_ok (allocs_at _ w 0 (by decide)) (allocs_at _ w 1 (by decide)) (allocs_at _ w 2 (by decide))
  have HW1 := Lib.hid (show W1 = ((w.alloc (.cells #[.int .i64 3] 3)).alloc (.cells #[.int .i64 0, .int .i64 4] 3)).alloc (.cells #[.int .i64 0, .int .i64 2] 100) from hW1)
  have hso := psolve_ex (some ⟨w.heap.size, 0, none⟩) (some ⟨w.heap.size + 1, 0, none⟩) (some ⟨w.heap.size + 1 + 1, 0, none⟩) W1 hg1
  simp only [vPl, vSl, List.length_cons, List.length_nil] at hso
  clear hW1 hg1
  go_enter Tryz.func6, Tryz.ntmps6
  go_wp2_with fail
  rw [← HW1.out]
  clear HW1
  refine Calls.to hso ?_
  rintro e w2 ⟨ra, rc, rfl, hR⟩ hb2
  have hbr := hb1.trans (hb2.mono hb1.size)
  obtain ⟨rb, ro, rfl, hrc⟩ := one_int hR
  clear hso hb1 hb2 hR
  go_wp2_with fail
  change Calls Tryz.prog 39 _ (allocs w2 [(#[.int .i64 0, .int .i64 0, .int .i64 100, .int .i64 9], 100), (#[.int .i64 0, .int .i64 0, .int .i64 100, .int .i64 9], 100), ((eSec (exS w2.heap.size)).toArray, 102), (#[.int .i64 (-1)], 3), (#[.int .i64 7], 3), (#[.int .i64 0], 3), (#[.int .i64 0], 3), (#[.int .i64 100], 3), ((eSec (exS w2.heap.size)).toArray, 102)]) _
  have hb3 := allocs_below [(#[.int .i64 0, .int .i64 0, .int .i64 100, .int .i64 9], 100), (#[.int .i64 0, .int .i64 0, .int .i64 100, .int .i64 9], 100), ((eSec (exS w2.heap.size)).toArray, 102), (#[.int .i64 (-1)], 3), (#[.int .i64 7], 3), (#[.int .i64 0], 3), (#[.int .i64 0], 3), (#[.int .i64 100], 3), ((eSec (exS w2.heap.size)).toArray, 102)] w2
  have hat := allocs_at [(#[.int .i64 0, .int .i64 0, .int .i64 100, .int .i64 9], 100), (#[.int .i64 0, .int .i64 0, .int .i64 100, .int .i64 9], 100), ((eSec (exS w2.heap.size)).toArray, 102), (#[.int .i64 (-1)], 3), (#[.int .i64 7], 3), (#[.int .i64 0], 3), (#[.int .i64 0], 3), (#[.int .i64 100], 3), ((eSec (exS w2.heap.size)).toArray, 102)] w2
  have hpip := exPip (b := w2.heap.size) (hat 0 (by simp)) (hat 1 (by simp)) (hat 3 (by simp)) (hat 4 (by simp)) (hat 5 (by simp)) (hat 6 (by simp)) (hat 7 (by simp)) (hat 8 (by simp))
  clear hat
  generalize allocs w2 [(#[.int .i64 0, .int .i64 0, .int .i64 100, .int .i64 9], 100), (#[.int .i64 0, .int .i64 0, .int .i64 100, .int .i64 9], 100), ((eSec (exS w2.heap.size)).toArray, 102), (#[.int .i64 (-1)], 3), (#[.int .i64 7], 3), (#[.int .i64 0], 3), (#[.int .i64 0], 3), (#[.int .i64 100], 3), ((eSec (exS w2.heap.size)).toArray, 102)] = W3 at *
  have hss := szsolve_one W3 hpip (exS_cat _) (exS_sec _) rfl rfl
  have hbr := hbr.trans (hb3.mono hbr.size)
  have hrc := cel_lt hrc hb3
  clear hb3 hpip
  refine Calls.to hss ?_
  rintro e w4 ⟨sa, sc, rfl, hS⟩ hb4
  have hbr := hbr.trans (hb4.mono hbr.size)
  have hrc := cel_lt hrc hb4
  obtain ⟨sb, so, rfl, hsc⟩ := one_int hS
  clear hss hb4 hS
  have hb5 : Below w4.heap.size w4 (w4.alloc (.cells #[.string ⟨#[97]⟩, .string ⟨#[98]⟩] 9)) := (Below.refl _ _).alloc (Nat.le_refl _) _
  have hrw := rows_ab w4.heap.size (w4.alloc (.cells #[.string ⟨#[97]⟩, .string ⟨#[98]⟩] 9)) (isL_blk (xs := [⟨#[97]⟩, ⟨#[98]⟩]) (enc := eTx) (fun _ => rfl) rfl (heap_alloc_new w4 _) (by decide))
  go_wp2_with fail
  refine Calls.to hrw ?_
  rintro e w6 ⟨tb, tc, rfl, htc⟩ hb6
  have hb7 := hb5.trans (hb6.mono hb5.size)
  have hbr := hbr.trans (hb7.mono hbr.size)
  have hrc := cel_lt hrc hb7
  have hsc := cel_lt hsc hb7
  clear hrw hb5 hb6 hb7
  have hrn := run_nil w6
  simp only [vNet, vSt, vSl, List.length_nil] at hrn
  go_wp2_with fail
  refine Calls.to hrn ?_
  rintro e w7 rfl hb7
  have hbr := hbr.trans (hb7.mono hbr.size)
  have hrc := cel_lt hrc hb7
  have hsc := cel_lt hsc hb7
  have htc := cel_lt htc hb7
  clear hrn hb7
  have hb8 : Below w7.heap.size w7 (w7.alloc (.cells #[.int .i64 0] 3)) := (Below.refl _ _).alloc (Nat.le_refl _) _
  have hq1 := eqI_zero rb ro rc w7.heap.size 0 1 _ (cel_lt hrc hb8) ((tank_blk (heap_alloc_new w7 _) 0).trans rfl)
  go_wp2_with fail
  refine Calls.to hq1 ?_
  rintro e w8 rfl hb9
  have hb9 := hb8.trans (hb9.mono hb8.size)
  have hbr := hbr.trans (hb9.mono hbr.size)
  have hsc := cel_lt hsc hb9
  have htc := cel_lt htc hb9
  clear hq1 hb8 hb9 hrc
  have hb8 : Below w8.heap.size w8 (w8.alloc (.cells #[.int .i64 0] 3)) := (Below.refl _ _).alloc (Nat.le_refl _) _
  have hq1 := eqI_zero sb so sc w8.heap.size 0 1 _ (cel_lt hsc hb8) ((tank_blk (heap_alloc_new w8 _) 0).trans rfl)
  go_wp2_with fail
  refine Calls.to hq1 ?_
  rintro e w9 rfl hb9
  have hb9 := hb8.trans (hb9.mono hb8.size)
  have hbr := hbr.trans (hb9.mono hbr.size)
  have htc := cel_lt htc hb9
  clear hq1 hb8 hb9 hsc
  have hb8 : Below w9.heap.size w9 (w9.alloc (.cells #[.string ⟨#[97, 32, 98]⟩] 9)) := (Below.refl _ _).alloc (Nat.le_refl _) _
  have hq1 := eqS_ab tb tc w9.heap.size 1 _ (cel_lt htc hb8) ((tank_blk (heap_alloc_new w9 _) 0).trans rfl)
  go_wp2_with fail
  refine Calls.to hq1 ?_
  rintro e w10 rfl hb9
  have hb9 := hb8.trans (hb9.mono hb8.size)
  have hbr := hbr.trans (hb9.mono hbr.size)
  clear hq1 hb8 hb9 htc
  go_wp2_with fail
  go_ret
  exact ⟨rfl, hbr⟩

end Go.Proofs.YtoiakijmbghhlaaGreat
