/- A tank in memory: planner.tankOf and step. Conditions: the plan reads as data. -/
import Derived.Test.YtoiakijmbghhlaaGreatYpa
import Derived.Test.YtoiakijmbghhlaaGreatOrw
import Derived.Test.YtoiakijmbghhlaaGreatTfo
namespace Go.Proofs.YtoiakijmbghhlaaGreat
open Go.RowKit
set_option linter.unusedVariables false
set_option linter.unusedSimpArgs false

def prices (p : PlD) : List Int := p.L.xs.map (tabV p.T.xs)
theorem prices_len (p : PlD) : (prices p).length = p.L.xs.length := by simp [prices]
/-- Block g holds the tank of a plan. -/
structure IsTank (w : World) (g : Nat) (p : PlD) : Prop where
  c0 : w.cell? ⟨g, 0, none⟩ = some (.int .i64 p.St)
  c1 : w.cell? ⟨g, 1, none⟩ = some (.int .i64 p.Cp)
  c2 : w.cell? ⟨g, 2, none⟩ = some (.int .i64 p.Rs)
  c3 : w.cell? ⟨g, 3, none⟩ = some (.slice p.I.a p.I.xs.length p.I.cap)
  c4 : w.cell? ⟨g, 4, none⟩ = some (.slice p.L.a p.L.xs.length p.L.cap)
  c5 : w.cell? ⟨g, 5, none⟩ = some (.slice p.T.a p.T.xs.length p.T.cap)
  c6 : w.cell? ⟨g, 6, none⟩ = some (.int .i64 p.W)
  pr : ∃ pa pc, w.cell? ⟨g, 7, none⟩ = some (.slice pa p.L.xs.length pc) ∧ IsC eInt 1 w pa (prices p) ∧ p.L.xs.length ≤ pc ∧ pc ≤ 9223372036854775807
  li : IsC eInt 1 w p.I.a p.I.xs
  ll : IsC eInt 1 w p.L.a p.L.xs
theorem IsTank.mono {w w' : World} {g : Nat} {p : PlD} (h : IsTank w g p) (hb : Below w.heap.size w w') : IsTank w' g p := by
  obtain ⟨pa, pc, h7, hp, hq⟩ := h.pr
  exact ⟨cel_lt h.c0 hb, cel_lt h.c1 hb, cel_lt h.c2 hb, cel_lt h.c3 hb, cel_lt h.c4 hb, cel_lt h.c5 hb, cel_lt h.c6 hb, ⟨pa, pc, cel_lt h7 hb, hp.mono hb, hq⟩, h.li.mono hb, h.ll.mono hb⟩

abbrev tkC (p : PlD) (u : Value) : Array Value := #[.int .i64 p.St, .int .i64 p.Cp, .int .i64 p.Rs, .slice p.I.a p.I.xs.length p.I.cap, .slice p.L.a p.L.xs.length p.L.cap, .slice p.T.a p.T.xs.length p.T.cap, .int .i64 p.W, u]
theorem tank_blk {w : World} {g : Nat} {L : Array Value} {T : TypeId} (hg : w.heap[g]? = some (.cells L T (0, 0))) (j : Nat) : w.cell? ⟨g, j, none⟩ = L[j]? := by
  simp [World.cell?, hg]
theorem tank_free {w : World} {g : Nat} {L : Array Value} {T : TypeId} (hg : w.heap[g]? = some (.cells L T (0, 0))) (j : Nat) : w.frozen? ⟨g, j, none⟩ = false := by
  simp [World.frozen?, hg]

set_option maxRecDepth 100000 in
set_option maxHeartbeats 8000000 in
theorem tankOf_bad (p : PlD) (w : World) (hg : gPl w p) (hP : planB p = false) : Calls Tryz.prog 69 #[vPl p] w fun e w' => e = .returned (.tuple #[.pointer none, .bool false]) ∧ Below w.heap.size w w' := by
  have hb0 : Below w.heap.size w (w.alloc (.cells (ePl p).toArray 68)) := (Below.refl _ _).alloc (Nat.le_refl _) _
  have hv := pvalid_any p _ (rdPl.mono hg hb0)
  rw [hP] at hv
  go_enter Tryz.func69, Tryz.ntmps69
  go_wp2_with fail
  refine Calls.to hv ?_
  rintro e w1 rfl hb1
  go_wp2_with fail
  go_ret2
  exact ⟨rfl, hb0.trans (hb1.mono hb0.size)⟩

set_option maxRecDepth 100000 in
set_option maxHeartbeats 8000000 in
theorem tankOf_ok (p : PlD) (w : World) (hg : gPl w p) (hP : planB p = true) (hT : tabB p.T.xs = true) (hL : p.L.xs.length ≤ 20) : Calls Tryz.prog 69 #[vPl p] w fun e w' => (∃ g, e = .returned (.tuple #[.pointer (some ⟨g, 0, none⟩), .bool true]) ∧ IsTank w' g p) ∧ Below w.heap.size w w' := by
  have hb0 : Below w.heap.size w (w.alloc (.cells (ePl p).toArray 68)) := (Below.refl _ _).alloc (Nat.le_refl _) _
  have hv := pvalid_any p _ (rdPl.mono hg hb0)
  rw [hP] at hv
  have hI := Lib.hid hg.i.2.2.1
  have hLs := Lib.hid hg.l.2.2.1
  have hTl := Lib.hid hg.t.isL
  have HLL := Lib.hid hL
  clear hL hg
  go_enter Tryz.func69, Tryz.ntmps69
  go_wp2_with fail
  refine Calls.to hv ?_
  rintro e w1 rfl hb1
  have hbw := hb0.trans (hb1.mono hb0.size)
  obtain ⟨c0, c1, c2, c3, c4, c5, c6⟩ := boxPl w w1 68 p _ rfl _ rfl (hb1.mono (by simp))
  clear hb1 hb0 hv hP
  go_wp2_with fail
  go_loopw [18] (fun s18 wr => ∃ (k : Nat) (pa : Option Addr) (pc : Nat), k ≤ p.L.xs.length ∧ s18 = .int .i64 k ∧ Below w1.heap.size w1 wr ∧ wr.heap[w1.heap.size]? = some (.cells (tkC p (.slice pa k pc)) 158 (0, 0)) ∧ Own (w1.heap.size + 1) 3 eInt 1 wr (.slice pa k pc) ((prices p).take k)) (fun s18 _ => p.L.xs.length - (intOf s18).toNat)
  case atStart => exact ⟨0, none, 0, Nat.zero_le _, rfl, (Below.refl _ _).alloc (Nat.le_refl _) _, heap_alloc_new w1 _, by rw [List.take_zero]; exact World.ownsRow_nil _ _ _ _⟩
  case round =>
    obtain ⟨k, pa, pc, hk, rfl, hb, hB, hown⟩ := hrel
    have hbr := hbw.trans (hb.mono hbw.size)
    have hsz := hb.size
    have hGl : w1.heap.size < wr.heap.size := (Array.getElem?_eq_some_iff.1 hB).1
    by_cases hkl : k < p.L.xs.length
    · have c5 := cel_lt c5 hb
      obtain ⟨b, off, ea, d0⟩ := (hLs.out.mono hbr).int k hkl
      have i1 : decide (k < p.L.xs.length) = true := decide_eq_true hkl
      have x8 : IntKind.i64.wrap ((k : Int) + 1) = k + 1 := IntWalk.i64_in _ (by have := HLL.out; omega)
      have hfl := tfloor_any p.T.xs p.L.xs[k] _ wr (hTl.out.mono hbr) hT
      have hst : (prices p).take (k + 1) = (prices p).take k ++ [tabV p.T.xs p.L.xs[k]] := by
        rw [List.take_succ_eq_append_getElem (by rw [prices_len]; exact hkl)]; simp [prices]
      have HST := Lib.hid hst
      have hyl : ((prices p).take k).length = k := by rw [List.length_take, prices_len]; omega
      have HYL := Lib.hid hyl
      clear hst hyl
      obtain ⟨x, hx⟩ : ∃ x, x = p.L.xs[k] := ⟨_, rfl⟩
      rw [← hx] at d0 hfl HST
      clear hx
      obtain ⟨pv, hpv⟩ : ∃ pv, pv = tabV p.T.xs x := ⟨_, rfl⟩
      rw [← hpv] at hfl HST
      clear hpv
      obtain ⟨ys, hys⟩ : ∃ ys, ys = (prices p).take k := ⟨_, rfl⟩
      rw [← hys] at hown HST HYL
      clear hys
      go_wp2_with fail
      refine Calls.to hfl ?_
      rintro e w3 rfl hb3
      have hB3 := (hb3.block w1.heap.size hGl).trans hB
      have hown3 := hown.below hb3
      have hb3' := hb.trans (hb3.mono (by omega))
      have hG3 : w1.heap.size < w3.heap.size := by have := hb3.size; omega
      have d7 : w3.cell? ⟨w1.heap.size, 7, none⟩ = some (.slice pa k pc) := (tank_blk hB3 7).trans rfl
      have f7 : w3.frozen? ⟨w1.heap.size, 7, none⟩ = false := tank_free hB3 7
      have h1c : ∀ u ∈ eInt pv, u.oneCell' = true := by simp [Value.oneCell']
      have hyl2 : ys.length < 2147483648 := by have := HYL.out; have := HLL.out; omega
      have hs3 : w1.heap.size + 1 ≤ w3.heap.size := hG3
      have hne : (Value.slice pa k pc).ownBlock ≠ some w1.heap.size := fun h => by have := (hown3.lt _ h).1; omega
      clear hb hB hown hbr hGl hsz hfl hb3 ea d0 c5 i1
      go_wp2_with (at_builtin; go_must (refine wpList_pushR rfl _ _ 28 rfl 3 _ 1 8 undInts infInt rfl (by decide) pv (fun _ => rfl) h1c _ ys rfl hown3 w3.heap.size rfl rfl hyl2 (by decide) hs3 _ rfl ?_); intro g5 k5 w5 hR5; have hB5 : w5.heap[w1.heap.size]? = some (.cells (tkC p (.slice pa k pc)) 158 (0, 0)) := (hR5.grown.block _ hG3 (fun e => hne e.symm)).trans hB3; have d75 : w5.cell? ⟨w1.heap.size, 7, none⟩ = some (.slice pa k pc) := (tank_blk hB5 7).trans rfl; have f75 : w5.frozen? ⟨w1.heap.size, 7, none⟩ = false := tank_free hB5 7)
      have hb5 := (hb3'.trans ((hR5.below hown3 hs3).mono (by omega))).setCell (p := ⟨w1.heap.size, 7, none⟩) (Nat.le_refl _) (.slice (some ⟨g5, 0, none⟩) (ys.length + 1) k5)
      have hB6 : (w5.setCell ⟨w1.heap.size, 7, none⟩ (.slice (some ⟨g5, 0, none⟩) (ys.length + 1) k5)).heap[w1.heap.size]? = some (.cells (tkC p (.slice (some ⟨g5, 0, none⟩) (ys.length + 1) k5)) 158 (0, 0)) := heap_setCell_same w5 _ 7 _ _ _ hB5
      have hown5 := hR5.own.set' ⟨w1.heap.size, 7, none⟩ (.slice (some ⟨g5, 0, none⟩) (ys.length + 1) k5) (fun h => Nat.not_succ_le_self _ (hR5.own.lt _ h).1)
      clear hR5 hB5 d75 f75 hB3 d7 f7 hown3
      go_roundw
      case measure => simp [intOf]; omega
      case rel =>
        rw [HYL.out] at hb5 hB6 hown5 ⊢
        exact ⟨k + 1, _, _, by omega, by go_num, hb5, hB6, by rw [HST.out]; exact hown5⟩
    · have i1 : decide (k < p.L.xs.length) = false := decide_eq_false hkl
      have hkk : k = p.L.xs.length := by omega
      have hpl : (prices p).take k = prices p := List.take_of_length_le (by rw [prices_len]; omega)
      rw [hpl] at hown
      have hC : IsC eInt 1 wr pa (prices p) ∧ p.L.xs.length ≤ pc ∧ pc ≤ 9223372036854775807 := by
        obtain ⟨a, c, hv, h1, h2, h⟩ := hown.isL (fun _ => rfl)
        simp only [Value.slice.injEq] at hv
        obtain ⟨rfl, -, rfl⟩ := hv
        rw [prices_len] at h1
        exact ⟨h, h1, h2⟩
      have hT : IsTank wr w1.heap.size p := ⟨(tank_blk hB 0).trans rfl, (tank_blk hB 1).trans rfl, (tank_blk hB 2).trans rfl, (tank_blk hB 3).trans rfl, (tank_blk hB 4).trans rfl, (tank_blk hB 5).trans rfl, (tank_blk hB 6).trans rfl, ⟨pa, pc, by rw [← hkk]; exact (tank_blk hB 7).trans rfl, hC⟩, hI.out.mono hbr, hLs.out.mono hbr⟩
      clear hB hown hpl hkk hC
      go_wp2_with fail
      go_ret2
      exact ⟨⟨_, rfl, hT⟩, hbr⟩

end Go.Proofs.YtoiakijmbghhlaaGreat
