/- The law OverflowTraces returns true for every network, every state and every number, and leaves its arguments as they were. Conditions: none beyond the row's own. -/
import Derived.Test.YtlcfnbnpkcjjlaaGreatRows
import Derived.WalkKit
import Derived.ProofKit
import Derived.OpenShut
import Derived.ShutString
import Derived.ChangeOld
import Derived.Below
import Derived.Test.YtlcfnbnpkcjjlaaGreatOv6
import Derived.Test.YtlcfnbnpkcjjlaaGreatNca
import Derived.Test.YtlcfnbnpkcjjlaaGreatNtb
import Derived.Test.YtlcfnbnpkcjjlaaGreatNtl
import Derived.Test.YtlcfnbnpkcjjlaaGreatNri
import Derived.Test.YtlcfnbnpkcjjlaaGreatRowk
namespace Go.Proofs.YtlcfnbnpkcjjlaaGreat.overflowTraces
open Go.ChangeShapes Go.WideShapes Go.ChangeAt Go.RowKit
set_option linter.unusedVariables false
set_option linter.unusedSimpArgs false
open Go.ChangeMaps (open_string shut_string)
set_option linter.unusedVariables false

theorem own : ownKnob Tryz.prog.godebug = none := by kernel_rfl
theorem laidOut : laidOutB Tryz.prog = true := by kernel_rfl

theorem conts_lit {xs : List ByteArray} {y : ByteArray} {b : Bool} (h : (xs.any fun x => y.toList == x.toList) = b) (v : Value) (w : World) (hv : IsStrs w v xs) :
    Calls Tryz.prog 10 #[v, .string y] w fun e w' => e = .returned (.bool b) ∧ Below w.heap.size w w' := by
  rw [← h]; exact containsS_any xs y v w hv
theorem full_lit {n : Net} {s : St} {k : Nat} {b : Bool} (h : fullM n.Ns.xs s.V.xs k = b) (w : World) (hg : gNet w n) (hgs : gSt w s) (hN : netB n = true) (hk : k < n.Ns.xs.length) (hv : k < s.V.xs.length) :
    Calls Tryz.prog 11 #[vNet n, vSt s, .int .i64 k] w fun e w' => e = .returned (.bool b) ∧ Below w.heap.size w w' := by
  rw [← h]; exact r38full_any n s k w hg hgs hk hv (ndB_knot (netB_nd hN k hk).1)
theorem next_lit {n : Net} {i : Nat} {z : Int} (hi : i < n.Ns.xs.length) (h : nextM n.Ns.xs (nmAt n.Ns.xs i) n.Ls.xs = z) (w : World) (hg : gNet w n) :
    Calls Tryz.prog 12 #[vNet n, .int .i64 i] w fun e w' => e = .returned (.int .i64 z) ∧ Below w.heap.size w w' := by
  rw [← h, nmAt_at hi]; exact r38next_any n i w hg hi
theorem cause_lit {n : Net} {s : St} {k : Nat} {cs : ByteArray} {ce : Int} (h : causeP n s (k : Int) = (cs, ce)) (w : World) (hg : gNet w n) (hgs : gSt w s) :
    Calls Tryz.prog 7 #[vNet n, vSt s, .int .i64 k] w fun e w' => e = .returned (.tuple #[.string cs, .int .i64 ce]) ∧ Below w.heap.size w w' := by
  have := cause_any n s k w hg hgs
  rw [h] at this
  exact this
theorem ord_lit {n : Net} (h : (Gp.ordL n.Ns.xs.length (gE n)).length < n.Ns.xs.length) (w : World) (hg : gNet w n) (hN : netB n = true) :
    Calls Tryz.prog 13 #[vNet n] w fun e w' => (∃ u, e = .returned (.tuple #[u, .int .i64 22])) ∧ Below w.heap.size w w' := by
  have := norder_ok n w hg hN
  rw [ordE, if_pos h] at this
  exact this
theorem names_have {ns : List Nd} {r : List Bool} {c : Nat} (hc : c < ns.length) (hr : r.getD c false = true) : ((namesL ns r ns.length).any fun x => (ns[c]).Name.toList == x.toList) = true := by
  rw [List.any_eq_true]
  refine ⟨ns[c].Name, ?_, by simp⟩
  unfold namesL
  exact List.mem_map.2 ⟨c, List.mem_filter.2 ⟨List.mem_range.2 hc, hr⟩, nmAt_at hc⟩

set_option maxRecDepth 100000 in
set_option maxHeartbeats 4000000 in
theorem walk (v0 : Value) (x0 : Net) (v1 : Value) (x1 : St) (a2 : Int) (w : World) (w0 : v0 = vNet x0 ∧ gNet w x0) (w1 : v1 = vSt x1 ∧ gSt w x1) (w2 : (Lit.int .u8 a2).wf = true) :
    Calls Tryz.prog 3 #[v0, v1, .int .u8 a2] w fun e w' => e = .returned (.bool true) ∧ Below w.heap.size w w' := by
  obtain ⟨rfl, hg⟩ := w0
  obtain ⟨rfl, hgs⟩ := w1
  have ha2 : 0 ≤ a2 ∧ a2 ≤ 255 := by
    have := w2
    simp [Lit.wf] at this
    exact this
  clear w2
  have hb0 : Below w.heap.size w ((w.alloc (.cells (eNet x0).toArray 25)).alloc (.cells (eSt x1).toArray 29)) := ((Below.refl _ _).alloc (Nat.le_refl _) _).alloc (by simp) _
  have HL : ∃ l, Hid (largeB x0 x1 = l) := ⟨_, rfl⟩
  obtain ⟨l, HL⟩ := HL
  have HA := Lib.hid ha2
  clear ha2
  go_enter Tryz.func3, Tryz.ntmps3
  go_wp2_with fail
  refine Calls.to (awake_any _) ?_
  rintro e w1 rfl hb1
  have hbw := hb0.trans (hb1.mono hb0.size)
  obtain ⟨f0, f1, f2, f3⟩ := boxSt (w.alloc (.cells (eNet x0).toArray 25)) w1 29 x1 _ rfl (w.heap.size + 2) (by simp) (by simpa using hb1)
  obtain ⟨e0, e1⟩ := boxNet w w1 25 x0 _ rfl _ rfl (((Below.refl _ _).alloc (by simp) _).trans (hb1.mono (by simp)))
  rw [show (w.alloc (.cells (eNet x0).toArray 25)).heap.size = w.heap.size + 1 from by simp] at f0 f1 f2 f3
  clear hb1
  go_wp2_with fail
  refine Calls.to (large_any x0 x1 _ (rdNet.mono hg hbw)) ?_
  rintro e w2 rfl hb2
  have hbw2 := hbw.trans (hb2.mono hbw.size)
  have e0 := box_lt e0 hb2
  have e1 := box_lt e1 hb2
  have f0 := box_lt f0 hb2
  have f1 := box_lt f1 hb2
  have f2 := box_lt f2 hb2
  have f3 := box_lt f3 hb2
  clear hb2
  rw [HL.out]
  cases l
  rotate_left
  · go_wp2_with fail
    go_ret
    exact ⟨rfl, hbw2⟩
  by_cases hz : x0.Ns.xs.length = 0
  · have j1 : ((x0.Ns.xs.length : Int) == 0) = true := by rw [beq_iff_eq]; omega
    have j2 : (x0.Ns.xs.length == 0) = true := by rw [beq_iff_eq]; exact hz
    have HZ := Lib.hid hz
    clear hz
    go_wp2_with fail
    go_ret
    exact ⟨rfl, hbw2⟩
  have j1 : ((x0.Ns.xs.length : Int) == 0) = false := by rw [beq_eq_false_iff_ne]; omega
  have j2 : (x0.Ns.xs.length == 0) = false := by rw [beq_eq_false_iff_ne]; omega
  have HZ := Lib.hid hz
  clear hz
  go_wp2_with fail
  refine Calls.to (r29right_any x0 x1 _ (rdNet.mono hg hbw2) (rdSt.mono hgs hbw2)) ?_
  rintro e w3 rfl hb3
  have hbw3 := hbw2.trans (hb3.mono hbw2.size)
  have e0 := box_lt e0 hb3
  have e1 := box_lt e1 hb3
  have f0 := box_lt f0 hb3
  have f1 := box_lt f1 hb3
  have f2 := box_lt f2 hb3
  have f3 := box_lt f3 hb3
  clear hb3
  cases hNB : netB x0
  · rw [Bool.false_and]
    go_wp2_with fail
    go_ret
    exact ⟨rfl, hbw3⟩
  rw [Bool.true_and]
  cases hSB : stB x0 x1
  · go_wp2_with fail
    go_ret
    exact ⟨rfl, hbw3⟩
  have hsl : x1.V.xs.length = x0.Ns.xs.length ∧ x1.P.xs.length = x0.Ns.xs.length := by
    simp [stB, stLen] at hSB
    exact ⟨hSB.1.1.1.1, hSB.1.1.1.2⟩
  have hr : (netB x0 && stB x0 x1) = true := by rw [hNB, hSB]; rfl
  obtain ⟨k, hk⟩ : ∃ k : Nat, k = a2.toNat % x0.Ns.xs.length := ⟨_, rfl⟩
  have hkN : k < x0.Ns.xs.length := by rw [hk]; exact Nat.mod_lt _ (by have := HZ.out; omega)
  have x3 : a2.tmod (x0.Ns.xs.length : Int) = (k : Int) := by
    have ha := HA.out
    rw [Int.tmod_eq_emod_of_nonneg ha.1, hk, Int.natCast_emod, Int.toNat_of_nonneg ha.1]
  have x4 : IntKind.i64.wrap a2 = a2 := IntWalk.i64_in _ (by have := HA.out; omega)
  have x5 : ¬ ((x0.Ns.xs.length : Int) = 0) := by have := HZ.out; omega
  have x6 : IntKind.i64.wrap (k : Int) = k := IntWalk.i64_in _ (by have := (netB_small hNB).1; omega)
  have hgs3 := rdSt.mono hgs hbw3
  have hkP : k < x1.P.xs.length := by rw [hsl.2]; exact hkN
  obtain ⟨pb, po, ep, cp⟩ := hgs3.2.1.2.2.1.int k hkP
  have i1 : (0 : Int) ≤ k := by omega
  have i2 : (k : Int) < x1.P.xs.length := by omega
  have HSL := Lib.hid hsl
  have HCP := Lib.hid cp
  have HEP := Lib.hid ep
  have HNB := Lib.hid hNB
  have HR := Lib.hid hr
  have HKN := Lib.hid hkN
  have HKP := Lib.hid hkP
  clear hk hgs3 hsl cp ep hNB hr hSB j1 j2
  go_wp2_with fail
  clear x3 x4 x5 x6
  by_cases p0 : x1.P.xs[k]'HKP.out = 0
  · have hc : causeP x0 x1 (k : Int) = (⟨#[]⟩, 12) := by
      have h1 : ¬ (k : Int) < 0 := by omega
      have h2 : ¬ (x0.Ns.xs.length : Int) ≤ k := by have := HKN.out; omega
      have h3 : x1.P.xs.getD (k : Int).toNat 0 = 0 := by rw [Int.toNat_natCast, List.getD, List.getElem?_eq_getElem HKP.out, Option.getD_some]; exact p0
      simp only [causeP, HR.out, h1, h2, h3, false_or, if_true, if_false]
      simp
    have cp := HCP.out
    rw [p0] at cp
    clear p0
    refine Calls.to (cause_lit hc _ (rdNet.mono hg hbw3) (rdSt.mono hgs hbw3)) ?_
    rintro e w4 rfl hb4
    have hbw4 := hbw3.trans (hb4.mono hbw3.size)
    have cp := box_lt cp hb4
    have e0 := box_lt e0 hb4
    have e1 := box_lt e1 hb4
    have f0 := box_lt f0 hb4
    have f1 := box_lt f1 hb4
    have f2 := box_lt f2 hb4
    have f3 := box_lt f3 hb4
    clear hb4
    replace f1 := f1.trans (show some (vSl x1.P) = some (Value.slice (some ⟨pb, po, none⟩) x1.P.xs.length x1.P.cap) by rw [← HEP.out])
    go_wp2_with fail
    go_ret
    exact ⟨rfl, hbw4⟩
  obtain ⟨c, hcc, hcN, hhow, hnx⟩ := trace_law HNB.out x1.V.xs HKN.out
  have hc : causeP x0 x1 (k : Int) = (x0.Ns.xs[c].Name, 0) := by
    have h1 : ¬ (k : Int) < 0 := by omega
    have h2 : ¬ (x0.Ns.xs.length : Int) ≤ k := by have := HKN.out; omega
    have h3 : ¬ x1.P.xs.getD (k : Int).toNat 0 = 0 := by rw [Int.toNat_natCast, List.getD, List.getElem?_eq_getElem HKP.out, Option.getD_some]; exact p0
    simp only [causeP, HR.out, h1, h2, h3, false_or, if_false, if_true]
    rw [hcc, Int.toNat_natCast, nmAt_at hcN]
    simp
  have HX := Lib.hid hnx
  have HH := Lib.hid hhow
  have HC := Lib.hid hcN
  have hfc := (netB_nd HNB.out c hcN).2
  have hfk := (netB_nd HNB.out k HKN.out).2
  have hhas := fun (r : List Bool) (h : r.getD c false = true) => names_have (ns := x0.Ns.xs) hcN h
  obtain ⟨pv, hpv⟩ : ∃ pv, pv = x1.P.xs[k]'HKP.out := ⟨_, rfl⟩
  have cp := HCP.out
  rw [← hpv] at cp p0
  clear hpv hcc hhow hnx
  refine Calls.to (cause_lit hc _ (rdNet.mono hg hbw3) (rdSt.mono hgs hbw3)) ?_
  rintro e w4 rfl hb4
  have hbw4 := hbw3.trans (hb4.mono hbw3.size)
  have cp := box_lt cp hb4
  have e0 := box_lt e0 hb4
  have e1 := box_lt e1 hb4
  have f0 := box_lt f0 hb4
  have f1 := box_lt f1 hb4
  have f2 := box_lt f2 hb4
  have f3 := box_lt f3 hb4
  clear hb4
  clear hc
  obtain ⟨cn, hcn⟩ : ∃ cn, cn = (x0.Ns.xs[c]'hcN).Name := ⟨_, rfl⟩
  obtain ⟨kn, hkn⟩ : ∃ kn, kn = (x0.Ns.xs[k]'HKN.out).Name := ⟨_, rfl⟩
  rw [← hcn] at hfc hhas ⊢
  rw [← hkn] at hfk
  have q1 : (pv == 0) = false := by rw [beq_eq_false_iff_ne]; exact p0
  have q2 : decide (pv = 0) = false := decide_eq_false p0
  have F1 := Lib.hid f1
  replace f1 := f1.trans (show some (vSl x1.P) = some (Value.slice (some ⟨pb, po, none⟩) x1.P.xs.length x1.P.cap) by rw [← HEP.out])
  have HHAS := Lib.hid hhas
  clear hcn hcN p0 hhas
  go_wp2_with fail
  replace f1 := F1.out
  clear q1 q2 cp i1 i2
  refine Calls.to (nfind_ok x0 cn c _ (rdNet.mono hg hbw4) HNB.out hfc) ?_
  rintro e w5 rfl hb5
  have hbw5 := hbw4.trans (hb5.mono hbw4.size)
  have e0 := box_lt e0 hb5
  have e1 := box_lt e1 hb5
  have f0 := box_lt f0 hb5
  have f1 := box_lt f1 hb5
  have f2 := box_lt f2 hb5
  have f3 := box_lt f3 hb5
  clear hb5
  obtain ⟨nb, no, en, cn0, _⟩ := ((rdNet.mono hg hbw5).1.2.2.1).nd k HKN.out
  rw [← hkn] at cn0
  clear hkn
  have i3 : (0 : Int) ≤ k := by omega
  have i4 : (k : Int) < x0.Ns.xs.length := by have := HKN.out; omega
  have hB := fun xq => below_ok x0 kn k (more w5 xq) (rdNet.mono hg (Below.more hbw5 hbw5.size xq)) HNB.out hfk
  simp only [vNet, vSl, en] at hB
  have HB := Lib.hid hB
  have HE0 := Lib.hid e0
  have HE1 := Lib.hid e1
  clear e0 e1
  have e0 : w5.cell? ⟨w.heap.size, 0, none⟩ = some (Value.slice (some ⟨nb, no, none⟩) x0.Ns.xs.length x0.Ns.cap) := by rw [HE0.out, ← en]
  have e1 : w5.cell? ⟨w.heap.size, 1, none⟩ = some (Value.slice x0.Ls.a x0.Ls.xs.length x0.Ls.cap) := HE1.out
  clear hB en
  go_wp2_with fail
  go_cut [12, 13] from 65 (fun s12 s13 wx => s13 = .int .i64 0 ∧ IsStrs wx s12 (namesL x0.Ns.xs (Gp.reachL x0.Ns.xs.length (gE x0) (firstL (gE x0) k)) x0.Ns.xs.length) ∧ Below w5.heap.size w5 wx)
  case first =>
    rename_i hK0
    refine wp_region_more_tail 7 (by kernel_rfl) (by kernel_rfl) ?_
    simp only [List.take_succ_cons, List.take_zero]
    repeat (go_big_quiet_step (fail))
    refine wpQuiet_nil ?_
    intro _ hwq
    obtain ⟨xq, hwq⟩ := hwq
    subst hwq
    refine wpAny_ready (rs := [7]) (by kernel_rfl) (by simp) ?_
    refine AllReady.cons rfl (fun K hK => ?_) AllReady.nil
    go_simp
    refine Calls.to (HB.out _) ?_
    rintro e w6 ⟨bu, rfl, hbu⟩ hb6
    dsimp only
    refine hK _ _ ?_
    clear hK K
    have hbX : Below w5.heap.size w5 w6 := (below_more w5 xq).trans (hb6.mono (by rw [size_more]; omega))
    refine wpAny_ready (rs := [8]) (by kernel_rfl) (by simp) ?_
    refine AllReady.cons rfl (fun K hK => ?_) AllReady.nil
    go_simp
    refine hK _ _ ?_
    clear hK K
    refine wpAny_ready (rs := [9, 10]) (by kernel_rfl) (by simp) ?_
    refine AllReady.cons rfl (fun K hK => ?_) (AllReady.cons rfl (fun K hK => ?_) AllReady.nil)
    · go_simp
      refine hK _ _ ?_
      clear hK K
      refine wpAny_ready (rs := [10, 11]) (by kernel_rfl) (by simp) ?_
      refine AllReady.cons rfl (fun K hK => ?_) (AllReady.cons rfl (fun K hK => ?_) AllReady.nil)
      · go_simp
        refine hK _ _ ?_
        clear hK K
        refine wpAny_ready (rs := [11]) (by kernel_rfl) (by simp) ?_
        refine AllReady.cons rfl (fun K hK => ?_) AllReady.nil
        go_simp
        refine hK _ _ ?_
        clear hK K
        refine wpAny_ready (rs := [12]) (by kernel_rfl) (by simp) ?_
        refine AllReady.cons rfl (fun K hK => ?_) AllReady.nil
        go_simp
        refine hK _ _ ?_
        clear hK K
        refine wpAny_done (by kernel_rfl) ?_ _
        go_wp2_with fail
        go_meet
        case rel => exact ⟨rfl, hbu, hbX⟩
      · go_simp
        refine hK _ _ ?_
        clear hK K
        refine wpAny_ready (rs := [10]) (by kernel_rfl) (by simp) ?_
        refine AllReady.cons rfl (fun K hK => ?_) AllReady.nil
        go_simp
        refine hK _ _ ?_
        clear hK K
        refine wpAny_ready (rs := [12]) (by kernel_rfl) (by simp) ?_
        refine AllReady.cons rfl (fun K hK => ?_) AllReady.nil
        go_simp
        refine hK _ _ ?_
        clear hK K
        refine wpAny_done (by kernel_rfl) ?_ _
        go_wp2_with fail
        go_meet
        case rel => exact ⟨rfl, hbu, hbX⟩
    · go_simp
      refine hK _ _ ?_
      clear hK K
      refine wpAny_ready (rs := [9]) (by kernel_rfl) (by simp) ?_
      refine AllReady.cons rfl (fun K hK => ?_) AllReady.nil
      go_simp
      refine hK _ _ ?_
      clear hK K
      refine wpAny_ready (rs := [11]) (by kernel_rfl) (by simp) ?_
      refine AllReady.cons rfl (fun K hK => ?_) AllReady.nil
      go_simp
      refine hK _ _ ?_
      clear hK K
      refine wpAny_ready (rs := [12]) (by kernel_rfl) (by simp) ?_
      refine AllReady.cons rfl (fun K hK => ?_) AllReady.nil
      go_simp
      refine hK _ _ ?_
      clear hK K
      refine wpAny_done (by kernel_rfl) ?_ _
      go_wp2_with fail
      go_meet
      case rel => exact ⟨rfl, hbu, hbX⟩
  case rest =>
    obtain ⟨rfl, hbu, hbX⟩ := hcut
    rename_i hK9
    refine hK9 _ _ ?_
    have hbw6 := hbw5.trans (hbX.mono hbw5.size)
    have e0 := HE0.out
    have e1 := HE1.out
    have e0 := box_lt e0 hbX
    have e1 := box_lt e1 hbX
    have f0 := box_lt f0 hbX
    have f1 := box_lt f1 hbX
    have f2 := box_lt f2 hbX
    have f3 := box_lt f3 hbX
    clear hbX
    clear cn0 HB HE0 HE1 i3 i4
    by_cases hck : c = k
    · have j1 : ((c : Int) != (k : Int)) = false := by simp [hck]
      have j2 : (c != k) = false := by simp [hck]
      have j3 : decide (c = k) = true := decide_eq_true hck
      have j4 : decide ((c : Int) = (k : Int)) = true := decide_eq_true (by omega)
      clear hck
      go_wp2_with fail
      rcases HX.out with hm | ⟨x, hm, hxN, hx⟩
      · refine Calls.to (next_lit HC.out hm _ (rdNet.mono hg hbw6)) ?_
        rintro e w9 rfl hb9
        have hbw9 := hbw6.trans (hb9.mono hbw6.size)
        clear hm
        go_wp2_with fail
        go_ret
        exact ⟨rfl, hbw9⟩
      · refine Calls.to (next_lit HC.out hm _ (rdNet.mono hg hbw6)) ?_
        rintro e w9 rfl hb9
        have hbw9 := hbw6.trans (hb9.mono hbw6.size)
        have e0 := box_lt e0 hb9
        have e1 := box_lt e1 hb9
        have f0 := box_lt f0 hb9
        have f1 := box_lt f1 hb9
        have f2 := box_lt f2 hb9
        have f3 := box_lt f3 hb9
        clear hb9
        clear hm
        have y1 : decide ((x : Int) < 0) = false := decide_eq_false (by omega)
        have hxV : x < x1.V.xs.length := by have := HSL.out; omega
        cases hF : fullM x0.Ns.xs x1.V.xs x
        · go_wp2_with fail
          refine Calls.to (full_lit hF _ (rdNet.mono hg hbw9) (rdSt.mono hgs hbw9) HNB.out hxN hxV) ?_
          rintro e w10 rfl hb10
          have hbw10 := hbw9.trans (hb10.mono hbw9.size)
          go_wp2_with fail
          go_ret
          exact ⟨rfl, hbw10⟩
        · have hlt : (Gp.ordL x0.Ns.xs.length (gE x0)).length < x0.Ns.xs.length := by
            rcases hx with h | h
            · rw [hF] at h; cases h
            · exact h
          have HLT := Lib.hid hlt
          clear hlt hx
          go_wp2_with fail
          refine Calls.to (full_lit hF _ (rdNet.mono hg hbw9) (rdSt.mono hgs hbw9) HNB.out hxN hxV) ?_
          rintro e w10 rfl hb10
          have hbw10 := hbw9.trans (hb10.mono hbw9.size)
          have e0 := box_lt e0 hb10
          have e1 := box_lt e1 hb10
          have f0 := box_lt f0 hb10
          have f1 := box_lt f1 hb10
          have f2 := box_lt f2 hb10
          have f3 := box_lt f3 hb10
          clear hb10
          clear hF
          go_wp2_with fail
          refine Calls.to (ord_lit HLT.out _ (rdNet.mono hg hbw10) HNB.out) ?_
          rintro e w11 ⟨u, rfl⟩ hb11
          have hbw11 := hbw10.trans (hb11.mono hbw10.size)
          have e0 := box_lt e0 hb11
          have e1 := box_lt e1 hb11
          have f0 := box_lt f0 hb11
          have f1 := box_lt f1 hb11
          have f2 := box_lt f2 hb11
          have f3 := box_lt f3 hb11
          clear hb11
          have hv := r26valid_any x0 w11 (rdNet.mono hg hbw11)
          rw [HNB.out] at hv
          go_wp2_with fail
          refine Calls.to hv ?_
          rintro e w12 rfl hb12
          have hbw12 := hbw11.trans (hb12.mono hbw11.size)
          go_wp2_with fail
          go_ret
          exact ⟨rfl, hbw12⟩
    · have j1 : ((c : Int) != (k : Int)) = true := by rw [bne_iff_ne]; omega
      have j2 : (c != k) = true := by rw [bne_iff_ne]; exact hck
      obtain ⟨⟨s, hs1, hs2⟩, hfu⟩ := HH.out.resolve_left hck
      have hrg : (Gp.reachL x0.Ns.xs.length (gE x0) (firstL (gE x0) k)).getD c false = true := (Gp.reachL_get HC.out).2 ⟨s, firstL_mem.2 hs1, hs2⟩
      have hcon := conts_lit (HHAS.out _ hrg) _ _ hbu
      have hcV : c < x1.V.xs.length := by have := HSL.out; have := HC.out; omega
      have HFU := Lib.hid hfu
      clear hs1 hs2 hfu hrg hck
      go_wp2_with fail
      refine Calls.to hcon ?_
      rintro e w7 rfl hb7
      have hbw7 := hbw6.trans (hb7.mono hbw6.size)
      have e0 := box_lt e0 hb7
      have e1 := box_lt e1 hb7
      have f0 := box_lt f0 hb7
      have f1 := box_lt f1 hb7
      have f2 := box_lt f2 hb7
      have f3 := box_lt f3 hb7
      clear hb7
      clear hcon
      go_wp2_with fail
      refine Calls.to (full_lit HFU.out _ (rdNet.mono hg hbw7) (rdSt.mono hgs hbw7) HNB.out HC.out hcV) ?_
      rintro e w8 rfl hb8
      have hbw8 := hbw7.trans (hb8.mono hbw7.size)
      have e0 := box_lt e0 hb8
      have e1 := box_lt e1 hb8
      have f0 := box_lt f0 hb8
      have f1 := box_lt f1 hb8
      have f2 := box_lt f2 hb8
      have f3 := box_lt f3 hb8
      clear hb8
      clear j1 j2
      go_wp2_with fail
      rcases HX.out with hm | ⟨x, hm, hxN, hx⟩
      · refine Calls.to (next_lit HC.out hm _ (rdNet.mono hg hbw8)) ?_
        rintro e w9 rfl hb9
        have hbw9 := hbw8.trans (hb9.mono hbw8.size)
        clear hm
        go_wp2_with fail
        go_ret
        exact ⟨rfl, hbw9⟩
      · refine Calls.to (next_lit HC.out hm _ (rdNet.mono hg hbw8)) ?_
        rintro e w9 rfl hb9
        have hbw9 := hbw8.trans (hb9.mono hbw8.size)
        have e0 := box_lt e0 hb9
        have e1 := box_lt e1 hb9
        have f0 := box_lt f0 hb9
        have f1 := box_lt f1 hb9
        have f2 := box_lt f2 hb9
        have f3 := box_lt f3 hb9
        clear hb9
        clear hm
        have y1 : decide ((x : Int) < 0) = false := decide_eq_false (by omega)
        have hxV : x < x1.V.xs.length := by have := HSL.out; omega
        cases hF : fullM x0.Ns.xs x1.V.xs x
        · go_wp2_with fail
          refine Calls.to (full_lit hF _ (rdNet.mono hg hbw9) (rdSt.mono hgs hbw9) HNB.out hxN hxV) ?_
          rintro e w10 rfl hb10
          have hbw10 := hbw9.trans (hb10.mono hbw9.size)
          go_wp2_with fail
          go_ret
          exact ⟨rfl, hbw10⟩
        · have hlt : (Gp.ordL x0.Ns.xs.length (gE x0)).length < x0.Ns.xs.length := by
            rcases hx with h | h
            · rw [hF] at h; cases h
            · exact h
          have HLT := Lib.hid hlt
          clear hlt hx
          go_wp2_with fail
          refine Calls.to (full_lit hF _ (rdNet.mono hg hbw9) (rdSt.mono hgs hbw9) HNB.out hxN hxV) ?_
          rintro e w10 rfl hb10
          have hbw10 := hbw9.trans (hb10.mono hbw9.size)
          have e0 := box_lt e0 hb10
          have e1 := box_lt e1 hb10
          have f0 := box_lt f0 hb10
          have f1 := box_lt f1 hb10
          have f2 := box_lt f2 hb10
          have f3 := box_lt f3 hb10
          clear hb10
          clear hF
          go_wp2_with fail
          refine Calls.to (ord_lit HLT.out _ (rdNet.mono hg hbw10) HNB.out) ?_
          rintro e w11 ⟨u, rfl⟩ hb11
          have hbw11 := hbw10.trans (hb11.mono hbw10.size)
          have e0 := box_lt e0 hb11
          have e1 := box_lt e1 hb11
          have f0 := box_lt f0 hb11
          have f1 := box_lt f1 hb11
          have f2 := box_lt f2 hb11
          have f3 := box_lt f3 hb11
          clear hb11
          have hv := r26valid_any x0 w11 (rdNet.mono hg hbw11)
          rw [HNB.out] at hv
          go_wp2_with fail
          refine Calls.to hv ?_
          rintro e w12 rfl hb12
          have hbw12 := hbw11.trans (hb12.mono hbw11.size)
          go_wp2_with fail
          go_ret
          exact ⟨rfl, hbw12⟩

/-! ### The row -/
set_option maxRecDepth 100000 in
theorem lifted (os : Os) (started : os.Started) (H : Type) (enc : TypeId × Value → H) :
    ReturnsInHanded {} Tryz.checked os 3 .any (Rows.overflowTracesSpec.pre6 enc Tryz.prog Tryz.f3 Rows.overflowTracesRow.domain false) (Rows.overflowTracesSpec.post enc Tryz.prog Tryz.f3 false true false false) := by
  refine returnsInHanded_of_change (C := Tryz.checked) own started (by kernel_rfl) Tryz.func3
    (ChangeSpec.witness6 (enc := enc) (C := Tryz.checked) false ⟨#[], #[.agg #[.slice none 0 0, .slice none 0 0], .agg #[.slice none 0 0, .slice none 0 0, .slice none 0 0, .slice none 0 0], .int .u8 0], []⟩ 8 (by kernel_rfl) (by kernel_rfl) (by kernel_rfl) (by kernel_rfl)) ?_
  intro W base args ds gs before hval0 hW hcnd _
  have hval : ∀ (j : Nat) t v, Tryz.f3.params[j]? = some t → args[j]? = some v → Value.okWide Tryz.prog W .any base t v := hval0
  have hW' := hW
  obtain ⟨p, q, hA0, hV, rfl, hfz, hnd⟩ := hW
  have hA : DataW.TrodAll enc Tryz.prog W 0 (fun _ => true) true Tryz.f3.params.toList args.toList ds p := hA0
  rw [Tryz.params3] at hA hval
  obtain ⟨v0, vs0, d0, ds0, p0, q0, hargs, rfl, rfl, h0, r0⟩ := trodAll_cons hA
  obtain ⟨v1, vs1, d1, ds1, p1, q1, rfl, rfl, rfl, h1, r1⟩ := trodAll_cons r0
  obtain ⟨v2, vs2, d2, ds2, p2, q2, rfl, rfl, rfl, h2, r2⟩ := trodAll_cons r1
  obtain ⟨rfl, rfl, rfl⟩ := trodAll_nil r2
  obtain rfl : args = #[v0, v1, v2] := by cases args; simp_all
  obtain ⟨rfl, rfl⟩ := trodVars_none hV
  have k0 := h0
  have lt0 : ∀ x ∈ p0, x.block < W.heap.size := by obtain ⟨m, hm⟩ := k0; exact DataW.trod_lt m _ _ _ hm
  obtain ⟨x0, w0⟩ := openNet (hval 0 25 v0 rfl rfl) h0
  have k1 := h1
  have lt1 : ∀ x ∈ p1, x.block < W.heap.size := by obtain ⟨m, hm⟩ := k1; exact DataW.trod_lt m _ _ _ hm
  obtain ⟨x1, w1⟩ := openSt (hval 1 29 v1 rfl rfl) h1
  obtain ⟨a2, rfl, rfl, rfl, w2⟩ := open_int Tryz.underlying5 (hval 2 5 v2 rfl rfl) h2
  clear hA0 hval0
  refine (walk v0 x0 v1 x1 a2 W w0 w1 w2).mono fun e W' ⟨he, bel⟩ => ?_
  subst he
  exact ⟨_, rfl, _, _, _, [], _, [], hW', trodAll_mk1 (shut_bool Tryz.underlying4 _), (trodAll_cons_mk (Below.trod laidOut (by kernel_rfl) (of_decide_eq_true (by kernel_rfl)) k0 bel lt0) (trodAll_cons_mk (Below.trod laidOut (by kernel_rfl) (of_decide_eq_true (by kernel_rfl)) k1 bel lt1) (trodAll_cons_mk (shut_int Tryz.underlying5 w2) trodAll_mk0))), rfl, bel.frame _, fun h => by cases h⟩

theorem over : Rows.overflowTracesRow.holds Tryz.pinned (OpenSpec.ofChange Rows.overflowTracesSpec) :=
  OpenClaim.holds_of_wide 3 Tryz.f3 rfl rfl rfl rfl rfl rfl rfl ⟨rfl, rfl, rfl, rfl, rfl⟩ rfl rfl rfl rfl rfl (by kernel_rfl) Tryz.func3 (by kernel_rfl)
    (of_decide_eq_true (by kernel_rfl)) (by unfold Func.isWrapper; first | (rw [if_pos (by decide +kernel)]; kernel_rfl) | (rw [if_neg (by decide +kernel)]; exact ⟨rfl, rfl⟩))
    (fun os started H enc _ => lifted os started H enc)

end Go.Proofs.YtlcfnbnpkcjjlaaGreat.overflowTraces
namespace Go.Proofs.YtlcfnbnpkcjjlaaGreat
/-- The statement. -/
theorem overflowTraces_holds : Rows.OverflowTracesSaid := overflowTraces.over
#print axioms overflowTraces_holds
end Go.Proofs.YtlcfnbnpkcjjlaaGreat
