/- Lists of names; slices.Contains at them; network.found and network.Node. Conditions: the network reads as data and is right. -/
import Derived.Test.YtlcfnbnpkcjjlaaGreatNv
import Derived.Test.YtlcfnbnpkcjjlaaGreatNz
namespace Go.Proofs.YtlcfnbnpkcjjlaaGreat
open Go.RowKit
set_option linter.unusedVariables false
set_option linter.unusedSimpArgs false

abbrev eStr (s : ByteArray) : List Value := [.string s]
abbrev IsStrs (w : World) (v : Value) (xs : List ByteArray) : Prop := IsL eStr 1 w v xs
theorem undStrs : Tryz.prog.underlying 37 = some (.slice 9) := by kernel_rfl
theorem infStr : (Tryz.prog.info? 9).map (fun i => (i.zero, i.size, i.bytes)) = some (some (.string ⟨#[]⟩), 1, 16) := by kernel_rfl
theorem IsC.strAt {w : World} {a : Option Addr} {xs : List ByteArray} (h : IsC eStr 1 w a xs) (i : Nat) (hi : i < xs.length) : ∃ b off, a = some ⟨b, off, none⟩ ∧ w.cell? ⟨b, off + i, none⟩ = some (.string xs[i]) := by
  obtain ⟨b, off, e, hc⟩ := h i hi
  exact ⟨b, off, e, by simpa using hc 0 (by omega)⟩

set_option maxHeartbeats 1000000 in
theorem indexS_any (xs : List ByteArray) (y : ByteArray) (v : Value) (w : World) (hv : IsStrs w v xs) :
    Calls Tryz.prog 36 #[v, .string y] w fun e w' => e = .returned (.int .i64 (idxFrom (fun x => y.toList == x.toList) xs 0)) ∧ Below w.heap.size w w' := by
  obtain ⟨a, cap, rfl, hcap, hbig, hs⟩ := hv
  go_enter Tryz.func36, Tryz.ntmps36
  go_wp2_with fail
  go_loopw [8] (fun s8 wr => ∃ k : Nat, k ≤ xs.length ∧ s8 = .int .i64 k ∧ Below w.heap.size w wr ∧ Hid (idxFrom (fun x => y.toList == x.toList) xs 0 = idxFrom (fun x => y.toList == x.toList) (xs.drop k) k)) (fun i _ => xs.length - (intOf i).toNat)
  case atStart => exact ⟨0, Nat.zero_le _, rfl, Below.refl _ _, rfl⟩
  case round =>
    obtain ⟨k, hk, rfl, hb, hm⟩ := hrel
    by_cases hlt : k < xs.length
    · obtain ⟨b, off, rfl, c0⟩ := (hs.mono hb).strAt k hlt
      have hstep : Hid (idxFrom (fun x => y.toList == x.toList) (xs.drop k) k = if (y.toList == (xs[k]).toList) = true then (k : Int) else idxFrom (fun x => y.toList == x.toList) (xs.drop (k + 1)) (k + 1)) := by
        rw [List.drop_eq_getElem_cons hlt]; rfl
      have i1 : decide (k < xs.length) = true := decide_eq_true hlt
      have x8 : IntKind.i64.wrap ((k : Int) + 1) = k + 1 := IntWalk.i64_in _ (by omega)
      clear hs
      generalize xs[k] = z at *
      cases hq : (y.toList == z.toList)
      · rw [hq] at hstep
        go_wp2_with fail
        go_roundw
        case rel => exact ⟨k + 1, by omega, by go_num, hb, hm.out.trans (hstep.out.trans (by simp))⟩
        case measure => simp [intOf]; omega
      · rw [hq] at hstep
        go_wp2_with fail
        go_ret
        exact ⟨ret_int (hm.out.trans (hstep.out.trans (by simp))).symm, hb⟩
    · have i1 : decide (k < xs.length) = false := decide_eq_false hlt
      obtain rfl : k = xs.length := by omega
      go_wp2_with fail
      go_ret
      refine ⟨ret_int ?_, hb⟩
      rw [hm.out, List.drop_eq_nil_of_le (by omega)]; rfl

set_option maxHeartbeats 400000 in
theorem containsS_any (xs : List ByteArray) (y : ByteArray) (v : Value) (w : World) (hv : IsStrs w v xs) :
    Calls Tryz.prog 10 #[v, .string y] w fun e w' => e = .returned (.bool (xs.any fun x => y.toList == x.toList)) ∧ Below w.heap.size w w' := by
  go_enter Tryz.func10, Tryz.ntmps10
  go_wp2_with fail
  refine Calls.to (indexS_any xs y v w hv) ?_
  rintro e w1 rfl hb
  go_wp2_with fail
  go_ret
  exact ⟨ret_bool (idxFrom_any _ xs 0), hb⟩

set_option maxHeartbeats 400000 in
theorem found_ok (n : Net) (i : Nat) (w : World) : Calls Tryz.prog 32 #[vNet n, .int .i64 (i : Int)] w fun e w' => e = .returned (.tuple #[.int .i64 (i : Int), .int .i64 0]) ∧ Below w.heap.size w w' := by
  have g0 : decide ((i : Int) < 0) = false := decide_eq_false (by omega)
  go_enter Tryz.func32, Tryz.ntmps32
  go_wp2_with fail
  go_ret2
  exact ⟨rfl, by repeat' (first | exact Below.refl _ _ | assumption | refine Below.more ?_ ?_ _ | refine Below.alloc ?_ ?_ _ | refine Below.drew ?_ | refine below_drewN ?_ _ | refine Below.setCell ?_ ?_ _ | exact Below.size (by assumption) | (simp [go_sem, size_more]; done) | (simp [go_sem, size_more]; omega))⟩
theorem node_lit {n : Net} {nm : ByteArray} {i : Nat} (h : findNd n.Ns.xs nm = (i : Int)) (w : World) (hv : IsNds w (vSl n.Ns) n.Ns.xs) :
    Calls Tryz.prog 33 #[vNet n, .string nm] w fun e w' => e = .returned (.int .i64 (i : Int)) ∧ Below w.heap.size w w' := by
  rw [← h]; exact node_any n nm w hv

set_option maxRecDepth 100000 in
set_option maxHeartbeats 2000000 in
theorem nfind_ok (n : Net) (nm : ByteArray) (i : Nat) (w : World) (hg : gNet w n) (hN : netB n = true) (hi : findNd n.Ns.xs nm = (i : Int)) :
    Calls Tryz.prog 8 #[vNet n, .string nm] w fun e w' => e = .returned (.tuple #[.int .i64 (i : Int), .int .i64 0]) ∧ Below w.heap.size w w' := by
  have hb0 : Below w.heap.size w (w.alloc (.cells (eNet n).toArray 25)) := (Below.refl _ _).alloc (Nat.le_refl _) _
  go_enter Tryz.func8, Tryz.ntmps8
  go_wp2_with fail
  refine Calls.to (nvalid_any n _ (rdNet.mono hg hb0)) ?_
  rintro e w1 rfl hb1
  have hbw := hb0.trans (hb1.mono hb0.size)
  obtain ⟨e0, e1⟩ := boxNet w w1 25 n _ rfl _ rfl (hb1.mono (by simp))
  have hgw := rdNet.mono hg hbw
  clear hb1 hb0
  rw [hN]
  obtain ⟨W, hW⟩ : ∃ W, W = w1 := ⟨_, rfl⟩
  subst hW
  go_wp2_with fail
  refine wp_region_more_lit (by kernel_rfl) (by kernel_rfl) ?_
  repeat (go_big_quiet_step ((first | (go_at_call 33; exact Calls.more_of (node_lit hi _ ((rdNet.mono hgw (below_more _ _)).1.isL))) | (go_at_call 32; exact Calls.more_of (found_ok n i _)))))
  refine wpQuiet_nil ?_
  intro _ hwq
  obtain ⟨xq, hwq⟩ := hwq
  subst hwq
  have hbd := Below.more hbw hbw.size xq
  go_wp2_with fail
  go_ret2
  exact ⟨rfl, hbd⟩

end Go.Proofs.YtlcfnbnpkcjjlaaGreat
