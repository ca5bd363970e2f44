/- Way of the reference. Conditions: network and state read as data, the network is right, the index is a node's. -/
import Derived.Test.YtbkihndidbmhoaaMCau
import Derived.Test.YtbkihndidbmhoaaNwa
namespace Go.Proofs.Ytbkihndidbmhoaa
open Go.RowKit
set_option linter.unusedVariables false
set_option linter.unusedSimpArgs false

def lenV : Value → Nat
  | .slice _ n _ => n
  | _ => 0
def WayOut (N : Nat) (c : Int) (e : Ending) (w' : World) : Prop := ∃ v ys, e = .returned v ∧ IsInts w' v ys ∧ 0 < ys.length ∧ 0 ≤ lastI ys ∧ lastI ys < (N : Int) ∧ lastI ys = c
def WayIs (N : Nat) (ys : List Int) : Prop := 0 < ys.length ∧ ys.Nodup ∧ ∀ y ∈ ys, 0 ≤ y ∧ y < (N : Int)

set_option maxRecDepth 100000 in
set_option maxHeartbeats 4000000 in
theorem r38way_any (n : Net) (s : St) (i : Nat) (w : World) (hg : gNet w n) (hgs : gSt w s) (hnet : netB n = true) (hl : s.V.xs.length = n.Ns.xs.length) (hi : i < n.Ns.xs.length) :
    Calls Try.prog 72 #[vNet n, vSt s, .int .i64 i] w fun e w' => WayOut n.Ns.xs.length (causeM n.Ns.xs n.Ls.xs s.V.xs n.Ns.xs.length [(i : Int)]) e w' ∧ Below w.heap.size w w' := by
  have hb0 : Below w.heap.size w ((w.alloc (.cells (eNet n).toArray 85)).alloc (.cells (eSt s).toArray 87)) := ((Below.refl _ _).alloc (Nat.le_refl _) _).alloc (by simp) _
  have hz0 : ((w.alloc (.cells (eNet n).toArray 85)).alloc (.cells (eSt s).toArray 87)).heap.size = w.heap.size + 2 := by simp
  have hown0 := Own.fresh (enc := eInt) (fun _ => rfl) ((w.alloc (.cells (eNet n).toArray 85)).alloc (.cells (eSt s).toArray 87)) (w.heap.size + 2) (by simp) 3 (i : Int) #[.int .i64 i] rfl
  rw [hz0] at hown0
  go_enter Try.func72, Try.ntmps72
  go_wp2_with fail
  go_loopw [7] (fun s7 wr => ∃ ys : List Int, Own (w.heap.size + 2) 3 eInt 1 wr s7 ys ∧ WayIs n.Ns.xs.length ys ∧ Below (w.heap.size + 2) ((w.alloc (.cells (eNet n).toArray 85)).alloc (.cells (eSt s).toArray 87)) wr ∧ Hid (causeM n.Ns.xs n.Ls.xs s.V.xs n.Ns.xs.length [(i : Int)] = causeM n.Ns.xs n.Ls.xs s.V.xs (n.Ns.xs.length + 1 - ys.length) ys)) (fun s7 _ => n.Ns.xs.length + 1 - lenV s7)
  case atStart => exact ⟨[(i : Int)], hown0, ⟨by simp, by simp, by intro y hy; simp at hy; subst hy; omega⟩, (Below.refl _ _).alloc (by simp) _, by show _ = _; simp⟩
  case round =>
    obtain ⟨ys, hown, ⟨hl0, hnd, hbd⟩, hb, hm⟩ := hrel
    have hbw : Below w.heap.size w wr := hb0.trans (hb.mono (by omega))
    have hlen := nodup_len _ ys hnd hbd
    have hNx : n.Ns.xs.length ≤ 9223372036854775807 := by have h1 := hg.1.1; have h2 := hg.1.2.1; omega
    obtain ⟨f0, f1, f2, f3⟩ := boxSt (w.alloc (.cells (eNet n).toArray 85)) wr 87 s _ rfl (w.heap.size + 2) (by simp) hb
    obtain ⟨e0, e1⟩ := boxNet w wr 85 n _ rfl _ rfl (((Below.refl _ _).alloc (by simp) _).trans (hb.mono (by omega)))
    rw [show (w.alloc (.cells (eNet n).toArray 85)).heap.size = w.heap.size + 1 from by simp] at f0 f1 f2 f3
    obtain ⟨g, cap, rfl, hgb, hgl, hcap, hbig⟩ := hown.place hl0
    have hcell : wr.cell? ⟨g, (ys.length - 1) * 1 + 0, none⟩ = some (.int .i64 (ys[ys.length - 1]'(by omega))) := Own.cellAt' (enc := eInt) (xs := ys) (fun _ => rfl) hown (ys.length - 1) 0 (by omega) Nat.zero_lt_one
    have hlast : lastI ys = ys[ys.length - 1] := by simp [lastI, List.getD, List.getElem?_eq_getElem (show ys.length - 1 < ys.length by omega)]
    have hat := hbd _ (List.getElem_mem (show ys.length - 1 < ys.length by omega))
    obtain ⟨j, hj⟩ : ∃ j : Nat, ys[ys.length - 1] = (j : Int) := ⟨(ys[ys.length - 1]).toNat, by omega⟩
    have hjl : j < n.Ns.xs.length := by rw [hj] at hat; omega
    rw [hj] at hcell hlast
    simp only [Nat.mul_one, Nat.add_zero] at hcell
    have hnm : nmAt n.Ns.xs (lastI ys).toNat = n.Ns.xs[j].Name := by rw [hlast]; simp [nmAt, List.getD, List.getElem?_eq_getElem hjl]
    have hk := fun W h => r38next_any n j W h hjl
    rw [← hnm] at hk
    have HL := Lib.hid hlast
    have HOwn := Lib.hid hown
    have hgn := rdNet.mono hg hbw
    obtain ⟨k, hkk⟩ : ∃ k, nextM n.Ns.xs (nmAt n.Ns.xs (lastI ys).toNat) n.Ls.xs = k := ⟨_, rfl⟩
    have hkb := nextM_bd n.Ns.xs (nmAt n.Ns.xs (lastI ys).toNat) n.Ls.xs
    rw [hkk] at hk hkb
    have HK := Lib.hid hkk
    clear hkk hlast hj hat hnm hown
    have o1 : 1 ≤ ys.length := hl0
    go_wp2_with fail
    have w1' : IntKind.i64.wrap ((ys.length : Int) - 1) = (ys.length : Int) - 1 := IntWalk.i64_in _ (by omega)
    have w2' : ((ys.length : Int) - 1).toNat = ys.length - 1 := by omega
    have w3' : 0 ≤ (ys.length : Int) - 1 := by omega
    have w4' : (ys.length : Int) - 1 < ys.length := by omega
    refine wp_region_more_lit (by kernel_rfl) (by kernel_rfl) ?_
    repeat (go_big_quiet_step (((go_at_call 99; exact Calls.more_of (hk _ (rdNet.mono hgn (below_more _ _)))))))
    refine wpQuiet_nil ?_
    intro _ hwq
    obtain ⟨xq, hwq⟩ := hwq
    subst hwq
    clear w1' w2' w3' w4' hk
    have hbX := below_more wr xq
    have e0 := box_lt e0 hbX
    have e1 := box_lt e1 hbX
    have f0 := box_lt f0 hbX
    have f1 := box_lt f1 hbX
    have f2 := box_lt f2 hbX
    have f3 := box_lt f3 hbX
    have hown2 := HOwn.out.below hbX
    have hbw2 := hbw.trans (hbX.mono hbw.size)
    have hb2 := hb.trans (hbX.mono (by simpa using hb.size))
    clear hbX hcell HOwn hgn
    generalize more wr xq = w2 at *
    have hys : IsInts w2 (.slice (some ⟨g, 0, none⟩) ys.length cap) ys := hown2.isL (fun _ => rfl)
    have hfuel : n.Ns.xs.length + 1 - ys.length = (n.Ns.xs.length - ys.length) + 1 := by omega
    have HM := Lib.hid (hm.out.trans (by rw [hfuel] : _ = causeM n.Ns.xs n.Ls.xs s.V.xs ((n.Ns.xs.length - ys.length) + 1) ys))
    clear hm hfuel
    have hjj : 0 ≤ lastI ys ∧ lastI ys < (n.Ns.xs.length : Int) := by rw [HL.out]; omega
    by_cases k0 : k < 0
    · have u : decide (k < 0) = true := decide_eq_true k0
      have HR := Lib.hid (HM.out.trans (causeM_stop1 (by rw [HK.out]; exact k0)))
      go_wp2_with fail
      go_ret
      exact ⟨⟨_, ys, rfl, hys, hl0, hjj.1, hjj.2, HR.out.symm⟩, hbw2⟩
    have u : decide (k < 0) = false := decide_eq_false k0
    obtain ⟨kk, rfl⟩ : ∃ m : Nat, k = (m : Int) := ⟨k.toNat, by omega⟩
    have u' : decide ((kk : Int) < 0) = false := decide_eq_false (by omega)
    have hkl : kk < n.Ns.xs.length := by rcases hkb with h | h <;> omega
    have HC : Hid (ys.contains (kk : Int) = ys.any fun x => x == (kk : Int)) := by show _ = _; rw [Bool.eq_iff_iff]; simp
    clear k0 hkb
    go_wp2_with fail
    refine Calls.to (r38has_any ys kk _ w2 hys) ?_
    rintro e w3 rfl hb3
    have e0 := box_lt e0 hb3
    have e1 := box_lt e1 hb3
    have f0 := box_lt f0 hb3
    have f1 := box_lt f1 hb3
    have f2 := box_lt f2 hb3
    have f3 := box_lt f3 hb3
    have hown3 := hown2.below hb3
    have hys3 := hys.mono hb3
    have hbw3 := hbw2.trans (hb3.mono hbw2.size)
    have hbW3 := hb2.trans (hb3.mono (by simpa using hb2.size))
    clear hb3 hown2 hys hbw2 hb2
    cases hh : ys.any fun x => x == (kk : Int)
    rotate_left
    · have HR := Lib.hid (HM.out.trans (causeM_stop2 (by rw [HK.out, HC.out]; exact hh)))
      clear hh
      go_wp2_with fail
      go_ret
      exact ⟨⟨_, ys, rfl, hys3, hl0, hjj.1, hjj.2, HR.out.symm⟩, hbw3⟩
    have HH := Lib.hid (HC.out.trans hh)
    go_wp2_with fail
    refine Calls.to (r38full_any n s kk _ (rdNet.mono hg hbw3) (rdSt.mono hgs hbw3) hkl (by rw [hl]; exact hkl) (ndB_knot (netB_nd hnet kk hkl).1)) ?_
    rintro e w4 rfl hb4
    have hown4 := hown3.below hb4
    have hys4 := hys3.mono hb4
    have hbw4 := hbw3.trans (hb4.mono hbw3.size)
    have hbW4 := hbW3.trans (hb4.mono (by simpa using hbW3.size))
    clear hb4 hown3 hys3 hbw3 hbW3 e0 e1 f0 f1 f2 f3
    cases hf : fullM n.Ns.xs s.V.xs kk
    · have HR := Lib.hid (HM.out.trans (causeM_stop3 (by rw [HK.out]; exact hf)))
      clear hf
      go_wp2_with fail
      go_ret
      exact ⟨⟨_, ys, rfl, hys4, hl0, hjj.1, hjj.2, HR.out.symm⟩, hbw4⟩
    have HR := Lib.hid (HM.out.trans (causeM_step (by rw [HK.out]; omega) (by rw [HK.out]; exact HH.out) (by rw [HK.out]; exact hf)))
    rw [HK.out] at HR
    have hz4 : w.heap.size + 2 ≤ w4.heap.size := by simpa using hbW4.size
    clear hf
    have hN3 : n.Ns.xs.length ≤ 300 := by have h := hnet; simp [netB] at h; omega
    have hlo : ys.length < 2147483648 := by omega
    have hnot : (kk : Int) ∉ ys := by
      intro hm
      have h := HH.out
      rw [List.contains_iff_mem.2 hm] at h
      cases h
    have hWI : WayIs n.Ns.xs.length (ys ++ [(kk : Int)]) := by
      refine ⟨by simp, List.nodup_append.2 ⟨hnd, by simp, ?_⟩, ?_⟩
      · intro a ha b hb
        simp only [List.mem_singleton] at hb
        subst hb
        rintro rfl
        exact hnot ha
      · intro y hy
        rcases List.mem_append.1 hy with h | h
        · exact hbd y h
        · simp only [List.mem_singleton] at h
          subst h
          omega
    have HR2 : Hid (causeM n.Ns.xs n.Ls.xs s.V.xs n.Ns.xs.length [(i : Int)] = causeM n.Ns.xs n.Ls.xs s.V.xs (n.Ns.xs.length + 1 - (ys ++ [(kk : Int)]).length) (ys ++ [(kk : Int)])) := by
      show _ = _
      rw [HR.out]
      congr 1
      simp only [List.length_append, List.length_singleton]
      omega
    clear HR HH hnot hys4 u u'
    go_wp2_with (at_builtin; go_must (refine wpList_pushB rfl _ _ 22 rfl 3 _ 1 8 undInts infInt rfl (by decide) (kk : Int) (fun _ => rfl) (by simp [Value.oneCell']) _ ys rfl hown4 _ rfl rfl hlo (by decide) hz4 _ rfl ?_); intro g3 cap3 w5 hown5 hbg5 hgl5 hb5 hc51 hc52)
    go_roundw
    case measure => simp [lenV]; omega
    case rel => exact ⟨ys ++ [(kk : Int)], hown5, hWI, hbW4.trans hb5, HR2⟩

end Go.Proofs.Ytbkihndidbmhoaa
