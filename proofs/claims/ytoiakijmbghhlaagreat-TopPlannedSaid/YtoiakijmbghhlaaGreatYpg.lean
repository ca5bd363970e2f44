/- planner's Solve. Conditions: the plan reads as data. -/
import Derived.Test.YtoiakijmbghhlaaGreatYpf
namespace Go.Proofs.YtoiakijmbghhlaaGreat
open Go.RowKit
set_option linter.unusedVariables false
set_option linter.unusedSimpArgs false

theorem best_eq {p : PlD} {R : List (List Int)} (hc : ChainI p R) {i : Nat} (hi : i < p.I.xs.length) (hr : i + 1 < R.length) {v : Int} (hv : v ∈ R.getD i []) :
    Pn.best (plOf p) (valF p (i + 1) (R.getD (i + 1) [])) v p.I.xs[i] = Pn.best (plOf p) (Pn.V (plOf p) (p.I.xs.drop (i + 1))) v p.I.xs[i] := by
  rw [Pn.best, Pn.best]
  refine bestK_congr _ fun k hk w c hs => ?_
  unfold valF
  rw [if_pos]
  refine ((hc.next i hr).2 w).2 ⟨v, hv, k, hk, c, ?_⟩
  rw [show p.I.xs.getD i 0 = p.I.xs[i] from by simp [List.getD, List.getElem?_eq_getElem hi]]
  exact hs
theorem chain_next {p : PlD} {R : List (List Int)} (hc : ChainI p R) {i : Nat} (hi : i < p.I.xs.length) (hr : i + 1 < R.length) {v w c : Int} {k : Nat} (hv : v ∈ R.getD i []) (hk : k < p.L.xs.length) (hs : Pn.stepP (plOf p) v p.I.xs[i] k = some (w, c)) : w ∈ R.getD (i + 1) [] := by
  refine ((hc.next i hr).2 w).2 ⟨v, hv, k, hk, c, ?_⟩
  rw [show p.I.xs.getD i 0 = p.I.xs[i] from by simp [List.getD, List.getElem?_eq_getElem hi]]
  exact hs
/-- The releases that the program finds. -/
noncomputable def rels (p : PlD) : List Int := (Pn.plan (plOf p) p.I.xs p.St).map fun k => p.L.xs.getD k 0
inductive SolveR (p : PlD) (w : World) : Value → Prop
  | bad : planB p = false → SolveR p w (.tuple #[.int .i64 0, .slice none 0 0, .int .i64 1])
  | limit : planB p = true → ¬ Fits p → SolveR p w (.tuple #[.int .i64 0, .slice none 0 0, .int .i64 6])
  | none : planB p = true → Fits p → Pn.V (plOf p) p.I.xs p.St = Option.none → SolveR p w (.tuple #[.int .i64 0, .slice none 0 0, .int .i64 12])
  | ok (m : Int) (u : Value) : planB p = true → Fits p → Pn.V (plOf p) p.I.xs p.St = some m → IsInts w u (rels p) → SolveR p w (.tuple #[.int .i64 m, u, .int .i64 0])

set_option maxRecDepth 100000 in
set_option maxHeartbeats 16000000 in
theorem psolve_any (p : PlD) (w : World) (hg : gPl w p) : Calls Tryz.prog 19 #[vPl p] w fun e w' => (∃ v, e = .returned v ∧ SolveR p w' v) ∧ Below w.heap.size w w' := by
  have hb0 : Below w.heap.size w (w.alloc (.cells (ePl p).toArray 68)) := (Below.refl _ _).alloc (Nat.le_refl _) _
  cases hP : planB p
  · have ht := tankOf_bad p _ (rdPl.mono hg hb0) hP
    have HP := Lib.hid hP
    clear hP
    go_enter Tryz.func19, Tryz.ntmps19
    go_wp2_with fail
    refine Calls.to ht ?_
    rintro e w1 rfl hb1
    have hbw := hb0.trans (hb1.mono hb0.size)
    go_wp2_with fail
    go_ret3
    exact ⟨⟨_, rfl, .bad HP.out⟩, hbw⟩
  have hp := planB_ok hP
  have ht := tankOf_ok p _ (rdPl.mono hg hb0) hP hp.tab hp.ll.2
  have HP := Lib.hid hP
  have HG := Lib.hid hg
  clear hP hg
  go_enter Tryz.func19, Tryz.ntmps19
  go_wp2_with fail
  refine Calls.to ht ?_
  rintro e w1 ⟨g, rfl, hT⟩ hb1
  have hbw := hb0.trans (hb1.mono hb0.size)
  obtain ⟨c0, _, _, c3, c4, _, _⟩ := boxPl w w1 68 p _ rfl _ rfl (hb1.mono (by simp))
  clear hb1 hb0 ht
  go_wp2_with fail
  refine Calls.to (preach_any p g w1 hT hp) ?_
  rintro e w2 h hb2
  have hbw2 := hbw.trans (hb2.mono hbw.size)
  have c0 := cel_lt c0 hb2
  have c3 := cel_lt c3 hb2
  have c4 := cel_lt c4 hb2
  have hT2 := hT.mono hb2
  clear hb2 hT
  rcases h with ⟨u, us, R, rfl, hR, hC, hRl⟩ | ⟨rfl, hnf⟩
  rotate_left
  · go_wp2_with fail
    go_ret3
    exact ⟨⟨_, rfl, .limit HP.out hnf⟩, hbw2⟩
  go_wp2_with fail
  refine Calls.to (pvalues_any p g _ u us R w2 hT2 hp hR hC hRl) ?_
  rintro e w3 ⟨bs, rfl, hVR⟩ hb3
  have hbw3 := hbw2.trans (hb3.mono hbw2.size)
  have c0 := cel_lt c0 hb3
  have c3 := cel_lt c3 hb3
  have c4 := cel_lt c4 hb3
  have hT3 := hT2.mono hb3
  have hfit : Fits p := ⟨R, hC, hRl⟩
  have hbl : bs.length = R.length := by have := hVR.len; omega
  have hb0' : 0 < bs.length := by omega
  have cV := maps_cell hVR.out (q := 0) hb0'
  have hm0 := hVR.maps 0 hb0'
  rw [Nat.add_zero] at hm0 cV
  have hF : valF p 0 (R.getD 0 []) p.St = Pn.V (plOf p) p.I.xs p.St := by
    rw [hC.first]; simp [valF]
  have hsw := wfI (k := p.St) (by have := hp.st; have := hp.cp; have := hp.rs; omega)
  have hlk : ∀ nq, (Instr.lookup 65 (.map (some (bs[0]'hb0'))) (.int .i64 p.St) true).run Tryz.prog (w3.drewN nq) = .ok (.tuple #[.int .i64 ((Pn.V (plOf p) p.I.xs p.St).getD 0), .bool (Pn.V (plOf p) p.I.xs p.St).isSome]) (w3.drewN nq) := fun nq => by
    rw [← hF]; exact (hm0.below (below_drewN (Below.refl _ _) nq)).look hsw
  obtain ⟨m, hm⟩ : ∃ m, m = R.length := ⟨_, rfl⟩
  rw [← hm]
  obtain ⟨b0, hbe⟩ : ∃ b0, b0 = bs[0]'hb0' := ⟨_, rfl⟩
  rw [← hbe] at cV hlk
  have i1 : (0 : Int) < m := by omega
  have HVR := Lib.hid hVR
  have HC := Lib.hid hC
  have HFI := Lib.hid hfit
  have HT := Lib.hid hT3
  have HRL := Lib.hid hRl
  have HM := Lib.hid hm
  have HBL := Lib.hid hbl
  clear hVR hm0 hF hbe hm hR hC hRl hfit hT2 hT3 hb3 hbl
  cases hV : Pn.V (plOf p) p.I.xs p.St with
  | none =>
    rw [hV] at hlk
    simp only [Option.getD_none, Option.isSome_none] at hlk
    have HV := Lib.hid hV
    clear hV
    go_wp2_with fail
    go_quiet (fail)
    go_wp2_with fail
    go_ret3
    exact ⟨⟨_, rfl, .none HP.out HFI.out HV.out⟩, below_drewN hbw3 _⟩
  | some mm =>
    rw [hV] at hlk
    simp only [Option.getD_some, Option.isSome_some] at hlk
    have HV := Lib.hid hV
    clear hV
    go_wp2_with fail
    go_quiet (fail)
    have hbW : Below w3.heap.size w3 (w3.drewN nq) := below_drewN (Below.refl _ _) nq
    have hbw4 := hbw3.trans (hbW.mono hbw3.size)
    have c0 := cel_lt c0 hbW
    have c3 := cel_lt c3 hbW
    have c4 := cel_lt c4 hbW
    have HVW := Lib.hid (HVR.out.kept (grown_none hbW none) (by simp) (fun _ _ => by simp))
    have HTW := Lib.hid (HT.out.mono hbW)
    clear hlk cV hbW
    generalize w3.drewN nq = W at *
    go_wp2_with fail
    clear c0
    go_loopw [3, 9, 49] (fun s3 s9 s49 wr => ∃ (i : Nat) (vol : Int) (ks : List Nat), i ≤ p.I.xs.length ∧ s49 = .int .i64 i ∧ s9 = .int .i64 vol ∧ Below W.heap.size W wr ∧ Own W.heap.size 3 eInt 1 wr s3 (ks.map fun k => p.L.xs.getD k 0) ∧
      Hid (Pn.plan (plOf p) p.I.xs p.St = ks ++ Pn.plan (plOf p) (p.I.xs.drop i) vol) ∧ Hid (vol ∈ R.getD i []) ∧ Hid (∃ y, Pn.V (plOf p) (p.I.xs.drop i) vol = some y) ∧ Hid (ks.length = i)) (fun _ _ s49 _ => p.I.xs.length - (RowKit.intOf s49).toNat)
    case atStart => exact ⟨0, p.St, [], Nat.zero_le _, rfl, rfl, Below.refl _ _, World.ownsRow_nil _ _ _ _, Lib.hid rfl, Lib.hid (by rw [HC.out.first]; simp), Lib.hid ⟨mm, HV.out⟩, Lib.hid rfl⟩
    case round =>
      obtain ⟨i, vol, ks, hi, rfl, rfl, hb, hown, hpl, hvol, hval, hkl⟩ := hrel
      have hbr := hbw4.trans (hb.mono hbw4.size)
      by_cases hin : i < p.I.xs.length
      · have hir : i + 1 < R.length := by have := HRL.out; omega
        have hib : i + 1 < bs.length := by have := HBL.out; omega
        have hvb := HC.out.bd _ (getD_mem (R := R) (i := i) (by omega)) vol hvol.out
        have hmN := (HVW.out.maps (i + 1) hib).below hb
        have cN := cel_lt (maps_cell HVW.out.out hib) hb
        rw [Nat.zero_add] at hmN cN
        have hbest := pbest_any p g _ 4000 _ i vol wr (HTW.out.mono hb) hp hvb hin hmN (valF_small hp (HC.out.bd _ (getD_mem hir)))
        rw [best_eq HC.out hin hir hvol.out] at hbest
        obtain ⟨y, hy⟩ := hval.out
        have hdr := List.drop_eq_getElem_cons hin
        rw [hdr, Pn.V] at hy
        cases hbb : Pn.best (plOf p) (Pn.V (plOf p) (p.I.xs.drop (i + 1))) vol p.I.xs[i] with
        | none => rw [hbb] at hy; cases hy
        | some z =>
          obtain ⟨k, c⟩ := z
          obtain ⟨⟨hkL, w0, c0, y0, hs, hv0, hc⟩, _⟩ := Pn.bestK_some _ k c hbb
          have hkL2 : k < p.L.xs.length := hkL
          have hpl2 : Pn.plan (plOf p) p.I.xs p.St = (ks ++ [k]) ++ Pn.plan (plOf p) (p.I.xs.drop (i + 1)) w0 := by
            rw [hpl.out, hdr, Pn.plan, hbb]
            simp [hs]
          have hstep := fun W' (h : Below wr.heap.size wr W') => pstep_any p g vol i k W' ((HTW.out.mono hb).mono h) hp hvb hin hkL2
          simp only [hs, stV] at hstep
          have hw0 := chain_next HC.out hin hir hvol.out hkL2 hs
          rw [hbb] at hbest
          simp only [bsV] at hbest
          obtain ⟨lb, lo, ea, dL⟩ := (HG.out.l.2.2.1.mono hbr).int k hkL2
          obtain ⟨lk, hlk⟩ : ∃ lk, lk = p.L.xs[k] := ⟨_, rfl⟩
          have hys1 : (ks ++ [k]).map (fun k => p.L.xs.getD k 0) = (ks.map fun k => p.L.xs.getD k 0) ++ [lk] := by
            rw [List.map_append, hlk]; simp [List.getD, List.getElem?_eq_getElem hkL2]
          rw [← hlk] at dL
          obtain ⟨oa, oc, hoe⟩ := hown.isSlice
          have hyl : (ks.map fun k => p.L.xs.getD k 0).length < 2147483648 := by rw [List.length_map, hkl.out]; have := hp.il; omega
          obtain ⟨ys, hys⟩ : ∃ ys, ys = ks.map fun k => p.L.xs.getD k 0 := ⟨_, rfl⟩
          rw [← hys] at hown hoe hyl hys1
          subst hoe
          have HPL2 := Lib.hid hpl2
          have HW0 := Lib.hid hw0
          have HV0 := Lib.hid hv0
          have HYS := Lib.hid hys1
          have HSS := Lib.hid hs
          obtain ⟨nb, hnb⟩ : ∃ nb, nb = bs[i + 1]'hib := ⟨_, rfl⟩
          rw [← hnb] at hbest cN
          have c4r := cel_lt c4 hb
          have i1 : decide (i < p.I.xs.length) = true := decide_eq_true hin
          have x7 : IntKind.i64.wrap ((i : Int) + 1) = i + 1 := IntWalk.i64_in _ (by have := hp.il; omega)
          have i2 : (0 : Int) ≤ (i : Int) + 1 := by omega
          have i3 : (i : Int) + 1 < m := by have := HM.out; omega
          have i4 : (0 : Int) ≤ k := by omega
          have i5 : (k : Int) < p.L.xs.length := by omega
          clear hmN hbb hpl2 hw0 hv0 hys1 hstep hlk hys hnb hy hdr hs hc
          go_wp2_with fail
          refine Calls.to hbest ?_
          rintro e w4 rfl hb4
          have hb4' := hb.trans (hb4.mono hb.size)
          have hown4 := hown.below hb4
          have c4q := cel_lt c4r hb4
          rw [ea] at c4q
          have dL4 := cel_lt dL hb4
          have h1c : ∀ u ∈ eInt lk, u.oneCell' = true := by simp [Value.oneCell']
          have hs4 : W.heap.size ≤ w4.heap.size := hb4'.size
          clear hbest cN hown c4r dL ea
          go_wp2_with (at_builtin; go_must (refine wpList_pushR rfl _ _ 28 rfl 3 _ 1 8 undInts infInt rfl (by decide) lk (fun _ => rfl) h1c _ ys rfl hown4 w4.heap.size rfl rfl hyl (by decide) hs4 _ rfl ?_); intro g5 k5 w5 hR5)
          have hb5W := hb4'.trans (hR5.below hown4 hs4)
          have hown5 := hR5.own
          have hstp5 := pstep_any p g vol i k w5 (HTW.out.mono hb5W) hp hvb hin hkL2
          rw [HSS.out] at hstp5
          simp only [stV] at hstp5
          refine Calls.to hstp5 ?_
          rintro e w6 rfl hb6
          have hb6W := hb5W.trans (hb6.mono hb5W.size)
          have hown6 := hown5.below hb6
          clear hstp5 hb6 hown5 hR5 hown4
          go_wp2_with fail
          go_roundw
          case measure => simp [RowKit.intOf, x7]; omega
          case rel => exact ⟨i + 1, w0, ks ++ [k], by omega, by go_num, rfl, hb6W, by rw [HYS.out]; exact hown6, HPL2, HW0, Lib.hid ⟨y0, HV0.out⟩, Lib.hid (by rw [List.length_append, hkl.out]; rfl)⟩
      · have i1 : decide (i < p.I.xs.length) = false := decide_eq_false hin
        have hdn : p.I.xs.drop i = [] := List.drop_eq_nil_of_le (by omega)
        have hrel : rels p = ks.map fun k => p.L.xs.getD k 0 := by
          unfold rels; rw [hpl.out, hdn]; simp [Pn.plan]
        have HREL := Lib.hid hrel
        have hI := hown.isL (fun _ => rfl)
        clear hrel hdn hown
        go_wp2_with fail
        go_ret3
        exact ⟨⟨_, rfl, .ok mm _ HP.out HFI.out HV.out (by rw [HREL.out]; exact hI)⟩, hbr⟩

end Go.Proofs.YtoiakijmbghhlaaGreat
