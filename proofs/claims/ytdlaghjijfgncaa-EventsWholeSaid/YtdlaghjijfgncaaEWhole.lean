/- The law EventsWhole returns true for every record and every number, and leaves its arguments as they were. Conditions: none beyond the row's own. -/
import Derived.Test.YtdlaghjijfgncaaRows
import Derived.WalkKit
import Derived.ProofKit
import Derived.OpenShut
import Derived.ShutString
import Derived.ChangeOld
import Derived.Below
import Derived.Test.YtdlaghjijfgncaaEvw
import Derived.Test.YtdlaghjijfgncaaEvwl
import Derived.Test.YtdlaghjijfgncaaEvol
import Derived.Test.YtdlaghjijfgncaaEvp
import Derived.Test.YtdlaghjijfgncaaRowk
namespace Go.Proofs.Ytdlaghjijfgncaa.eventsWhole
open Go.ChangeShapes Go.WideShapes Go.ChangeAt Go.RowKit
set_option linter.unusedVariables false
set_option linter.unusedSimpArgs false
open Go.ChangeMaps (open_string shut_string)
set_option linter.unusedVariables false

theorem own : ownKnob Try.prog.godebug = none := by kernel_rfl
theorem laidOut : laidOutB Try.prog = true := by kernel_rfl

theorem totSum_bd {l : List Ev} (h : ∀ e ∈ l, 0 ≤ e.Total ∧ e.Total ≤ 41943040000) : 0 ≤ totSum l ∧ totSum l ≤ 41943040000 * (l.length : Int) := by
  induction l with
  | nil => simp [totSum]
  | cons x r ih =>
    have h1 := ih (fun e he => h e (List.mem_cons_of_mem _ he))
    have h2 := h x (by simp)
    simp only [totSum, List.length_cons]
    omega
theorem covN_len (l : List Ev) (j : Nat) : covN l j ≤ l.length := List.length_filter_le _ _
theorem covN_one (x : Ev) (F T j : Nat) (hf : x.From = F) (ht : x.To = T) : covN [x] j = if F ≤ j ∧ j < T then 1 else 0 := by
  unfold covN
  rw [List.filter_cons]
  by_cases h : F ≤ j ∧ j < T
  · rw [if_pos h, if_pos (by simp only [Bool.and_eq_true, decide_eq_true_eq]; omega)]
    simp
  · rw [if_neg h, if_neg (by simp only [Bool.and_eq_true, decide_eq_true_eq]; omega)]
    simp
set_option maxRecDepth 100000 in
set_option maxHeartbeats 8000000 in
theorem walk (v0 : Value) (s : Ser) (dry : Int) (w : World) (w0 : v0 = vSer s ∧ gSer w s) (w1 : (Lit.int .i64 dry).wf = true) :
    Calls Try.prog 3 #[v0, .int .i64 dry] w fun e w' => e = .returned (.bool true) ∧ Below w.heap.size w w' := by
  obtain ⟨rfl, hg⟩ := w0
  clear w1
  have HV : Hid (IsInts w (vSl s.Ds) s.Ds.xs) := hg.2.2.isL
  clear hg
  have HIS : Hid (IsC eInt 1 w s.Ds.a s.Ds.xs) := by
    obtain ⟨a0, c0, ea, _, _, h⟩ := HV.out
    simp only [vSl, Value.slice.injEq] at ea
    rw [ea.1]; exact h
  have hb0 : Below w.heap.size w (w.alloc (.cells (eSer s).toArray 24)) := (Below.refl _ _).alloc (Nat.le_refl _) _
  obtain ⟨⟨L, E⟩, HS⟩ : ∃ r, Hid (splitM s dry 0 = r) := ⟨_, rfl⟩
  go_enter Try.func3, Try.ntmps3
  go_wp2_with fail
  refine Calls.to (eawake_any _) ?_
  rintro e w1 rfl hb1
  have hbb1 := hb0.trans (hb1.mono hb0.size)
  obtain ⟨e0, e1, e2⟩ := boxSer w w1 24 s _ rfl _ rfl (by simpa using hb1)
  clear hb1
  go_wp2_with fail
  refine Calls.go hbb1 (few_any s _) ?_
  rintro e w2 rfl hb2' hb2
  have e0 := box_lt e0 hb2'
  have e1 := box_lt e1 hb2'
  have e2 := box_lt e2 hb2'
  clear hb2' hbb1
  cases hf : fewB s
  · go_wp2_with fail
    go_ret
    exact ⟨rfl, hb2⟩
  have HLEN : Hid (s.Ds.xs.length ≤ 200) := by
    show _ ≤ _
    simp only [fewB, decide_eq_true_eq] at hf
    omega
  clear hf
  go_wp2_with fail
  refine Calls.go hb2 (split_any s dry 0 _ (HV.out.mono hb2)) ?_
  rintro e w3 ⟨v3, rfl, hown3⟩ hb3' hb3
  rw [HS.out] at hown3 ⊢
  have e0 := box_lt e0 hb3'
  have e1 := box_lt e1 hb3'
  have e2 := box_lt e2 hb3'
  have hse : IsEvs w3 v3 L := hown3.isL eEv_len
  clear hown3 hb3' hb2
  obtain ⟨la, lc, rfl⟩ := hse.isSl
  have hbadE : (serB s.From s.Step s.Ds.xs = false ∨ (dry < 1 ∨ 10000 < dry)) ∨ (serB s.From s.Step s.Ds.xs = true ∧ 1 ≤ dry ∧ dry ≤ 10000) := by
    cases serB s.From s.Step s.Ds.xs
    · exact .inl (.inl rfl)
    · by_cases q : dry < 1 ∨ 10000 < dry
      · exact .inl (.inr q)
      · exact .inr ⟨rfl, by omega, by omega⟩
  rcases hbadE with hbad | ⟨hr, ha1, ha2⟩
  · have HS2 : L = [] ∧ (E = 1 ∨ E = 2) := by
      have h := HS.out
      cases hr : serB s.From s.Step s.Ds.xs
      · simp only [splitM, hr, if_true, Prod.mk.injEq] at h
        exact ⟨h.1.symm, .inl h.2.symm⟩
      · rw [hr] at hbad
        have hb2 : dry < 1 ∨ 10000 < dry := hbad.resolve_left (by simp)
        simp only [splitM, hr] at h
        rw [if_neg (by simp), if_pos (by omega)] at h
        simp only [Prod.mk.injEq] at h
        exact ⟨h.1.symm, .inr h.2.symm⟩
    obtain ⟨rfl, rfl | rfl⟩ := HS2
    all_goals
      clear HS hse hbad
      go_wp2_with fail
      go_ret
      exact ⟨rfl, hb3⟩
  have HXX := Lib.hid hr
  have hdep : ∀ d ∈ s.Ds.xs, d ≤ 4194304 := by
    intro d hd
    obtain ⟨i, hi, rfl⟩ := List.getElem_of_mem hd
    exact (serB_dep hr i hi).2
  have HDEP := Lib.hid hdep
  have hlen := HLEN.out
  have hok := split_ok (dry := dry) hdep
  have hw := whole_law s.Ds.xs dry ha1
  have HCW := Lib.hid (fun j hj => covN_wet (ds := s.Ds.xs) ha1 j hj)
  have HS2 := HS.out.symm.trans (show splitM s dry 0 = (splitGo dry s.Ds.xs 0 [], 0) from by
    simp only [splitM, HXX.out]
    rw [if_neg (by simp), if_neg (by omega), split_all HDEP.out, if_neg (by have := hok.1; omega)])
  simp only [Prod.mk.injEq] at HS2
  obtain ⟨hL, rfl⟩ := HS2
  rw [← hL] at hok hw HCW
  have HW := Lib.hid hw
  have HOK := Lib.hid hok
  have HDRY := Lib.hid (And.intro ha1 ha2)
  have HTM : Hid (totM s = ((sumS s.Ds.xs, (missN s.Ds.xs : Int)), 0)) := by show _ = _; simp only [totM, HXX.out]; simp
  obtain ⟨_, _, el, ql1, ql2, hse0⟩ := hse
  simp only [Value.slice.injEq] at el
  obtain ⟨rfl, _, rfl⟩ := el
  have HLL : Hid (L.length ≤ 200) := Nat.le_trans hok.1 hlen
  clear hdep hok hw hL hr HS ha1 ha2 hlen
  go_wp2_with fail
  refine Calls.go hb3 (total_any s _ (HV.out.mono hb3)) ?_
  rintro e w5 rfl hb5' hb5
  rw [HTM.out]
  have E2 := Lib.hid (box_lt e2 hb5')
  have e2 := E2.out
  have QL : Hid (IsC eEv 4 w5 la L) := hse0.mono hb5'
  clear hb5' hb3 e0 e1 hse0 ql1 ql2
  have hwl : w.heap.size < w5.heap.size := lt_of_isSome (a := ⟨w.heap.size, 2, none⟩) (by rw [E2.out]; rfl)
  have hll : s.Ds.xs.length < 2147483648 := by have := HLEN.out; omega
  have HSB : Hid (∀ F k, F ≤ k → k ≤ s.Ds.xs.length → 0 ≤ sumTo s.Ds.xs k - sumTo s.Ds.xs F ∧ sumTo s.Ds.xs k - sumTo s.Ds.xs F ≤ 4194304 * 200) := by
    have hmono : ∀ k, k ≤ s.Ds.xs.length → 0 ≤ sumTo s.Ds.xs k ∧ sumTo s.Ds.xs k ≤ 4194304 * (k : Int) ∧ ∀ F, F ≤ k → sumTo s.Ds.xs F ≤ sumTo s.Ds.xs k := by
      intro k
      induction k with
      | zero => intro _; simp [sumTo, sumS]
      | succ k ih =>
        intro hk
        obtain ⟨a, b, c⟩ := ih (by omega)
        have hd := wetS_bd (HDEP.out _ (List.getElem_mem (show k < s.Ds.xs.length by omega)))
        rw [sumTo_step (by omega)]
        refine ⟨by omega, by omega, fun F hF => ?_⟩
        by_cases h : F = k + 1
        · subst h; rw [sumTo_step (by omega)]; omega
        · have := c F (by omega); omega
    intro F k hF hk
    obtain ⟨a, b, c⟩ := hmono k hk
    obtain ⟨a', _, _⟩ := hmono F (by omega)
    have := c F hF
    have := HLEN.out
    omega
  go_wp2_with (refine wpList_mk _ rfl _ _ 22 rfl w5.heap.size 3 _ 8 undInts infInt eInt 0 rfl rfl _ _ s.Ds.xs.length rfl rfl rfl rfl hll (by omega) (Nat.le_refl _) ?_; intro w6 hown6 hb6 hlt6)
  have hbb6 := hb5.trans (hb6.mono hb5.size)
  go_loopw [11, 49] (fun s11 s49 wr => ∃ (i : Nat) (M : List Int), i ≤ L.length ∧ s49 = .int .i64 i ∧ s11 = .int .i64 (totSum (L.take i)) ∧ Own w5.heap.size 3 eInt 1 wr (.slice (some ⟨w5.heap.size, 0, none⟩) s.Ds.xs.length s.Ds.xs.length) M ∧ Below w.heap.size w wr ∧ Below w5.heap.size w5 wr ∧
    Hid (M.length = s.Ds.xs.length) ∧ Hid (∀ j (h : j < M.length), M[j] = (covN (L.take i) j : Int))) (fun _ i _ => L.length - (intOf i).toNat)
  case atStart => exact ⟨0, _, Nat.zero_le _, rfl, rfl, hown6, hbb6, hb6, by simp [Hid], by intro j h; simp [covN]⟩
  case round =>
    as_aux_lemma =>
    obtain ⟨i, M, hi, rfl, rfl, hown, hb, hbw, HML, HM⟩ := hrel
    have hlen := HLEN.out
    have hllen := HLL.out
    have e2 := box_lt E2.out hbw
    have htb := totSum_bd (l := L.take i) (fun e he => by
      have := HOK.out.2 e (List.mem_of_mem_take he)
      have h1 := this.p1
      have h2 := this.pt
      have h3 := this.tt
      omega)
    have htl : (L.take i).length ≤ 200 := by simp; omega
    by_cases hlt : i < L.length
    · have HIL := Lib.hid (show i < 200 by omega)
      obtain ⟨b, off, rfl, c1, c2, c3, c4⟩ := (QL.out.mono hbw).ev i hlt
      obtain ⟨F, T, hwe⟩ := HW.out.each _ (List.getElem_mem hlt)
      have hxo := HOK.out.2 _ (List.getElem_mem hlt)
      have hxt1 := hxo.p1
      have hxt2 := hxo.pt
      have hxt3 := hxo.tt
      have HWS : Hid (IntKind.i64.wrap (totSum (L.take i) + L[i].Total) = totSum (L.take i) + L[i].Total) := IntWalk.i64_in _ (by omega)
      have hft := hwe.ft
      have htk := hwe.tk
      have hF : F < s.Ds.xs.length := by omega
      have hT : T - 1 < s.Ds.xs.length := by omega
      obtain ⟨bS, offS, eaS, cF⟩ := (HIS.out.mono hb).int F hF
      have cT : wr.cell? ⟨bS, offS + (T - 1), none⟩ = some (.int .i64 s.Ds.xs[T - 1]) := by
        have h := HIS.out.mono hb
        rw [eaS] at h
        exact h.intAt (T - 1) hT
      rw [eaS] at e2
      have rF := decide_eq_false (show ¬ s.Ds.xs[F] ≤ 0 by have := hwe.wf; rw [getD_at hF] at this; omega)
      have rT := decide_eq_false (show ¬ s.Ds.xs[T - 1] ≤ 0 by have := hwe.wt; rw [getD_at hT] at this; omega)
      obtain ⟨x, HX⟩ : ∃ x, Hid (L[i] = x) := ⟨L[i], by show L[i] = L[i]; rfl⟩
      obtain ⟨E, hE⟩ : ∃ E : Ev, Hid (L.getD (i - 1) default = E) := ⟨_, rfl⟩
      have hgap : 0 < i → E.To + dry ≤ L[i].From ∧ E.To ≤ 10000 ∧ 0 ≤ E.To ∧ wr.cell? ⟨b, off + (i - 1) * 4 + 1, none⟩ = some (.int .i64 E.To) := by
        intro h0
        have hpl : i - 1 < L.length := by omega
        have hEE : L[i - 1] = E := by rw [← hE.out]; simp [List.getD, List.getElem?_eq_getElem hpl]
        have c := ((QL.out.mono hbw).ev' (i - 1) hpl).2.1
        rw [hEE] at c
        have hg := List.pairwise_iff_getElem.1 HW.out.pw (i - 1) i hpl hlt (by omega)
        rw [hEE] at hg
        have hb3 := HOK.out.2 E (by rw [← hEE]; exact List.getElem_mem _)
        have h1 := hb3.f0
        have h2 := hb3.ft
        have h3 := hb3.tk
        exact ⟨hg, by omega, by omega, c⟩
      rw [hwe.f] at c1 hgap
      rw [hwe.t] at c2
      have HWE := Lib.hid hwe
      clear hE hwe hxo
      rw [HX.out] at HWE HWS c3 c4
      clear hxt1 hxt2 hxt3 htb htl
      have x1 : IntKind.i64.wrap ((i : Int) + 1) = i + 1 := IntWalk.i64_in _ (by omega)
      have r3 := decide_eq_false (show ¬ (F : Int) < 0 by omega)
      have r4 := decide_eq_false (show ¬ (T : Int) ≤ (F : Int) by omega)
      have r4' := decide_eq_false (show ¬ T ≤ F by omega)
      have r5 := decide_eq_false (show ¬ (s.Ds.xs.length : Int) < (T : Int) by omega)
      have r5' := decide_eq_false (show ¬ s.Ds.xs.length < T by omega)
      have hbA : Below w.heap.size w (wr.alloc (.cells #[.int .i64 (F : Int), .int .i64 (T : Int), .int .i64 x.Total, .int .i64 x.Peak] 34)) := hb.alloc hb.size _
      have hbA4 : Below w5.heap.size w5 (wr.alloc (.cells #[.int .i64 (F : Int), .int .i64 (T : Int), .int .i64 x.Total, .int .i64 x.Peak] 34)) := hbw.alloc hbw.size _
      have hrl : w5.heap.size < wr.heap.size := by
        by_cases h0 : 0 < M.length
        · obtain ⟨g, cap, e, _, hg, _, _⟩ := hown.place h0
          simp only [Value.slice.injEq, Option.some.injEq, Addr.mk.injEq] at e
          omega
        · have := HML.out; omega
      clear hb hbw
      have i1F : (F : Int) < s.Ds.xs.length := by omega
      have i0F : (0 : Int) ≤ F := by omega
      have wT1 : IntKind.i64.wrap ((T : Int) - 1) = (T : Int) - 1 := IntWalk.i64_in _ (by omega)
      by_cases hi0 : i = 0
      · have g2 : decide (0 < i) = false := by simp <;> omega
        have g3 : decide ((0 : Int) < i) = false := by simp <;> omega
        clear hgap hi0
        go_wp2_with fail
        have wT2 : ((T : Int) - 1).toNat = T - 1 := by omega
        have wT3 : 0 ≤ (T : Int) - 1 := by omega
        have wT4 : (T : Int) - 1 < s.Ds.xs.length := by omega
        go_wp2_with fail
        go_quiet (fail)
        have hbW : Below w.heap.size w ((wr.alloc (.cells #[.int .i64 (F : Int), .int .i64 (T : Int), .int .i64 x.Total, .int .i64 x.Peak] 34)).drewN nq) := below_drewN hbA nq
        have hbW4 : Below w5.heap.size w5 ((wr.alloc (.cells #[.int .i64 (F : Int), .int .i64 (T : Int), .int .i64 x.Total, .int .i64 x.Peak] 34)).drewN nq) := below_drewN hbA4 nq
        have k0 : ((wr.alloc (.cells #[.int .i64 (F : Int), .int .i64 (T : Int), .int .i64 x.Total, .int .i64 x.Peak] 34)).drewN nq).cell? ⟨wr.heap.size, 0, none⟩ = some (.int .i64 (F : Int)) := by simp [go_sem]
        have k1 : ((wr.alloc (.cells #[.int .i64 (F : Int), .int .i64 (T : Int), .int .i64 x.Total, .int .i64 x.Peak] 34)).drewN nq).cell? ⟨wr.heap.size, 1, none⟩ = some (.int .i64 (T : Int)) := by simp [go_sem]
        have k2 : ((wr.alloc (.cells #[.int .i64 (F : Int), .int .i64 (T : Int), .int .i64 x.Total, .int .i64 x.Peak] 34)).drewN nq).cell? ⟨wr.heap.size, 2, none⟩ = some (.int .i64 x.Total) := by simp [go_sem]
        have k3 : ((wr.alloc (.cells #[.int .i64 (F : Int), .int .i64 (T : Int), .int .i64 x.Total, .int .i64 x.Peak] 34)).drewN nq).cell? ⟨wr.heap.size, 3, none⟩ = some (.int .i64 x.Peak) := by simp [go_sem]
        have hownW := hown.below (below_drewN ((Below.refl wr.heap.size wr).alloc (Nat.le_refl _) (.cells #[.int .i64 (F : Int), .int .i64 (T : Int), .int .i64 x.Total, .int .i64 x.Peak] 34)) nq)
        have hXG : wr.heap.size ≠ w5.heap.size := by omega
        have hXl : w5.heap.size < wr.heap.size := by omega
        generalize wr.heap.size = XB at *
        generalize (wr.alloc (.cells #[.int .i64 (F : Int), .int .i64 (T : Int), .int .i64 x.Total, .int .i64 x.Peak] 34)).drewN nq = W1 at *
        clear hbA hbA4 hown e2 cF cT
        clear wT1 wT2 wT3 wT4 rF rT r3 r4 r4' r5 r5' i1F i0F
        have hW0 : 0 < dry := by have := HDRY.out; omega
        go_wp2_with fail
        go_loopw [14, 15, 16, 17] (fun s14 s15 s16 s17 wq => ∃ (k : Nat) (M : List Int), F ≤ k ∧ k ≤ T ∧ s17 = .int .i64 k ∧ s14 = .int .i64 (sumTo s.Ds.xs k - sumTo s.Ds.xs F) ∧ s15 = .int .i64 (pkN s.Ds.xs F k) ∧ s16 = .int .i64 (runN s.Ds.xs F k) ∧
          Own w5.heap.size 3 eInt 1 wq (.slice (some ⟨w5.heap.size, 0, none⟩) s.Ds.xs.length s.Ds.xs.length) M ∧ Below w.heap.size w wq ∧ Below w5.heap.size w5 wq ∧
          wq.cell? ⟨XB, 1, none⟩ = some (.int .i64 (T : Int)) ∧ wq.cell? ⟨XB, 2, none⟩ = some (.int .i64 x.Total) ∧ wq.cell? ⟨XB, 3, none⟩ = some (.int .i64 x.Peak) ∧
          Hid (M.length = s.Ds.xs.length) ∧ Hid (∀ j (h : j < M.length), M[j] = (covN (L.take i) j : Int) + if F ≤ j ∧ j < k then 1 else 0)) (fun _ _ _ q _ => T - (intOf q).toNat)
        case atStart => exact ⟨F, M, Nat.le_refl _, by omega, rfl, by simp, by rw [pkN_self], by rw [runN_self]; rfl, hownW, hbW, hbW4, k1, k2, k3, HML, by intro j h; rw [HM.out j h, if_neg (by omega)]; simp⟩
        case round =>
          as_aux_lemma =>
          obtain ⟨k, M, kl, kh, rfl, rfl, rfl, rfl, hown, hb, hbw, k1, k2, k3, HML, HM⟩ := hrel
          have hlen := HLEN.out
          have hdr := HDRY.out
          by_cases hkx : k < T
          · have r1 := decide_eq_true hkx
            have r1' := decide_eq_true (show (k : Int) < (T : Int) by omega)
            have hkl : k < s.Ds.xs.length := by omega
            have hkM : k < M.length := by have := HML.out; omega
            obtain ⟨b3, off3, ea, c0⟩ := (HIS.out.mono hb).int k hkl
            have e2 := box_lt E2.out hbw
            rw [ea] at e2
            have hb3 : b3 < w5.heap.size := by
              obtain ⟨b', off', ea', c'⟩ := (HIS.out.mono hb5).int k hkl
              rw [ea] at ea'
              simp only [Option.some.injEq, Addr.mk.injEq, and_true] at ea'
              obtain ⟨rfl, rfl⟩ := ea'
              exact World.block_lt_of_cell? w5 _ c'
            have hb3G : b3 ≠ w5.heap.size := by omega
            have hBG : w.heap.size ≠ w5.heap.size := by omega
            have cm := hown.cellAt' (k := 1) (fun _ => rfl) k 0 hkM (by decide)
            have fm := hown.free k
            simp at cm
            have hcv := covN_le (dry := dry) (by omega) (HW.out.pw.sublist (List.take_sublist i L)) k
            have hMk := HM.out k hkM
            rw [if_neg (by omega)] at hMk
            have hst := hown.store (k := 1) (fun _ => rfl) k 0 hkM (by decide) (.int .i64 (M[k] + 1)) (M[k] + 1) (by simp)
            simp only [Nat.mul_one, Nat.add_zero] at hst
            have HST := Lib.hid hst
            have HM2 : Hid (∀ j (h : j < (M.set k (M[k] + 1)).length), (M.set k (M[k] + 1))[j] = (covN (L.take i) j : Int) + if F ≤ j ∧ j < k + 1 then 1 else 0) := by
              intro j hj
              have hj' : j < M.length := by simpa using hj
              by_cases hjk : k = j
              · subst hjk
                rw [List.getElem_set_self, hMk, if_pos (by omega)]; omega
              · rw [List.getElem_set_ne hjk, HM.out j hj']
                congr 1
                by_cases h1 : F ≤ j ∧ j < k
                · rw [if_pos h1, if_pos (by omega)]
                · rw [if_neg h1, if_neg (by omega)]
            have HML2 : Hid ((M.set k (M[k] + 1)).length = s.Ds.xs.length) := by show _ = _; rw [List.length_set]; exact HML.out
            have SS := Lib.hid (sumTo_step hkl)
            have SP := Lib.hid (pkN_step kl hkl)
            have SR := Lib.hid (runN_step kl hkl)
            have hrk := HWE.out.run k kl hkx
            have hd4 := HDEP.out _ (List.getElem_mem hkl)
            have hpn := pkN_nn s.Ds.xs F k kl (by omega)
            have hs1 := HSB.out F k kl (by omega)
            have hrb : (runN s.Ds.xs F k : Int) ≤ 10000 := by
              by_cases h0 : F = k
              · rw [h0, runN_self]; omega
              · have := HWE.out.run (k - 1) (by omega) (by omega)
                rw [show k - 1 + 1 = k from by omega] at this
                have := hdr.2
                omega
            have x1 : IntKind.i64.wrap ((k : Int) + 1) = k + 1 := IntWalk.i64_in _ (by omega)
            have x2 : IntKind.i64.wrap (M[k] + 1) = M[k] + 1 := IntWalk.i64_in _ (by omega)
            have x3 : IntKind.i64.wrap ((runN s.Ds.xs F k : Int) + 1) = (runN s.Ds.xs F k : Int) + 1 := IntWalk.i64_in _ (by omega)
            have HBZ : Hid (Below w.heap.size w (wr.setCell ⟨w5.heap.size, k, none⟩ (.int .i64 (M[k] + 1))) ∧ Below w5.heap.size w5 (wr.setCell ⟨w5.heap.size, k, none⟩ (.int .i64 (M[k] + 1)))) := ⟨hb.setCell (by exact hb5.size) _, hbw.setCell (Nat.le_refl _) _⟩
            have HKS : Hid ((wr.setCell ⟨w5.heap.size, k, none⟩ (.int .i64 (M[k] + 1))).cell? ⟨XB, 1, none⟩ = some (.int .i64 (T : Int)) ∧ (wr.setCell ⟨w5.heap.size, k, none⟩ (.int .i64 (M[k] + 1))).cell? ⟨XB, 2, none⟩ = some (.int .i64 x.Total) ∧ (wr.setCell ⟨w5.heap.size, k, none⟩ (.int .i64 (M[k] + 1))).cell? ⟨XB, 3, none⟩ = some (.int .i64 x.Peak)) := ⟨cell_elsewhere k1 _ _ hXG, cell_elsewhere k2 _ _ hXG, cell_elsewhere k3 _ _ hXG⟩
            clear hst hown hcv hMk hb3 HM hb hbw
            generalize M[k] = m at *
            rw [show sumTo s.Ds.xs (k + 1) = sumTo s.Ds.xs k + wetS s.Ds.xs[k] from SS.out] at SS
            generalize runN s.Ds.xs F k = rn at *
            generalize pkN s.Ds.xs F k = pk at *
            by_cases hd : 0 < s.Ds.xs[k]
            · have hw := wetS_pos hd
              rw [hw] at SP
              have SS2 := Lib.hid (sumTo_step hkl)
              rw [hw] at SS2
              rw [if_pos hd] at SR
              have SR2 := Lib.hid SR.out
              rw [SR.out] at hrk
              clear SS
              generalize s.Ds.xs[k] = d at *
              have y1 : max 0 d = d := by omega
              have r2 := decide_eq_true hd
              have r3 := decide_eq_false (show ¬ dry ≤ 0 by omega)
              have x4 : IntKind.i64.wrap (sumTo s.Ds.xs k - sumTo s.Ds.xs F + d) = sumTo s.Ds.xs k - sumTo s.Ds.xs F + d := IntWalk.i64_in _ (by omega)
              clear hd hw
              go_wp2_with fail
              go_roundw
              case measure => simp [intOf]; omega
              case rel => exact ⟨k + 1, _, by omega, by omega, by go_num, by rw [SS2.out]; congr 1; omega, by rw [SP.out], by rw [SR2.out]; rfl, HST.out, HBZ.out.1, HBZ.out.2, HKS.out.1, HKS.out.2.1, HKS.out.2.2, HML2, HM2⟩
            · have hw := wetS_neg hd
              rw [hw] at SP
              have SS2 := Lib.hid (sumTo_step hkl)
              rw [hw] at SS2
              rw [if_neg hd] at SR
              have SR2 := Lib.hid SR.out
              rw [SR.out] at hrk
              clear SS
              generalize s.Ds.xs[k] = d at *
              have y1 : max 0 d = 0 := by omega
              have y2 : max pk 0 = pk := by omega
              have r3 := decide_eq_false (show ¬ dry ≤ (rn : Int) + 1 by omega)
              have x4 : IntKind.i64.wrap (sumTo s.Ds.xs k - sumTo s.Ds.xs F + 0) = sumTo s.Ds.xs k - sumTo s.Ds.xs F := (IntWalk.i64_in _ (by omega)).trans (by omega)
              have x5 : IntKind.i64.wrap (sumTo s.Ds.xs k - sumTo s.Ds.xs F) = sumTo s.Ds.xs k - sumTo s.Ds.xs F := IntWalk.i64_in _ (by omega)
              clear hd hw
              go_wp2_with fail
              go_roundw
              case measure => simp [intOf]; omega
              case rel => exact ⟨k + 1, _, by omega, by omega, by go_num, by rw [SS2.out]; congr 1; omega, by rw [SP.out, y2], by rw [SR2.out]; go_num, HST.out, HBZ.out.1, HBZ.out.2, HKS.out.1, HKS.out.2.1, HKS.out.2.2, HML2, HM2⟩
          · obtain rfl : k = T := by omega
            have r1 := decide_eq_false (show ¬ k < k by omega)
            have r1' := decide_eq_false (show ¬ (k : Int) < (k : Int) by omega)
            rw [← HWE.out.tot, ← HWE.out.pk]
            have HMZ : Hid (∀ j (h : j < M.length), M[j] = (covN (L.take (i + 1)) j : Int)) := by
              intro j hj
              rw [HM.out j hj, List.take_succ_eq_append_getElem hlt, covN_app, HX.out, covN_one x F k j HWE.out.f HWE.out.t]
              split <;> simp
            have HTS : Hid (totSum (L.take (i + 1)) = totSum (L.take i) + x.Total) := by show _ = _; rw [totSum_step hlt, HX.out]
            have xs1 : IntKind.i64.wrap (totSum (L.take i) + x.Total) = totSum (L.take i) + x.Total := HWS.out
            have x1 : IntKind.i64.wrap ((i : Int) + 1) = i + 1 := IntWalk.i64_in _ (by have := HIL.out; omega)
            clear HM
            go_wp2_with fail
            go_roundw
            case measure => simp [intOf]; omega
            case rel => exact ⟨i + 1, M, by omega, by go_num, by rw [HTS.out], hown, hb, hbw, HML, HMZ⟩
      · have hi1 : 0 < i := by omega
        obtain ⟨y2, y3, y4, c5⟩ := hgap hi1
        have g2 : decide (0 < i) = true := by simp <;> omega
        have g3 : decide ((0 : Int) < i) = true := by simp <;> omega
        have g5 := decide_eq_false (show ¬ (F : Int) - E.To < dry by omega)
        have w1' : IntKind.i64.wrap ((i : Int) - 1) = (i : Int) - 1 := IntWalk.i64_in _ (by omega)
        have w5' : IntKind.i64.wrap ((F : Int) - E.To) = (F : Int) - E.To := IntWalk.i64_in _ (by omega)
        clear hgap hi0 y2 y3 y4
        go_wp2_with fail
        have w2' : ((i : Int) - 1).toNat = i - 1 := by omega
        have w3' : 0 ≤ (i : Int) - 1 := by omega
        have w4' : (i : Int) - 1 < L.length := by omega
        have wT2 : ((T : Int) - 1).toNat = T - 1 := by omega
        have wT3 : 0 ≤ (T : Int) - 1 := by omega
        have wT4 : (T : Int) - 1 < s.Ds.xs.length := by omega
        go_wp2_with fail
        go_quiet (fail)
        have hbW : Below w.heap.size w ((wr.alloc (.cells #[.int .i64 (F : Int), .int .i64 (T : Int), .int .i64 x.Total, .int .i64 x.Peak] 34)).drewN nq) := below_drewN hbA nq
        have hbW4 : Below w5.heap.size w5 ((wr.alloc (.cells #[.int .i64 (F : Int), .int .i64 (T : Int), .int .i64 x.Total, .int .i64 x.Peak] 34)).drewN nq) := below_drewN hbA4 nq
        have k0 : ((wr.alloc (.cells #[.int .i64 (F : Int), .int .i64 (T : Int), .int .i64 x.Total, .int .i64 x.Peak] 34)).drewN nq).cell? ⟨wr.heap.size, 0, none⟩ = some (.int .i64 (F : Int)) := by simp [go_sem]
        have k1 : ((wr.alloc (.cells #[.int .i64 (F : Int), .int .i64 (T : Int), .int .i64 x.Total, .int .i64 x.Peak] 34)).drewN nq).cell? ⟨wr.heap.size, 1, none⟩ = some (.int .i64 (T : Int)) := by simp [go_sem]
        have k2 : ((wr.alloc (.cells #[.int .i64 (F : Int), .int .i64 (T : Int), .int .i64 x.Total, .int .i64 x.Peak] 34)).drewN nq).cell? ⟨wr.heap.size, 2, none⟩ = some (.int .i64 x.Total) := by simp [go_sem]
        have k3 : ((wr.alloc (.cells #[.int .i64 (F : Int), .int .i64 (T : Int), .int .i64 x.Total, .int .i64 x.Peak] 34)).drewN nq).cell? ⟨wr.heap.size, 3, none⟩ = some (.int .i64 x.Peak) := by simp [go_sem]
        have hownW := hown.below (below_drewN ((Below.refl wr.heap.size wr).alloc (Nat.le_refl _) (.cells #[.int .i64 (F : Int), .int .i64 (T : Int), .int .i64 x.Total, .int .i64 x.Peak] 34)) nq)
        have hXG : wr.heap.size ≠ w5.heap.size := by omega
        have hXl : w5.heap.size < wr.heap.size := by omega
        generalize wr.heap.size = XB at *
        generalize (wr.alloc (.cells #[.int .i64 (F : Int), .int .i64 (T : Int), .int .i64 x.Total, .int .i64 x.Peak] 34)).drewN nq = W1 at *
        clear hbA hbA4 hown e2 cF cT
        clear w1' w2' w3' w4' w5' g5 c5 wT1 wT2 wT3 wT4 rF rT r3 r4 r4' r5 r5' i1F i0F
        have hW0 : 0 < dry := by have := HDRY.out; omega
        go_wp2_with fail
        go_loopw [14, 15, 16, 17] (fun s14 s15 s16 s17 wq => ∃ (k : Nat) (M : List Int), F ≤ k ∧ k ≤ T ∧ s17 = .int .i64 k ∧ s14 = .int .i64 (sumTo s.Ds.xs k - sumTo s.Ds.xs F) ∧ s15 = .int .i64 (pkN s.Ds.xs F k) ∧ s16 = .int .i64 (runN s.Ds.xs F k) ∧
          Own w5.heap.size 3 eInt 1 wq (.slice (some ⟨w5.heap.size, 0, none⟩) s.Ds.xs.length s.Ds.xs.length) M ∧ Below w.heap.size w wq ∧ Below w5.heap.size w5 wq ∧
          wq.cell? ⟨XB, 1, none⟩ = some (.int .i64 (T : Int)) ∧ wq.cell? ⟨XB, 2, none⟩ = some (.int .i64 x.Total) ∧ wq.cell? ⟨XB, 3, none⟩ = some (.int .i64 x.Peak) ∧
          Hid (M.length = s.Ds.xs.length) ∧ Hid (∀ j (h : j < M.length), M[j] = (covN (L.take i) j : Int) + if F ≤ j ∧ j < k then 1 else 0)) (fun _ _ _ q _ => T - (intOf q).toNat)
        case atStart => exact ⟨F, M, Nat.le_refl _, by omega, rfl, by simp, by rw [pkN_self], by rw [runN_self]; rfl, hownW, hbW, hbW4, k1, k2, k3, HML, by intro j h; rw [HM.out j h, if_neg (by omega)]; simp⟩
        case round =>
          as_aux_lemma =>
          obtain ⟨k, M, kl, kh, rfl, rfl, rfl, rfl, hown, hb, hbw, k1, k2, k3, HML, HM⟩ := hrel
          have hlen := HLEN.out
          have hdr := HDRY.out
          by_cases hkx : k < T
          · have r1 := decide_eq_true hkx
            have r1' := decide_eq_true (show (k : Int) < (T : Int) by omega)
            have hkl : k < s.Ds.xs.length := by omega
            have hkM : k < M.length := by have := HML.out; omega
            obtain ⟨b3, off3, ea, c0⟩ := (HIS.out.mono hb).int k hkl
            have e2 := box_lt E2.out hbw
            rw [ea] at e2
            have hb3 : b3 < w5.heap.size := by
              obtain ⟨b', off', ea', c'⟩ := (HIS.out.mono hb5).int k hkl
              rw [ea] at ea'
              simp only [Option.some.injEq, Addr.mk.injEq, and_true] at ea'
              obtain ⟨rfl, rfl⟩ := ea'
              exact World.block_lt_of_cell? w5 _ c'
            have hb3G : b3 ≠ w5.heap.size := by omega
            have hBG : w.heap.size ≠ w5.heap.size := by omega
            have cm := hown.cellAt' (k := 1) (fun _ => rfl) k 0 hkM (by decide)
            have fm := hown.free k
            simp at cm
            have hcv := covN_le (dry := dry) (by omega) (HW.out.pw.sublist (List.take_sublist i L)) k
            have hMk := HM.out k hkM
            rw [if_neg (by omega)] at hMk
            have hst := hown.store (k := 1) (fun _ => rfl) k 0 hkM (by decide) (.int .i64 (M[k] + 1)) (M[k] + 1) (by simp)
            simp only [Nat.mul_one, Nat.add_zero] at hst
            have HST := Lib.hid hst
            have HM2 : Hid (∀ j (h : j < (M.set k (M[k] + 1)).length), (M.set k (M[k] + 1))[j] = (covN (L.take i) j : Int) + if F ≤ j ∧ j < k + 1 then 1 else 0) := by
              intro j hj
              have hj' : j < M.length := by simpa using hj
              by_cases hjk : k = j
              · subst hjk
                rw [List.getElem_set_self, hMk, if_pos (by omega)]; omega
              · rw [List.getElem_set_ne hjk, HM.out j hj']
                congr 1
                by_cases h1 : F ≤ j ∧ j < k
                · rw [if_pos h1, if_pos (by omega)]
                · rw [if_neg h1, if_neg (by omega)]
            have HML2 : Hid ((M.set k (M[k] + 1)).length = s.Ds.xs.length) := by show _ = _; rw [List.length_set]; exact HML.out
            have SS := Lib.hid (sumTo_step hkl)
            have SP := Lib.hid (pkN_step kl hkl)
            have SR := Lib.hid (runN_step kl hkl)
            have hrk := HWE.out.run k kl hkx
            have hd4 := HDEP.out _ (List.getElem_mem hkl)
            have hpn := pkN_nn s.Ds.xs F k kl (by omega)
            have hs1 := HSB.out F k kl (by omega)
            have hrb : (runN s.Ds.xs F k : Int) ≤ 10000 := by
              by_cases h0 : F = k
              · rw [h0, runN_self]; omega
              · have := HWE.out.run (k - 1) (by omega) (by omega)
                rw [show k - 1 + 1 = k from by omega] at this
                have := hdr.2
                omega
            have x1 : IntKind.i64.wrap ((k : Int) + 1) = k + 1 := IntWalk.i64_in _ (by omega)
            have x2 : IntKind.i64.wrap (M[k] + 1) = M[k] + 1 := IntWalk.i64_in _ (by omega)
            have x3 : IntKind.i64.wrap ((runN s.Ds.xs F k : Int) + 1) = (runN s.Ds.xs F k : Int) + 1 := IntWalk.i64_in _ (by omega)
            have HBZ : Hid (Below w.heap.size w (wr.setCell ⟨w5.heap.size, k, none⟩ (.int .i64 (M[k] + 1))) ∧ Below w5.heap.size w5 (wr.setCell ⟨w5.heap.size, k, none⟩ (.int .i64 (M[k] + 1)))) := ⟨hb.setCell (by exact hb5.size) _, hbw.setCell (Nat.le_refl _) _⟩
            have HKS : Hid ((wr.setCell ⟨w5.heap.size, k, none⟩ (.int .i64 (M[k] + 1))).cell? ⟨XB, 1, none⟩ = some (.int .i64 (T : Int)) ∧ (wr.setCell ⟨w5.heap.size, k, none⟩ (.int .i64 (M[k] + 1))).cell? ⟨XB, 2, none⟩ = some (.int .i64 x.Total) ∧ (wr.setCell ⟨w5.heap.size, k, none⟩ (.int .i64 (M[k] + 1))).cell? ⟨XB, 3, none⟩ = some (.int .i64 x.Peak)) := ⟨cell_elsewhere k1 _ _ hXG, cell_elsewhere k2 _ _ hXG, cell_elsewhere k3 _ _ hXG⟩
            clear hst hown hcv hMk hb3 HM hb hbw
            generalize M[k] = m at *
            rw [show sumTo s.Ds.xs (k + 1) = sumTo s.Ds.xs k + wetS s.Ds.xs[k] from SS.out] at SS
            generalize runN s.Ds.xs F k = rn at *
            generalize pkN s.Ds.xs F k = pk at *
            by_cases hd : 0 < s.Ds.xs[k]
            · have hw := wetS_pos hd
              rw [hw] at SP
              have SS2 := Lib.hid (sumTo_step hkl)
              rw [hw] at SS2
              rw [if_pos hd] at SR
              have SR2 := Lib.hid SR.out
              rw [SR.out] at hrk
              clear SS
              generalize s.Ds.xs[k] = d at *
              have y1 : max 0 d = d := by omega
              have r2 := decide_eq_true hd
              have r3 := decide_eq_false (show ¬ dry ≤ 0 by omega)
              have x4 : IntKind.i64.wrap (sumTo s.Ds.xs k - sumTo s.Ds.xs F + d) = sumTo s.Ds.xs k - sumTo s.Ds.xs F + d := IntWalk.i64_in _ (by omega)
              clear hd hw
              go_wp2_with fail
              go_roundw
              case measure => simp [intOf]; omega
              case rel => exact ⟨k + 1, _, by omega, by omega, by go_num, by rw [SS2.out]; congr 1; omega, by rw [SP.out], by rw [SR2.out]; rfl, HST.out, HBZ.out.1, HBZ.out.2, HKS.out.1, HKS.out.2.1, HKS.out.2.2, HML2, HM2⟩
            · have hw := wetS_neg hd
              rw [hw] at SP
              have SS2 := Lib.hid (sumTo_step hkl)
              rw [hw] at SS2
              rw [if_neg hd] at SR
              have SR2 := Lib.hid SR.out
              rw [SR.out] at hrk
              clear SS
              generalize s.Ds.xs[k] = d at *
              have y1 : max 0 d = 0 := by omega
              have y2 : max pk 0 = pk := by omega
              have r3 := decide_eq_false (show ¬ dry ≤ (rn : Int) + 1 by omega)
              have x4 : IntKind.i64.wrap (sumTo s.Ds.xs k - sumTo s.Ds.xs F + 0) = sumTo s.Ds.xs k - sumTo s.Ds.xs F := (IntWalk.i64_in _ (by omega)).trans (by omega)
              have x5 : IntKind.i64.wrap (sumTo s.Ds.xs k - sumTo s.Ds.xs F) = sumTo s.Ds.xs k - sumTo s.Ds.xs F := IntWalk.i64_in _ (by omega)
              clear hd hw
              go_wp2_with fail
              go_roundw
              case measure => simp [intOf]; omega
              case rel => exact ⟨k + 1, _, by omega, by omega, by go_num, by rw [SS2.out]; congr 1; omega, by rw [SP.out, y2], by rw [SR2.out]; go_num, HST.out, HBZ.out.1, HBZ.out.2, HKS.out.1, HKS.out.2.1, HKS.out.2.2, HML2, HM2⟩
          · obtain rfl : k = T := by omega
            have r1 := decide_eq_false (show ¬ k < k by omega)
            have r1' := decide_eq_false (show ¬ (k : Int) < (k : Int) by omega)
            rw [← HWE.out.tot, ← HWE.out.pk]
            have HMZ : Hid (∀ j (h : j < M.length), M[j] = (covN (L.take (i + 1)) j : Int)) := by
              intro j hj
              rw [HM.out j hj, List.take_succ_eq_append_getElem hlt, covN_app, HX.out, covN_one x F k j HWE.out.f HWE.out.t]
              split <;> simp
            have HTS : Hid (totSum (L.take (i + 1)) = totSum (L.take i) + x.Total) := by show _ = _; rw [totSum_step hlt, HX.out]
            have xs1 : IntKind.i64.wrap (totSum (L.take i) + x.Total) = totSum (L.take i) + x.Total := HWS.out
            have x1 : IntKind.i64.wrap ((i : Int) + 1) = i + 1 := IntWalk.i64_in _ (by have := HIL.out; omega)
            clear HM
            go_wp2_with fail
            go_roundw
            case measure => simp [intOf]; omega
            case rel => exact ⟨i + 1, M, by omega, by go_num, by rw [HTS.out], hown, hb, hbw, HML, HMZ⟩
    · obtain rfl : i = L.length := by omega
      have hsum := HW.out.sum
      rw [sumTo_all] at hsum
      rw [List.take_length, hsum]
      have HM2 : Hid (∀ j (h : j < M.length), M[j] = (covN L j : Int)) := by
        intro j h
        rw [HM.out j h, List.take_length]
      have HIW := HIS.out.mono hb
      have HOW := hown.isL (fun _ => rfl)
      obtain ⟨_, _, eo, _, _, qM⟩ := HOW
      simp only [Value.slice.injEq] at eo
      obtain ⟨rfl, _, _⟩ := eo
      have HSUM := Lib.hid hsum
      clear hsum HM htb htl hown
      generalize wr = W1 at *
      go_wp2_with fail
      go_loopw [158] (fun s158 wq => ∃ j : Nat, j ≤ s.Ds.xs.length ∧ s158 = .int .i64 j ∧ wq = W1) (fun q _ => s.Ds.xs.length - (intOf q).toNat)
      case atStart => exact ⟨0, Nat.zero_le _, rfl, rfl⟩
      case round =>
        as_aux_lemma =>
        obtain ⟨j, hj, rfl, rfl⟩ := hrel
        by_cases hlt : j < s.Ds.xs.length
        · obtain ⟨b3, off3, ea, c0⟩ := HIW.int j hlt
          have hjM : j < M.length := by have := HML.out; omega
          have cm := qM.intAt j hjM
          simp at cm
          have hmv := HM2.out j hjM
          have x1 : IntKind.i64.wrap ((j : Int) + 1) = j + 1 := IntWalk.i64_in _ (by omega)
          have hcw := HCW.out j hlt
          have hcl := covN_le (dry := dry) HDRY.out.1 HW.out.pw j
          rw [ea]
          rw [ea] at e2
          clear HIW qM
          generalize M[j] = m at *
          generalize s.Ds.xs[j] = d at *
          by_cases hd : 0 < d
          · have r1 := decide_eq_true hd
            obtain rfl : m = 1 := by rw [hmv, hcw hd]; rfl
            clear hmv hcw hcl hd
            go_wp2_with fail
            go_roundw
            case measure => simp [intOf]; omega
            case rel => exact ⟨j + 1, by omega, by go_num, by first | rfl | trivial⟩
          · have r1 := decide_eq_false hd
            have r2 := decide_eq_false (show ¬ 1 < m by omega)
            clear hmv hcw hcl hd
            go_wp2_with fail
            go_roundw
            case measure => simp [intOf]; omega
            case rel => exact ⟨j + 1, by omega, by go_num, by first | rfl | trivial⟩
        · go_wp2_with fail
          go_ret
          exact ⟨rfl, hb⟩

/-! ### The row -/
set_option maxRecDepth 100000 in
theorem lifted (os : Os) (started : os.Started) (H : Type) (enc : TypeId × Value → H) :
    ReturnsInHanded {} Try.checked os 3 .any (Rows.eventsWholeSpec.pre6 enc Try.prog Try.f3 Rows.eventsWholeRow.domain false) (Rows.eventsWholeSpec.post enc Try.prog Try.f3 false true false false) := by
  refine returnsInHanded_of_change (C := Try.checked) own started (by kernel_rfl) Try.func3
    (ChangeSpec.witness6 (enc := enc) (C := Try.checked) false ⟨#[], #[.agg #[.int .i64 0, .int .i64 0, .slice none 0 0], .int .i64 0], []⟩ 8 (by kernel_rfl) (by kernel_rfl) (by kernel_rfl) (by kernel_rfl)) ?_
  intro W base args ds gs before hval0 hW hcnd _
  have hval : ∀ (j : Nat) t v, Try.f3.params[j]? = some t → args[j]? = some v → Value.okWide Try.prog W .any base t v := hval0
  have hW' := hW
  obtain ⟨p, q, hA0, hV, rfl, hfz, hnd⟩ := hW
  have hA : DataW.TrodAll enc Try.prog W 0 (fun _ => true) true Try.f3.params.toList args.toList ds p := hA0
  rw [Try.params3] at hA hval
  obtain ⟨v0, vs0, d0, ds0, p0, q0, hargs, rfl, rfl, h0, r0⟩ := trodAll_cons hA
  obtain ⟨v1, vs1, d1, ds1, p1, q1, rfl, rfl, rfl, h1, r1⟩ := trodAll_cons r0
  obtain ⟨rfl, rfl, rfl⟩ := trodAll_nil r1
  obtain rfl : args = #[v0, v1] := by cases args; simp_all
  obtain ⟨rfl, rfl⟩ := trodVars_none hV
  have k0 := h0
  have lt0 : ∀ x ∈ p0, x.block < W.heap.size := by obtain ⟨m, hm⟩ := k0; exact DataW.trod_lt m _ _ _ hm
  obtain ⟨x0, w0⟩ := openSer (hval 0 24 v0 rfl rfl) h0
  obtain ⟨a1, rfl, rfl, rfl, w1⟩ := open_int Try.underlying3 (hval 1 3 v1 rfl rfl) h1
  clear hA0 hval0
  refine (walk v0 x0 a1 W w0 w1).mono fun e W' ⟨he, bel⟩ => ?_
  subst he
  exact ⟨_, rfl, _, _, _, [], _, [], hW', trodAll_mk1 (shut_bool Try.underlying4 _), (trodAll_cons_mk (Below.trod laidOut (by kernel_rfl) (of_decide_eq_true (by kernel_rfl)) k0 bel lt0) (trodAll_cons_mk (shut_int Try.underlying3 w1) trodAll_mk0)), rfl, bel.frame _, fun h => by cases h⟩

theorem over : Rows.eventsWholeRow.holds Try.pinned (OpenSpec.ofChange Rows.eventsWholeSpec) :=
  OpenClaim.holds_of_wide 3 Try.f3 rfl rfl rfl rfl rfl rfl rfl ⟨rfl, rfl, rfl, rfl, rfl⟩ rfl rfl rfl rfl rfl (by kernel_rfl) Try.func3 (by kernel_rfl)
    (of_decide_eq_true (by kernel_rfl)) (by unfold Func.isWrapper; first | (rw [if_pos (by decide +kernel)]; kernel_rfl) | (rw [if_neg (by decide +kernel)]; exact ⟨rfl, rfl⟩))
    (fun os started H enc _ => lifted os started H enc)

end Go.Proofs.Ytdlaghjijfgncaa.eventsWhole
namespace Go.Proofs.Ytdlaghjijfgncaa
/-- The statement. -/
theorem eventsWhole_holds : Rows.EventsWholeSaid := eventsWhole.over
#print axioms eventsWhole_holds
end Go.Proofs.Ytdlaghjijfgncaa
