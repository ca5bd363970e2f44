/- Joined of the program. Conditions: the slice reads as a list. -/
import Derived.Test.YtdlaghjijfgncaaEvj0
namespace Go.Proofs.Ytdlaghjijfgncaa
open Go.RowKit
set_option linter.unusedVariables false
set_option linter.unusedSimpArgs false

def joinM (l : List Ev) (gap : Int) : List Ev × Int :=
  if validM l = false then ([], 1) else if gap < 0 ∨ 10000 < gap then ([], 2) else if (joinGo gap l [] false).2 = true then ([], 5) else ((joinGo gap l [] false).1, 0)

set_option maxRecDepth 100000 in
set_option maxHeartbeats 8000000 in
theorem join_any (l : List Ev) (v : Value) (gap : Int) (w : World) (hv : IsEvs w v l) :
    Calls Try.prog 25 #[v, .int .i64 gap] w fun e w' => (∃ v', e = .returned (.tuple #[v', .int .i64 (joinM l gap).2]) ∧ Own w.heap.size 34 eEv 4 w' v' (joinM l gap).1) ∧ Below w.heap.size w w' := by
  cases hr : validM l
  · rw [show joinM l gap = ([], 1) from by simp only [joinM, hr, if_true]]
    have HR := Lib.hid hr
    go_enter Try.func25, Try.ntmps25
    go_wp2_with fail
    refine Calls.to (evalid_any l _ _ hv) ?_
    rintro e w1 rfl hb1
    rw [HR.out]
    go_wp2_with fail
    go_ret2
    exact ⟨⟨_, rfl, World.ownsRow_nil _ _ _ _⟩, hb1⟩
  have HR := Lib.hid hr
  have hl := validM_len hr
  have hall := validM_all hr
  by_cases q1 : gap < 0
  · rw [show joinM l gap = ([], 2) from by simp only [joinM, hr, q1, true_or, if_true]; simp]
    have u1 := decide_eq_true q1
    go_enter Try.func25, Try.ntmps25
    go_wp2_with fail
    refine Calls.to (evalid_any l _ _ hv) ?_
    rintro e w1 rfl hb1
    rw [HR.out]
    go_wp2_with fail
    go_ret2
    exact ⟨⟨_, rfl, World.ownsRow_nil _ _ _ _⟩, hb1⟩
  have u1 := decide_eq_false q1
  by_cases q2 : 10000 < gap
  · rw [show joinM l gap = ([], 2) from by simp only [joinM, hr, q2, or_true, if_true]; simp]
    have u2 := decide_eq_true q2
    go_enter Try.func25, Try.ntmps25
    go_wp2_with fail
    refine Calls.to (evalid_any l _ _ hv) ?_
    rintro e w1 rfl hb1
    rw [HR.out]
    go_wp2_with fail
    go_ret2
    exact ⟨⟨_, rfl, World.ownsRow_nil _ _ _ _⟩, hb1⟩
  have u2 := decide_eq_false q2
  obtain ⟨⟨R, B⟩, HRES⟩ : ∃ r, Hid (joinGo gap l [] false = r) := ⟨_, rfl⟩
  rw [show joinM l gap = (if B = true then [] else R, if B = true then 5 else 0) from by
    simp only [joinM, hr, q1, q2, or_self, if_false, HRES.out]
    cases B <;> simp]
  obtain ⟨a, cap, rfl, hcap, hbig, hs⟩ := hv
  have hv : IsEvs w (.slice a l.length cap) l := ⟨a, cap, rfl, hcap, hbig, hs⟩
  have g0 : 0 ≤ gap := by omega
  have g1 : gap ≤ 10000 := by omega
  clear hr q1 q2
  go_enter Try.func25, Try.ntmps25
  go_wp2_with fail
  refine Calls.to (evalid_any l _ _ hv) ?_
  rintro e w1 rfl hb1
  rw [HR.out]
  clear hv
  go_wp2_with fail
  go_loopw [6, 24] (fun s6 s24 wr => ∃ (k : Nat) (out : List Ev), k ≤ l.length ∧ s24 = .int .i64 k ∧ JOk k out ∧
      Own w.heap.size 34 eEv 4 wr s6 out ∧ Below w.heap.size w wr ∧ Hid ((R, B) = joinGo gap (l.drop k) out false)) (fun _ i _ => l.length - (intOf i).toNat)
  case atStart => exact ⟨0, [], Nat.zero_le _, rfl, ⟨by simp, by simp⟩, World.ownsRow_nil _ _ _ _, hb1, HRES.out.symm⟩
  case round =>
    as_aux_lemma =>
    obtain ⟨k, out, hk, rfl, hok, hown, hb, hm⟩ := hrel
    by_cases hlt : k < l.length
    · obtain ⟨bb, off, rfl, c1, c2, c3, c4⟩ := (hs.mono hb).ev k hlt
      have hx := hall _ (List.getElem_mem hlt)
      have hdrop : Hid (l.drop k = l[k] :: l.drop (k + 1)) := List.drop_eq_getElem_cons hlt
      clear hs hall
      generalize l[k] = x at *
      have HS : Hid ((R, B) = joinGo gap (l.drop (k + 1)) (jStep gap x out) (jBig gap x out)) := hm.out.trans (by rw [hdrop.out]; simp only [joinGo, Bool.false_or])
      clear hm hdrop
      have hol := hok.len
      have x1 : IntKind.i64.wrap ((k : Int) + 1) = k + 1 := IntWalk.i64_in _ (by omega)
      have hz := hb.size
      have hbA : Below w.heap.size w (wr.alloc (.cells #[.int .i64 x.From, .int .i64 x.To, .int .i64 x.Total, .int .i64 x.Peak] 34)) := hb.alloc hb.size _
      have hbA' : Below wr.heap.size wr (wr.alloc (.cells #[.int .i64 x.From, .int .i64 x.To, .int .i64 x.Total, .int .i64 x.Peak] 34)) := (Below.refl _ _).alloc (Nat.le_refl _) _
      obtain ⟨v1, v2, v3, v4, v5, v6⟩ := hx
      have hx : EvR x := ⟨v1, v2, v3, v4, v5, v6⟩
      by_cases hne : 0 < out.length
      · obtain ⟨n, hn⟩ : ∃ n, out.length = n + 1 := ⟨out.length - 1, by omega⟩
        obtain ⟨g, cap2, rfl, hbg, hgl, hc1, hc2⟩ := hown.place hne
        have hnl : n < out.length := by omega
        obtain ⟨E, hE⟩ : ∃ E, Hid (out[n]'hnl = E) := ⟨out[n]'hnl, rfl⟩
        have hEm : E ∈ out := by rw [← hE.out]; exact List.getElem_mem hnl
        obtain ⟨z1, z2, z3, z4⟩ := hok.all E hEm
        have d1 := hown.cellAt' eEv_len n 1 (by omega) (by omega)
        have d2 := hown.cellAt' eEv_len n 2 (by omega) (by omega)
        have d3 := hown.cellAt' eEv_len n 3 (by omega) (by omega)
        rw [hE.out] at d1 d2 d3
        simp at d1 d2 d3
        have x2 : IntKind.i64.wrap (x.From - E.To) = x.From - E.To := IntWalk.i64_in _ (by omega)
        have x3 : IntKind.i64.wrap (E.Total + x.Total) = E.Total + x.Total := IntWalk.i64_in _ (by omega)
        rw [hn] at hown hc1 ⊢
        have Hn : Hid (out.length = n + 1) := hn
        have n0 : ((n : Int) + 1 == 0) = false := by rw [beq_eq_false_iff_ne]; omega
        have hnk : n + 1 ≤ k := by omega
        clear hn hol hne
        by_cases hq : gap ≤ x.From - E.To
        · have q := decide_eq_true hq
          have HF : Hid (jFar gap x out = true) := by show _ = _; rw [jFar_at Hn.out hE.out]; exact q
          have HST : Hid (jStep gap x out = out ++ [x]) := by show _ = _; unfold jStep; rw [HF.out]; rfl
          have HBG : Hid (jBig gap x out = false) := by show _ = _; unfold jBig; rw [HF.out]; rfl
          clear d2 d3 hq
          go_wp2_with fail
          go_quiet (fail)
          have hbW : Below wr.heap.size wr ((wr.alloc (.cells #[.int .i64 x.From, .int .i64 x.To, .int .i64 x.Total, .int .i64 x.Peak] 34)).drewN nq) := below_drewN hbA' nq
          have k0 : ((wr.alloc (.cells #[.int .i64 x.From, .int .i64 x.To, .int .i64 x.Total, .int .i64 x.Peak] 34)).drewN nq).cell? ⟨wr.heap.size, 0, none⟩ = some (.int .i64 x.From) := by simp [go_sem]
          have k1 : ((wr.alloc (.cells #[.int .i64 x.From, .int .i64 x.To, .int .i64 x.Total, .int .i64 x.Peak] 34)).drewN nq).cell? ⟨wr.heap.size, 1, none⟩ = some (.int .i64 x.To) := by simp [go_sem]
          have k2 : ((wr.alloc (.cells #[.int .i64 x.From, .int .i64 x.To, .int .i64 x.Total, .int .i64 x.Peak] 34)).drewN nq).cell? ⟨wr.heap.size, 2, none⟩ = some (.int .i64 x.Total) := by simp [go_sem]
          have k3 : ((wr.alloc (.cells #[.int .i64 x.From, .int .i64 x.To, .int .i64 x.Total, .int .i64 x.Peak] 34)).drewN nq).cell? ⟨wr.heap.size, 3, none⟩ = some (.int .i64 x.Peak) := by simp [go_sem]
          have hzW : w.heap.size ≤ ((wr.alloc (.cells #[.int .i64 x.From, .int .i64 x.To, .int .i64 x.Total, .int .i64 x.Peak] 34)).drewN nq).heap.size := Nat.le_trans hz hbW.size
          have hownW := hown.below hbW
          generalize (wr.alloc (.cells #[.int .i64 x.From, .int .i64 x.To, .int .i64 x.Total, .int .i64 x.Peak] 34)).drewN nq = W at *
          go_wp2_with (at_builtin; go_must (refine wpList_pushB rfl _ _ 27 rfl 34 _ 4 32 undEvs infEv rfl (by decide) x eEv_len (by simp [Value.oneCell']) _ out rfl hownW _ rfl rfl (by have := Hn.out; omega) (by decide) hzW _ rfl ?_); intro g3 cap3 w1 hown1 hbg1 hgl1 hb1 hc11 hc21)
          go_roundw
          case measure => simp [intOf]; omega
          case rel => exact ⟨k + 1, out ++ [x], by omega, by go_num, hok.push hx, hown1, (hb.trans (hbW.mono hb.size)).trans hb1, HS.out.trans (by rw [HST.out, HBG.out])⟩
        · have q := decide_eq_false hq
          have HF : Hid (jFar gap x out = false) := by show _ = _; rw [jFar_at Hn.out hE.out]; exact decide_eq_false hq
          have HST : Hid (jStep gap x out = out.set n (jMrg E x)) := by
            show _ = _
            unfold jStep
            rw [HF.out, lastEv_at Hn.out hE.out, Hn.out]
            simp
          have HBG : Hid (jBig gap x out = decide (1099511627776 < E.Total + x.Total)) := by
            show _ = _
            unfold jBig
            rw [HF.out, lastEv_at Hn.out hE.out]
            simp
          clear hq
          by_cases hp : E.Peak < x.Peak
          · have HM : Hid (jMrg E x = ⟨E.From, x.To, E.Total + x.Total, x.Peak⟩) := by show _ = _; unfold jMrg; rw [if_pos hp]
            go_wp2_with fail
            go_quiet (fail)
            have hbW : Below wr.heap.size wr ((wr.alloc (.cells #[.int .i64 x.From, .int .i64 x.To, .int .i64 x.Total, .int .i64 x.Peak] 34)).drewN nq) := below_drewN hbA' nq
            have k0 : ((wr.alloc (.cells #[.int .i64 x.From, .int .i64 x.To, .int .i64 x.Total, .int .i64 x.Peak] 34)).drewN nq).cell? ⟨wr.heap.size, 0, none⟩ = some (.int .i64 x.From) := by simp [go_sem]
            have k1 : ((wr.alloc (.cells #[.int .i64 x.From, .int .i64 x.To, .int .i64 x.Total, .int .i64 x.Peak] 34)).drewN nq).cell? ⟨wr.heap.size, 1, none⟩ = some (.int .i64 x.To) := by simp [go_sem]
            have k2 : ((wr.alloc (.cells #[.int .i64 x.From, .int .i64 x.To, .int .i64 x.Total, .int .i64 x.Peak] 34)).drewN nq).cell? ⟨wr.heap.size, 2, none⟩ = some (.int .i64 x.Total) := by simp [go_sem]
            have k3 : ((wr.alloc (.cells #[.int .i64 x.From, .int .i64 x.To, .int .i64 x.Total, .int .i64 x.Peak] 34)).drewN nq).cell? ⟨wr.heap.size, 3, none⟩ = some (.int .i64 x.Peak) := by simp [go_sem]
            have hzW : w.heap.size ≤ ((wr.alloc (.cells #[.int .i64 x.From, .int .i64 x.To, .int .i64 x.Total, .int .i64 x.Peak] 34)).drewN nq).heap.size := Nat.le_trans hz hbW.size
            have hownW := hown.below hbW
            generalize (wr.alloc (.cells #[.int .i64 x.From, .int .i64 x.To, .int .i64 x.Total, .int .i64 x.Peak] 34)).drewN nq = W at *
            have d1 := box_lt d1 hbW
            have d2 := box_lt d2 hbW
            have d3 := box_lt d3 hbW
            have f1 := hownW.free (n * 4 + 1)
            have f2 := hownW.free (n * 4 + 2)
            have f3 := hownW.free (n * 4 + 3)
            have hst := (hownW.store3 n (by have := Hn.out; omega) x.To (E.Total + x.Total) x.Peak).below ((Below.refl _ _).drew)
            rw [hE.out] at hst
            have HSTT := Lib.hid hst
            have hbZ := hb.trans (hbW.mono hb.size)
            have HBZ : Hid (Below w.heap.size w ((((W.setCell ⟨g, n * 4 + 1, none⟩ (.int .i64 x.To)).setCell ⟨g, n * 4 + 2, none⟩ (.int .i64 (E.Total + x.Total))).setCell ⟨g, n * 4 + 3, none⟩ (.int .i64 x.Peak)).drew)) := (((hbZ.setCell (by exact hbg) _).setCell (by exact hbg) _).setCell (by exact hbg) _).drew
            have HJO := Lib.hid (HM.out ▸ hok.mrg (n := n) hx hEm)
            have hne4 : wr.heap.size ≠ g := Nat.ne_of_gt hgl
            clear hst hbZ hbA hbA' hok hbW
            cases hbg2 : decide (1099511627776 < E.Total + x.Total)
            rotate_left
            · have HB2 := Lib.hid (HBG.out.trans hbg2)
              have HBIG : Hid (B = true) := by
                show _ = _
                have h5 := congrArg Prod.snd HS.out
                rw [HST.out, HB2.out] at h5
                exact h5.trans (joinGo_true _ _ _)
              go_wp2_with fail
              go_region
              go_wp2_with fail
              go_ret2
              first | exact ⟨⟨_, rfl, World.ownsRow_nil _ _ _ _⟩, HBZ.out⟩ | exact ⟨⟨_, by simp only [HBIG.out]; rfl, by simp only [HBIG.out]; exact World.ownsRow_nil _ _ _ _⟩, HBZ.out⟩
            have HB2 := Lib.hid (HBG.out.trans hbg2)
            go_wp2_with fail
            go_region
            go_wp2_with fail
            go_roundw
            case measure => simp [intOf]; omega
            case rel => exact ⟨k + 1, _, by omega, by go_num, HJO.out, HSTT.out, HBZ.out, HS.out.trans (by rw [HST.out, HB2.out, HM.out]; try rfl)⟩
          · have HM : Hid (jMrg E x = ⟨E.From, x.To, E.Total + x.Total, E.Peak⟩) := by show _ = _; unfold jMrg; rw [if_neg hp]
            go_wp2_with fail
            go_quiet (fail)
            have hbW : Below wr.heap.size wr ((wr.alloc (.cells #[.int .i64 x.From, .int .i64 x.To, .int .i64 x.Total, .int .i64 x.Peak] 34)).drewN nq) := below_drewN hbA' nq
            have k0 : ((wr.alloc (.cells #[.int .i64 x.From, .int .i64 x.To, .int .i64 x.Total, .int .i64 x.Peak] 34)).drewN nq).cell? ⟨wr.heap.size, 0, none⟩ = some (.int .i64 x.From) := by simp [go_sem]
            have k1 : ((wr.alloc (.cells #[.int .i64 x.From, .int .i64 x.To, .int .i64 x.Total, .int .i64 x.Peak] 34)).drewN nq).cell? ⟨wr.heap.size, 1, none⟩ = some (.int .i64 x.To) := by simp [go_sem]
            have k2 : ((wr.alloc (.cells #[.int .i64 x.From, .int .i64 x.To, .int .i64 x.Total, .int .i64 x.Peak] 34)).drewN nq).cell? ⟨wr.heap.size, 2, none⟩ = some (.int .i64 x.Total) := by simp [go_sem]
            have k3 : ((wr.alloc (.cells #[.int .i64 x.From, .int .i64 x.To, .int .i64 x.Total, .int .i64 x.Peak] 34)).drewN nq).cell? ⟨wr.heap.size, 3, none⟩ = some (.int .i64 x.Peak) := by simp [go_sem]
            have hzW : w.heap.size ≤ ((wr.alloc (.cells #[.int .i64 x.From, .int .i64 x.To, .int .i64 x.Total, .int .i64 x.Peak] 34)).drewN nq).heap.size := Nat.le_trans hz hbW.size
            have hownW := hown.below hbW
            generalize (wr.alloc (.cells #[.int .i64 x.From, .int .i64 x.To, .int .i64 x.Total, .int .i64 x.Peak] 34)).drewN nq = W at *
            have d1 := box_lt d1 hbW
            have d2 := box_lt d2 hbW
            have d3 := box_lt d3 hbW
            have f1 := hownW.free (n * 4 + 1)
            have f2 := hownW.free (n * 4 + 2)
            have f3 := hownW.free (n * 4 + 3)
            have hst := (hownW.store3 n (by have := Hn.out; omega) x.To (E.Total + x.Total) E.Peak).below ((Below.refl _ _).drew)
            rw [hE.out] at hst
            have HSTT := Lib.hid hst
            have hbZ := hb.trans (hbW.mono hb.size)
            have HBZ : Hid (Below w.heap.size w ((((W.setCell ⟨g, n * 4 + 1, none⟩ (.int .i64 x.To)).setCell ⟨g, n * 4 + 2, none⟩ (.int .i64 (E.Total + x.Total))).setCell ⟨g, n * 4 + 3, none⟩ (.int .i64 E.Peak)).drew)) := (((hbZ.setCell (by exact hbg) _).setCell (by exact hbg) _).setCell (by exact hbg) _).drew
            have HJO := Lib.hid (HM.out ▸ hok.mrg (n := n) hx hEm)
            have hne4 : wr.heap.size ≠ g := Nat.ne_of_gt hgl
            clear hst hbZ hbA hbA' hok hbW
            cases hbg2 : decide (1099511627776 < E.Total + x.Total)
            rotate_left
            · have HB2 := Lib.hid (HBG.out.trans hbg2)
              have HBIG : Hid (B = true) := by
                show _ = _
                have h5 := congrArg Prod.snd HS.out
                rw [HST.out, HB2.out] at h5
                exact h5.trans (joinGo_true _ _ _)
              go_wp2_with fail
              go_region
              go_wp2_with fail
              go_ret2
              first | exact ⟨⟨_, rfl, World.ownsRow_nil _ _ _ _⟩, HBZ.out⟩ | exact ⟨⟨_, by simp only [HBIG.out]; rfl, by simp only [HBIG.out]; exact World.ownsRow_nil _ _ _ _⟩, HBZ.out⟩
            have HB2 := Lib.hid (HBG.out.trans hbg2)
            go_wp2_with fail
            go_region
            go_wp2_with fail
            go_roundw
            case measure => simp [intOf]; omega
            case rel => exact ⟨k + 1, _, by omega, by go_num, HJO.out, HSTT.out, HBZ.out, HS.out.trans (by rw [HST.out, HB2.out, HM.out]; try rfl)⟩
      · obtain rfl : out = [] := List.eq_nil_of_length_eq_zero (by omega)
        obtain ⟨a5, c5, rfl⟩ := hown.isSlice
        have HST : Hid (jStep gap x [] = [x]) := rfl
        have HBG : Hid (jBig gap x [] = false) := rfl
        go_wp2_with fail
        go_quiet (fail)
        have hbW : Below wr.heap.size wr ((wr.alloc (.cells #[.int .i64 x.From, .int .i64 x.To, .int .i64 x.Total, .int .i64 x.Peak] 34)).drewN nq) := below_drewN hbA' nq
        have k0 : ((wr.alloc (.cells #[.int .i64 x.From, .int .i64 x.To, .int .i64 x.Total, .int .i64 x.Peak] 34)).drewN nq).cell? ⟨wr.heap.size, 0, none⟩ = some (.int .i64 x.From) := by simp [go_sem]
        have k1 : ((wr.alloc (.cells #[.int .i64 x.From, .int .i64 x.To, .int .i64 x.Total, .int .i64 x.Peak] 34)).drewN nq).cell? ⟨wr.heap.size, 1, none⟩ = some (.int .i64 x.To) := by simp [go_sem]
        have k2 : ((wr.alloc (.cells #[.int .i64 x.From, .int .i64 x.To, .int .i64 x.Total, .int .i64 x.Peak] 34)).drewN nq).cell? ⟨wr.heap.size, 2, none⟩ = some (.int .i64 x.Total) := by simp [go_sem]
        have k3 : ((wr.alloc (.cells #[.int .i64 x.From, .int .i64 x.To, .int .i64 x.Total, .int .i64 x.Peak] 34)).drewN nq).cell? ⟨wr.heap.size, 3, none⟩ = some (.int .i64 x.Peak) := by simp [go_sem]
        have hzW : w.heap.size ≤ ((wr.alloc (.cells #[.int .i64 x.From, .int .i64 x.To, .int .i64 x.Total, .int .i64 x.Peak] 34)).drewN nq).heap.size := Nat.le_trans hz hbW.size
        have hownW := hown.below hbW
        generalize (wr.alloc (.cells #[.int .i64 x.From, .int .i64 x.To, .int .i64 x.Total, .int .i64 x.Peak] 34)).drewN nq = W at *
        go_wp2_with (at_builtin; go_must (refine wpList_pushB rfl _ _ 27 rfl 34 _ 4 32 undEvs infEv rfl (by decide) x eEv_len (by simp [Value.oneCell']) _ [] rfl hownW _ rfl rfl (by simp) (by decide) hzW _ rfl ?_); intro g3 cap3 w1 hown1 hbg1 hgl1 hb1 hc11 hc21)
        go_roundw
        case measure => simp [intOf]; omega
        case rel => exact ⟨k + 1, [x], by omega, by go_num, hok.push hx, hown1, (hb.trans (hbW.mono hb.size)).trans hb1, HS.out.trans (by rw [HST.out, HBG.out])⟩
    · obtain rfl : k = l.length := by omega
      rw [List.drop_eq_nil_of_le (Nat.le_refl _)] at hm
      have h2 := hm.out
      simp only [joinGo, Prod.mk.injEq] at h2
      obtain ⟨rfl, rfl⟩ := h2
      clear hm HRES hs
      go_wp2_with fail
      go_ret2
      exact ⟨⟨_, rfl, hown⟩, hb⟩

end Go.Proofs.Ytdlaghjijfgncaa
