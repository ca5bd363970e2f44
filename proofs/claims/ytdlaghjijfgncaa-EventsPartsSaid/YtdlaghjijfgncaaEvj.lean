/- Joined of the reference. Conditions: the list is right. -/
import Derived.Test.YtdlaghjijfgncaaEvj0
namespace Go.Proofs.Ytdlaghjijfgncaa
open Go.RowKit
set_option linter.unusedVariables false
set_option linter.unusedSimpArgs false

theorem below4 {B : Nat} {a w : World} (h : Below B a w) (g n : Nat) (hg : B ≤ g) (y : Ev) :
    Below B a ((((w.setCell ⟨g, n * 4, none⟩ (.int .i64 y.From)).setCell ⟨g, n * 4 + 1, none⟩ (.int .i64 y.To)).setCell ⟨g, n * 4 + 2, none⟩ (.int .i64 y.Total)).setCell ⟨g, n * 4 + 3, none⟩ (.int .i64 y.Peak)) :=
  (((h.setCell hg _).setCell hg _).setCell hg _).setCell hg _

set_option maxRecDepth 100000 in
set_option maxHeartbeats 8000000 in
theorem r21join_any (l : List Ev) (v : Value) (gap : Int) (w : World) (hv : IsEvs w v l) (hl : l.length ≤ 1000) (hall : ∀ x ∈ l, EvR x) (g0 : 0 ≤ gap) (g1 : gap ≤ 10000) :
    Calls Try.prog 27 #[v, .int .i64 gap] w fun e w' => (∃ v', e = .returned (.tuple #[v', .int .i64 (if (joinGo gap l [] false).2 then 5 else 0)]) ∧ Own w.heap.size 34 eEv 4 w' v' (if (joinGo gap l [] false).2 then [] else (joinGo gap l [] false).1)) ∧ Below w.heap.size w w' := by
  obtain ⟨a, cap, rfl, hcap, hbig, hs⟩ := hv
  have u1 : decide (gap < 0) = false := decide_eq_false (by omega)
  have u2 : decide (10000 < gap) = false := decide_eq_false (by omega)
  obtain ⟨⟨R, B⟩, HRES⟩ : ∃ r, Hid (joinGo gap l [] false = r) := ⟨_, rfl⟩
  rw [HRES.out]
  go_enter Try.func27, Try.ntmps27
  go_wp2_with fail
  go_loopw [6, 7, 8] (fun s6 s7 s8 wr => ∃ (k : Nat) (out : List Ev) (b : Bool), k ≤ l.length ∧ s8 = .int .i64 k ∧ s7 = .bool b ∧ JOk k out ∧
      Own w.heap.size 34 eEv 4 wr s6 out ∧ Below w.heap.size w wr ∧ Hid ((R, B) = joinGo gap (l.drop k) out b)) (fun _ _ i _ => l.length - (intOf i).toNat)
  case atStart => exact ⟨0, [], false, Nat.zero_le _, rfl, rfl, ⟨by simp, by simp⟩, World.ownsRow_nil _ _ _ _, Below.refl _ _, HRES.out.symm⟩
  case round =>
    as_aux_lemma =>
    obtain ⟨k, out, b, hk, rfl, rfl, hok, hown, hb, hm⟩ := hrel
    by_cases hlt : k < l.length
    · obtain ⟨bb, off, rfl, c1, c2, c3, c4⟩ := (hs.mono hb).ev k hlt
      have hx := hall _ (List.getElem_mem hlt)
      have hdrop : Hid (l.drop k = l[k] :: l.drop (k + 1)) := List.drop_eq_getElem_cons hlt
      clear hs hall
      generalize l[k] = x at *
      have HS : Hid ((R, B) = joinGo gap (l.drop (k + 1)) (jStep gap x out) (b || jBig gap x out)) := hm.out.trans (by rw [hdrop.out]; rfl)
      clear hm hdrop
      have hol := hok.len
      have x1 : IntKind.i64.wrap ((k : Int) + 1) = k + 1 := IntWalk.i64_in _ (by omega)
      have hz := hb.size
      have hbA : Below w.heap.size w (wr.alloc (.cells #[.int .i64 x.From, .int .i64 x.To, .int .i64 x.Total, .int .i64 x.Peak] 34)) := hb.alloc hb.size _
      have hbA' : Below wr.heap.size wr (wr.alloc (.cells #[.int .i64 x.From, .int .i64 x.To, .int .i64 x.Total, .int .i64 x.Peak] 34)) := (Below.refl _ _).alloc (Nat.le_refl _) _
      obtain ⟨v1, v2, v3, v4, v5, v6⟩ := hx
      have hx : EvR x := ⟨v1, v2, v3, v4, v5, v6⟩
      by_cases hne : 0 < out.length
      · obtain ⟨n, hn⟩ : ∃ n, out.length = n + 1 := ⟨out.length - 1, by omega⟩
        obtain ⟨g, cap2, rfl, hbg, hgl, hc1, hc2⟩ := hown.place hne
        have hnl : n < out.length := by omega
        obtain ⟨E, hE⟩ : ∃ E, Hid (out[n]'hnl = E) := ⟨out[n]'hnl, rfl⟩
        have hEm : E ∈ out := by rw [← hE.out]; exact List.getElem_mem hnl
        obtain ⟨z1, z2, z3, z4⟩ := hok.all E hEm
        have d0 := hown.cellAt' eEv_len n 0 (by omega) (by omega)
        have d1 := hown.cellAt' eEv_len n 1 (by omega) (by omega)
        have d2 := hown.cellAt' eEv_len n 2 (by omega) (by omega)
        have d3 := hown.cellAt' eEv_len n 3 (by omega) (by omega)
        rw [hE.out] at d0 d1 d2 d3
        have f0 := hown.free (n * 4)
        have f1 := hown.free (n * 4 + 1)
        have f2 := hown.free (n * 4 + 2)
        have f3 := hown.free (n * 4 + 3)
        simp at d0 d1 d2 d3
        have x2 : IntKind.i64.wrap (x.From - E.To) = x.From - E.To := IntWalk.i64_in _ (by omega)
        have x3 : IntKind.i64.wrap (E.Total + x.Total) = E.Total + x.Total := IntWalk.i64_in _ (by omega)
        rw [hn] at hown hc1 ⊢
        have Hn : Hid (out.length = n + 1) := hn
        have n0 : ((n : Int) + 1 == 0) = false := by rw [beq_eq_false_iff_ne]; omega
        have hnk : n + 1 ≤ k := by omega
        clear hn hol hne
        by_cases hq : gap ≤ x.From - E.To
        · have q := decide_eq_true hq
          have HF : Hid (jFar gap x out = true) := by show _ = _; rw [jFar_at Hn.out hE.out]; exact q
          have HST : Hid (jStep gap x out = out ++ [x]) := by show _ = _; unfold jStep; rw [HF.out]; rfl
          have HBG : Hid (jBig gap x out = false) := by show _ = _; unfold jBig; rw [HF.out]; rfl
          clear d0 d2 d3 f0 f1 f2 f3 hq
          go_wp2_with fail
          go_quiet (fail)
          have hbW : Below wr.heap.size wr ((wr.alloc (.cells #[.int .i64 x.From, .int .i64 x.To, .int .i64 x.Total, .int .i64 x.Peak] 34)).drewN nq) := below_drewN hbA' nq
          have k0 : ((wr.alloc (.cells #[.int .i64 x.From, .int .i64 x.To, .int .i64 x.Total, .int .i64 x.Peak] 34)).drewN nq).cell? ⟨wr.heap.size, 0, none⟩ = some (.int .i64 x.From) := by simp [go_sem]
          have k1 : ((wr.alloc (.cells #[.int .i64 x.From, .int .i64 x.To, .int .i64 x.Total, .int .i64 x.Peak] 34)).drewN nq).cell? ⟨wr.heap.size, 1, none⟩ = some (.int .i64 x.To) := by simp [go_sem]
          have k2 : ((wr.alloc (.cells #[.int .i64 x.From, .int .i64 x.To, .int .i64 x.Total, .int .i64 x.Peak] 34)).drewN nq).cell? ⟨wr.heap.size, 2, none⟩ = some (.int .i64 x.Total) := by simp [go_sem]
          have k3 : ((wr.alloc (.cells #[.int .i64 x.From, .int .i64 x.To, .int .i64 x.Total, .int .i64 x.Peak] 34)).drewN nq).cell? ⟨wr.heap.size, 3, none⟩ = some (.int .i64 x.Peak) := by simp [go_sem]
          have hzW : w.heap.size ≤ ((wr.alloc (.cells #[.int .i64 x.From, .int .i64 x.To, .int .i64 x.Total, .int .i64 x.Peak] 34)).drewN nq).heap.size := Nat.le_trans hz hbW.size
          have hownW := hown.below hbW
          generalize (wr.alloc (.cells #[.int .i64 x.From, .int .i64 x.To, .int .i64 x.Total, .int .i64 x.Peak] 34)).drewN nq = W at *
          go_wp2_with (at_builtin; go_must (refine wpList_pushB rfl _ _ 27 rfl 34 _ 4 32 undEvs infEv rfl (by decide) x eEv_len (by simp [Value.oneCell']) _ out rfl hownW _ rfl rfl (by have := Hn.out; omega) (by decide) hzW _ rfl ?_); intro g3 cap3 w1 hown1 hbg1 hgl1 hb1 hc11 hc21)
          go_roundw
          case measure => simp [intOf]; omega
          case rel => exact ⟨k + 1, out ++ [x], b, by omega, by go_num, rfl, hok.push hx, hown1, (hb.trans (hbW.mono hb.size)).trans hb1, HS.out.trans (by rw [HST.out, HBG.out, Bool.or_false])⟩
        · have q := decide_eq_false hq
          have HF : Hid (jFar gap x out = false) := by show _ = _; rw [jFar_at Hn.out hE.out]; exact decide_eq_false hq
          have HST : Hid (jStep gap x out = out.set n (jMrg E x)) := by
            show _ = _
            unfold jStep
            rw [HF.out, lastEv_at Hn.out hE.out, Hn.out]
            simp
          have HBG : Hid (jBig gap x out = decide (1099511627776 < E.Total + x.Total)) := by
            show _ = _
            unfold jBig
            rw [HF.out, lastEv_at Hn.out hE.out]
            simp
          have hgW : g < wr.heap.size := hgl
          clear hq
          by_cases hp : E.Peak < x.Peak
          · have HM : Hid (jMrg E x = ⟨E.From, x.To, E.Total + x.Total, x.Peak⟩) := by show _ = _; unfold jMrg; rw [if_pos hp]
            go_wp2_with fail
            go_quiet (fail)
            have hbW : Below wr.heap.size wr ((wr.alloc (.cells #[.int .i64 x.From, .int .i64 x.To, .int .i64 x.Total, .int .i64 x.Peak] 34)).drewN nq) := below_drewN hbA' nq
            have k0 : ((wr.alloc (.cells #[.int .i64 x.From, .int .i64 x.To, .int .i64 x.Total, .int .i64 x.Peak] 34)).drewN nq).cell? ⟨wr.heap.size, 0, none⟩ = some (.int .i64 x.From) := by simp [go_sem]
            have k1 : ((wr.alloc (.cells #[.int .i64 x.From, .int .i64 x.To, .int .i64 x.Total, .int .i64 x.Peak] 34)).drewN nq).cell? ⟨wr.heap.size, 1, none⟩ = some (.int .i64 x.To) := by simp [go_sem]
            have k2 : ((wr.alloc (.cells #[.int .i64 x.From, .int .i64 x.To, .int .i64 x.Total, .int .i64 x.Peak] 34)).drewN nq).cell? ⟨wr.heap.size, 2, none⟩ = some (.int .i64 x.Total) := by simp [go_sem]
            have k3 : ((wr.alloc (.cells #[.int .i64 x.From, .int .i64 x.To, .int .i64 x.Total, .int .i64 x.Peak] 34)).drewN nq).cell? ⟨wr.heap.size, 3, none⟩ = some (.int .i64 x.Peak) := by simp [go_sem]
            have hzW : w.heap.size ≤ ((wr.alloc (.cells #[.int .i64 x.From, .int .i64 x.To, .int .i64 x.Total, .int .i64 x.Peak] 34)).drewN nq).heap.size := Nat.le_trans hz hbW.size
            have hownW := hown.below hbW
            generalize (wr.alloc (.cells #[.int .i64 x.From, .int .i64 x.To, .int .i64 x.Total, .int .i64 x.Peak] 34)).drewN nq = W at *
            have d0 := box_lt d0 hbW
            have d1 := box_lt d1 hbW
            have d2 := box_lt d2 hbW
            have d3 := box_lt d3 hbW
            have hgg : g < W.heap.size := Nat.lt_of_lt_of_le hgW hbW.size
            have f0 := hownW.free (n * 4)
            have f1 := hownW.free (n * 4 + 1)
            have f2 := hownW.free (n * 4 + 2)
            have f3 := hownW.free (n * 4 + 3)
            have hbB : Below W.heap.size W (W.alloc (.cells #[.int .i64 E.From, .int .i64 E.To, .int .i64 E.Total, .int .i64 E.Peak] 34)) := (Below.refl _ _).alloc (Nat.le_refl _) _
            have g0' := (hbB.frozen (p := ⟨g, n * 4, none⟩) hgg).trans f0
            have g1' := (hbB.frozen (p := ⟨g, n * 4 + 1, none⟩) hgg).trans f1
            have g2' := (hbB.frozen (p := ⟨g, n * 4 + 2, none⟩) hgg).trans f2
            have g3' := (hbB.frozen (p := ⟨g, n * 4 + 3, none⟩) hgg).trans f3
            have hst := (hownW.store4 n (by have := Hn.out; omega) (jMrg E x)).below ((Below.refl _ _).alloc (Nat.le_refl _) (.cells #[.int .i64 E.From, .int .i64 E.To, .int .i64 E.Total, .int .i64 E.Peak] 34))
            rw [HM.out] at hst
            have hbZ4 := below4 (hb.trans (hbW.mono hb.size)) g n hbg (jMrg E x)
            have hbZ := hbZ4.alloc hbZ4.size (.cells #[.int .i64 E.From, .int .i64 E.To, .int .i64 E.Total, .int .i64 E.Peak] 34)
            rw [HM.out] at hbZ
            have hne4 : wr.heap.size ≠ g := Nat.ne_of_gt hgW
            have hjo := HM.out ▸ hok.mrg (n := n) hx hEm
            have HSTT := Lib.hid hst
            have HBZ := Lib.hid hbZ
            have HJO := Lib.hid hjo
            clear hst hbZ hjo hbZ4 hbB hbA hbA' hok
            cases b
            · cases hbg2 : decide (1099511627776 < E.Total + x.Total)
              · have HB2 := Lib.hid (HBG.out.trans hbg2)
                go_wp2_with fail
                go_roundw
                case measure => simp [intOf]; omega
                case rel => exact ⟨k + 1, _, false, by omega, by go_num, rfl, HJO.out, HSTT.out, HBZ.out, HS.out.trans (by rw [HST.out, HB2.out, HM.out]; rfl)⟩
              · have HB2 := Lib.hid (HBG.out.trans hbg2)
                go_wp2_with fail
                go_roundw
                case measure => simp [intOf]; omega
                case rel => exact ⟨k + 1, _, true, by omega, by go_num, rfl, HJO.out, HSTT.out, HBZ.out, HS.out.trans (by rw [HST.out, HB2.out, HM.out]; rfl)⟩
            · go_wp2_with fail
              go_roundw
              case measure => simp [intOf]; omega
              case rel => exact ⟨k + 1, _, true, by omega, by go_num, rfl, HJO.out, HSTT.out, HBZ.out, HS.out.trans (by rw [HST.out, Bool.true_or, HM.out])⟩
          · have HM : Hid (jMrg E x = ⟨E.From, x.To, E.Total + x.Total, E.Peak⟩) := by show _ = _; unfold jMrg; rw [if_neg hp]
            go_wp2_with fail
            go_quiet (fail)
            have hbW : Below wr.heap.size wr ((wr.alloc (.cells #[.int .i64 x.From, .int .i64 x.To, .int .i64 x.Total, .int .i64 x.Peak] 34)).drewN nq) := below_drewN hbA' nq
            have k0 : ((wr.alloc (.cells #[.int .i64 x.From, .int .i64 x.To, .int .i64 x.Total, .int .i64 x.Peak] 34)).drewN nq).cell? ⟨wr.heap.size, 0, none⟩ = some (.int .i64 x.From) := by simp [go_sem]
            have k1 : ((wr.alloc (.cells #[.int .i64 x.From, .int .i64 x.To, .int .i64 x.Total, .int .i64 x.Peak] 34)).drewN nq).cell? ⟨wr.heap.size, 1, none⟩ = some (.int .i64 x.To) := by simp [go_sem]
            have k2 : ((wr.alloc (.cells #[.int .i64 x.From, .int .i64 x.To, .int .i64 x.Total, .int .i64 x.Peak] 34)).drewN nq).cell? ⟨wr.heap.size, 2, none⟩ = some (.int .i64 x.Total) := by simp [go_sem]
            have k3 : ((wr.alloc (.cells #[.int .i64 x.From, .int .i64 x.To, .int .i64 x.Total, .int .i64 x.Peak] 34)).drewN nq).cell? ⟨wr.heap.size, 3, none⟩ = some (.int .i64 x.Peak) := by simp [go_sem]
            have hzW : w.heap.size ≤ ((wr.alloc (.cells #[.int .i64 x.From, .int .i64 x.To, .int .i64 x.Total, .int .i64 x.Peak] 34)).drewN nq).heap.size := Nat.le_trans hz hbW.size
            have hownW := hown.below hbW
            generalize (wr.alloc (.cells #[.int .i64 x.From, .int .i64 x.To, .int .i64 x.Total, .int .i64 x.Peak] 34)).drewN nq = W at *
            have d0 := box_lt d0 hbW
            have d1 := box_lt d1 hbW
            have d2 := box_lt d2 hbW
            have d3 := box_lt d3 hbW
            have hgg : g < W.heap.size := Nat.lt_of_lt_of_le hgW hbW.size
            have f0 := hownW.free (n * 4)
            have f1 := hownW.free (n * 4 + 1)
            have f2 := hownW.free (n * 4 + 2)
            have f3 := hownW.free (n * 4 + 3)
            have hbB : Below W.heap.size W (W.alloc (.cells #[.int .i64 E.From, .int .i64 E.To, .int .i64 E.Total, .int .i64 E.Peak] 34)) := (Below.refl _ _).alloc (Nat.le_refl _) _
            have g0' := (hbB.frozen (p := ⟨g, n * 4, none⟩) hgg).trans f0
            have g1' := (hbB.frozen (p := ⟨g, n * 4 + 1, none⟩) hgg).trans f1
            have g2' := (hbB.frozen (p := ⟨g, n * 4 + 2, none⟩) hgg).trans f2
            have g3' := (hbB.frozen (p := ⟨g, n * 4 + 3, none⟩) hgg).trans f3
            have hst := (hownW.store4 n (by have := Hn.out; omega) (jMrg E x)).below ((Below.refl _ _).alloc (Nat.le_refl _) (.cells #[.int .i64 E.From, .int .i64 E.To, .int .i64 E.Total, .int .i64 E.Peak] 34))
            rw [HM.out] at hst
            have hbZ4 := below4 (hb.trans (hbW.mono hb.size)) g n hbg (jMrg E x)
            have hbZ := hbZ4.alloc hbZ4.size (.cells #[.int .i64 E.From, .int .i64 E.To, .int .i64 E.Total, .int .i64 E.Peak] 34)
            rw [HM.out] at hbZ
            have hne4 : wr.heap.size ≠ g := Nat.ne_of_gt hgW
            have hjo := HM.out ▸ hok.mrg (n := n) hx hEm
            have HSTT := Lib.hid hst
            have HBZ := Lib.hid hbZ
            have HJO := Lib.hid hjo
            clear hst hbZ hjo hbZ4 hbB hbA hbA' hok
            cases b
            · cases hbg2 : decide (1099511627776 < E.Total + x.Total)
              · have HB2 := Lib.hid (HBG.out.trans hbg2)
                go_wp2_with fail
                go_roundw
                case measure => simp [intOf]; omega
                case rel => exact ⟨k + 1, _, false, by omega, by go_num, rfl, HJO.out, HSTT.out, HBZ.out, HS.out.trans (by rw [HST.out, HB2.out, HM.out]; rfl)⟩
              · have HB2 := Lib.hid (HBG.out.trans hbg2)
                go_wp2_with fail
                go_roundw
                case measure => simp [intOf]; omega
                case rel => exact ⟨k + 1, _, true, by omega, by go_num, rfl, HJO.out, HSTT.out, HBZ.out, HS.out.trans (by rw [HST.out, HB2.out, HM.out]; rfl)⟩
            · go_wp2_with fail
              go_roundw
              case measure => simp [intOf]; omega
              case rel => exact ⟨k + 1, _, true, by omega, by go_num, rfl, HJO.out, HSTT.out, HBZ.out, HS.out.trans (by rw [HST.out, Bool.true_or, HM.out])⟩
      · obtain rfl : out = [] := List.eq_nil_of_length_eq_zero (by omega)
        obtain ⟨a5, c5, rfl⟩ := hown.isSlice
        have HST : Hid (jStep gap x [] = [x]) := rfl
        have HBG : Hid (jBig gap x [] = false) := rfl
        go_wp2_with fail
        go_quiet (fail)
        have hbW : Below wr.heap.size wr ((wr.alloc (.cells #[.int .i64 x.From, .int .i64 x.To, .int .i64 x.Total, .int .i64 x.Peak] 34)).drewN nq) := below_drewN hbA' nq
        have k0 : ((wr.alloc (.cells #[.int .i64 x.From, .int .i64 x.To, .int .i64 x.Total, .int .i64 x.Peak] 34)).drewN nq).cell? ⟨wr.heap.size, 0, none⟩ = some (.int .i64 x.From) := by simp [go_sem]
        have k1 : ((wr.alloc (.cells #[.int .i64 x.From, .int .i64 x.To, .int .i64 x.Total, .int .i64 x.Peak] 34)).drewN nq).cell? ⟨wr.heap.size, 1, none⟩ = some (.int .i64 x.To) := by simp [go_sem]
        have k2 : ((wr.alloc (.cells #[.int .i64 x.From, .int .i64 x.To, .int .i64 x.Total, .int .i64 x.Peak] 34)).drewN nq).cell? ⟨wr.heap.size, 2, none⟩ = some (.int .i64 x.Total) := by simp [go_sem]
        have k3 : ((wr.alloc (.cells #[.int .i64 x.From, .int .i64 x.To, .int .i64 x.Total, .int .i64 x.Peak] 34)).drewN nq).cell? ⟨wr.heap.size, 3, none⟩ = some (.int .i64 x.Peak) := by simp [go_sem]
        have hzW : w.heap.size ≤ ((wr.alloc (.cells #[.int .i64 x.From, .int .i64 x.To, .int .i64 x.Total, .int .i64 x.Peak] 34)).drewN nq).heap.size := Nat.le_trans hz hbW.size
        have hownW := hown.below hbW
        generalize (wr.alloc (.cells #[.int .i64 x.From, .int .i64 x.To, .int .i64 x.Total, .int .i64 x.Peak] 34)).drewN nq = W at *
        go_wp2_with (at_builtin; go_must (refine wpList_pushB rfl _ _ 27 rfl 34 _ 4 32 undEvs infEv rfl (by decide) x eEv_len (by simp [Value.oneCell']) _ [] rfl hownW _ rfl rfl (by simp) (by decide) hzW _ rfl ?_); intro g3 cap3 w1 hown1 hbg1 hgl1 hb1 hc11 hc21)
        go_roundw
        case measure => simp [intOf]; omega
        case rel => exact ⟨k + 1, [x], b, by omega, by go_num, rfl, hok.push hx, hown1, (hb.trans (hbW.mono hb.size)).trans hb1, HS.out.trans (by rw [HST.out, HBG.out, Bool.or_false])⟩
    · obtain rfl : k = l.length := by omega
      rw [List.drop_eq_nil_of_le (Nat.le_refl _)] at hm
      have HMM : Hid ((R, B) = (out, b)) := hm.out
      have h2 := HMM.out
      simp only [Prod.mk.injEq] at h2
      obtain ⟨rfl, rfl⟩ := h2
      clear hm HMM HRES hs
      cases B
      · go_wp2_with fail
        go_ret2
        exact ⟨⟨_, rfl, hown⟩, hb⟩
      · go_wp2_with fail
        go_ret2
        exact ⟨⟨_, rfl, World.ownsRow_nil _ _ _ _⟩, hb⟩

end Go.Proofs.Ytdlaghjijfgncaa
