/- Filling a node: storage.Fill. Conditions: the arguments read as data. -/
import Derived.Test.YtjgfgbiohbgcaaaGreatSfn
import Derived.Test.YtjgfgbiohbgcaaaGreatSfy
namespace Go.Proofs.YtjgfgbiohbgcaaaGreat
open Go.RowKit
set_option linter.unusedVariables false
set_option linter.unusedSimpArgs false

theorem fill_good (n : Net) (s : St) (k : Nat) (a : Int) (w : World) (hg : gNet w n) (hgs : gSt w s) (hnv : netB n = true) (hsv : stB n s = true) (hk : k < n.Ns.xs.length) (ha : volB a = true) : Calls Tryz.prog 28 #[vNet n, vSt s, .int .i64 (k : Int), .int .i64 a] w fun e w' =>
    (∃ s', e = .returned (.tuple #[vSt s', .int .i64 (fillG n (stL s) k a).2]) ∧ gSt w' s' ∧ stL s' = (fillG n (stL s) k a).1) ∧ Below w.heap.size w w' := by
  by_cases h : (fillG n (stL s) k a).2 = 0
  · exact fill_yes n s k a w hg hgs hnv hsv hk ha h
  · exact fill_no n s k a w hg hgs hnv hsv hk ha h

set_option maxRecDepth 100000 in
set_option maxHeartbeats 4000000 in
theorem fill_any (n : Net) (s : St) (i a : Int) (w : World) (hg : gNet w n) (hgs : gSt w s) : Calls Tryz.prog 28 #[vNet n, vSt s, .int .i64 i, .int .i64 a] w fun e w' =>
    (∃ s', e = .returned (.tuple #[vSt s', .int .i64 (fillM n s i a).2]) ∧ gSt w' s' ∧ stL s' = (fillM n s i a).1) ∧ Below w.heap.size w w' := by
  obtain ⟨⟨na, nc, nxs⟩, ⟨la, lc, lxs⟩⟩ := n
  obtain ⟨⟨va, vc, vs⟩, ⟨pa, pc, ps⟩, ⟨ea, ec, ss⟩, ⟨oa, oc, os⟩⟩ := s
  have hb0 : Below w.heap.size w ((w.alloc (.cells #[.slice na nxs.length nc, .slice la lxs.length lc] 42)).alloc (.cells #[.slice va vs.length vc, .slice pa ps.length pc, .slice ea ss.length ec, .slice oa os.length oc] 54)) := ((Below.refl _ _).alloc (Nat.le_refl _) _).alloc (by simp) _
  have hb0' := hb0.alloc (o := .cells #[.slice none 0 0, .slice none 0 0, .slice none 0 0, .slice none 0 0] 54) (by simp; omega)
  have HOX : Hid (OutBx (((w.alloc (.cells #[.slice na nxs.length nc, .slice la lxs.length lc] 42)).alloc (.cells #[.slice va vs.length vc, .slice pa ps.length pc, .slice ea ss.length ec, .slice oa os.length oc] 54)).alloc (.cells #[.slice none 0 0, .slice none 0 0, .slice none 0 0, .slice none 0 0] 54)) (w.heap.size + 1 + 1) nilSt) := by
    have h := OutBx.new ((w.alloc (.cells #[.slice na nxs.length nc, .slice la lxs.length lc] 42)).alloc (.cells #[.slice va vs.length vc, .slice pa ps.length pc, .slice ea ss.length ec, .slice oa os.length oc] 54)) nilSt 54
    rw [show ((w.alloc (.cells #[.slice na nxs.length nc, .slice la lxs.length lc] 42)).alloc (.cells #[.slice va vs.length vc, .slice pa ps.length pc, .slice ea ss.length ec, .slice oa os.length oc] 54)).heap.size = w.heap.size + 1 + 1 from by simp] at h
    exact Lib.hid h
  have HBX : Hid (StBx ((w.alloc (.cells #[.slice na nxs.length nc, .slice la lxs.length lc] 42)).alloc (.cells #[.slice va vs.length vc, .slice pa ps.length pc, .slice ea ss.length ec, .slice oa os.length oc] 54)) (w.heap.size + 1) ⟨⟨va, vc, vs⟩, ⟨pa, pc, ps⟩, ⟨ea, ec, ss⟩, ⟨oa, oc, os⟩⟩) := by
    have h := StBx.new (w.alloc (.cells #[.slice na nxs.length nc, .slice la lxs.length lc] 42)) ⟨⟨va, vc, vs⟩, ⟨pa, pc, ps⟩, ⟨ea, ec, ss⟩, ⟨oa, oc, os⟩⟩ 54
    rw [show (w.alloc (.cells #[.slice na nxs.length nc, .slice la lxs.length lc] 42)).heap.size = w.heap.size + 1 from by simp] at h
    exact Lib.hid h
  have hva := svalid_any ⟨⟨na, nc, nxs⟩, ⟨la, lc, lxs⟩⟩ ⟨⟨va, vc, vs⟩, ⟨pa, pc, ps⟩, ⟨ea, ec, ss⟩, ⟨oa, oc, os⟩⟩ _ (rdNet.mono hg hb0') (rdSt.mono hgs hb0')
  obtain ⟨⟨R, E⟩, hres⟩ : ∃ r, fillM ⟨⟨na, nc, nxs⟩, ⟨la, lc, lxs⟩⟩ ⟨⟨va, vc, vs⟩, ⟨pa, pc, ps⟩, ⟨ea, ec, ss⟩, ⟨oa, oc, os⟩⟩ i a = r := ⟨_, rfl⟩
  rw [hres]
  obtain ⟨vb, hvb⟩ : ∃ vb, (netB ⟨⟨na, nc, nxs⟩, ⟨la, lc, lxs⟩⟩ && stB ⟨⟨na, nc, nxs⟩, ⟨la, lc, lxs⟩⟩ ⟨⟨va, vc, vs⟩, ⟨pa, pc, ps⟩, ⟨ea, ec, ss⟩, ⟨oa, oc, os⟩⟩) = vb := ⟨_, rfl⟩
  rw [hvb] at hva
  simp only
  simp only [vNet, vSt, vSl] at hva ⊢
  cases vb
  · unfold fillM at hres
    rw [if_pos hvb] at hres
    simp only [noSt, Prod.mk.injEq] at hres
    obtain ⟨rfl, rfl⟩ := hres
    clear hvb HBX hg hgs hb0
    go_enter Tryz.func28, Tryz.ntmps28
    go_wp2_with fail
    refine Calls.go hb0' hva ?_
    rintro e w1 rfl hb1' hb1
    obtain ⟨⟨o0, o1, o2, o3⟩, of⟩ := HOX.out.mono hb1'
    have of0 := of 0
    have of1 := of 1
    have of2 := of 2
    have of3 := of 3
    clear of
    simp only [vSl, nilSt] at o0 o1 o2 o3
    go_wp2_with fail
    refine bodyPost_ret (v := .tuple #[.agg #[.slice none 0 0, .slice none 0 0, .slice none 0 0, .slice none 0 0], .int .i64 1]) (by simp (maxDischargeDepth := 9) [results, Tryz.results28, go_sem, o0, o1, o2, o3]) rfl ⟨⟨nilSt, rfl, gSt_nil _, rfl⟩, by repeat' (first | exact Below.refl _ _ | assumption | refine Below.more ?_ ?_ _ | refine Below.alloc ?_ ?_ _ | refine Below.drew ?_ | refine below_drewN ?_ _ | refine Below.setCell ?_ ?_ _ | exact Below.size (by assumption) | (simp [go_sem, size_more]; done) | (simp [go_sem, size_more]; omega))⟩
  obtain ⟨hnv, hsv⟩ := Bool.and_eq_true_iff.1 hvb
  unfold fillM at hres
  rw [if_neg (by rw [hvb]; simp)] at hres
  clear hvb
  by_cases ho : outB ⟨⟨na, nc, nxs⟩, ⟨la, lc, lxs⟩⟩ i a = true
  · rw [if_pos ho] at hres
    simp only [noSt, Prod.mk.injEq] at hres
    obtain ⟨rfl, rfl⟩ := hres
    simp only [outB, Bool.or_eq_true, Bool.not_eq_true'] at ho
    have HE := Lib.hid (boxNet w · 42 ⟨⟨na, nc, nxs⟩, ⟨la, lc, lxs⟩⟩ _ rfl _ rfl)
    clear HBX hg hgs hb0 hnv hsv
    cases u1 : decide (i < 0)
    rotate_left
    · go_enter Tryz.func28, Tryz.ntmps28
      go_wp2_with fail
      refine Calls.go hb0' hva ?_
      rintro e w1 rfl hb1' hb1
      obtain ⟨⟨o0, o1, o2, o3⟩, of⟩ := HOX.out.mono hb1'
      have of0 := of 0
      have of1 := of 1
      have of2 := of 2
      have of3 := of 3
      clear of
      simp only [vSl, nilSt] at o0 o1 o2 o3
      go_wp2_with fail
      refine bodyPost_ret (v := .tuple #[.agg #[.slice none 0 0, .slice none 0 0, .slice none 0 0, .slice none 0 0], .int .i64 2]) (by simp (maxDischargeDepth := 9) [results, Tryz.results28, go_sem, o0, o1, o2, o3]) rfl ⟨⟨nilSt, rfl, gSt_nil _, rfl⟩, by repeat' (first | exact Below.refl _ _ | assumption | refine Below.more ?_ ?_ _ | refine Below.alloc ?_ ?_ _ | refine Below.drew ?_ | refine below_drewN ?_ _ | refine Below.setCell ?_ ?_ _ | exact Below.size (by assumption) | (simp [go_sem, size_more]; done) | (simp [go_sem, size_more]; omega))⟩
    · obtain ⟨k, rfl⟩ : ∃ k : Nat, i = (k : Int) := ⟨i.toNat, by simp at u1; omega⟩
      cases u2 : decide ((nxs.length : Int) ≤ (k : Int))
      rotate_left
      · have u2' : decide (nxs.length ≤ k) = true := by simpa using u2
        go_enter Tryz.func28, Tryz.ntmps28
        go_wp2_with fail
        refine Calls.go hb0' hva ?_
        rintro e w1 rfl hb1' hb1
        obtain ⟨⟨o0, o1, o2, o3⟩, of⟩ := HOX.out.mono hb1'
        have of0 := of 0
        have of1 := of 1
        have of2 := of 2
        have of3 := of 3
        clear of
        simp only [vSl, nilSt] at o0 o1 o2 o3
        obtain ⟨e0, e1⟩ := HE.out w1 (((Below.refl _ _).alloc (by simp) _ |>.alloc (by simp) _).trans (hb1'.mono (by simp)))
        simp only [vSl] at e0 e1
        go_wp2_with fail
        refine bodyPost_ret (v := .tuple #[.agg #[.slice none 0 0, .slice none 0 0, .slice none 0 0, .slice none 0 0], .int .i64 2]) (by simp (maxDischargeDepth := 9) [results, Tryz.results28, go_sem, o0, o1, o2, o3]) rfl ⟨⟨nilSt, rfl, gSt_nil _, rfl⟩, by repeat' (first | exact Below.refl _ _ | assumption | refine Below.more ?_ ?_ _ | refine Below.alloc ?_ ?_ _ | refine Below.drew ?_ | refine below_drewN ?_ _ | refine Below.setCell ?_ ?_ _ | exact Below.size (by assumption) | (simp [go_sem, size_more]; done) | (simp [go_sem, size_more]; omega))⟩
      · have u2' : decide (nxs.length ≤ k) = false := by simpa using u2
        have u3 : volB a = false := by
          rcases ho with h | h
          · rcases h with h | h
            · rw [u1] at h; cases h
            · rw [u2] at h; cases h
          · exact h
        have hho := fun W => holds_lit u3 W
        go_enter Tryz.func28, Tryz.ntmps28
        go_wp2_with fail
        refine Calls.go hb0' hva ?_
        rintro e w1 rfl hb1' hb1
        obtain ⟨⟨o0, o1, o2, o3⟩, of⟩ := HOX.out.mono hb1'
        have of0 := of 0
        have of1 := of 1
        have of2 := of 2
        have of3 := of 3
        clear of
        simp only [vSl, nilSt] at o0 o1 o2 o3
        obtain ⟨e0, e1⟩ := HE.out w1 (((Below.refl _ _).alloc (by simp) _ |>.alloc (by simp) _).trans (hb1'.mono (by simp)))
        simp only [vSl] at e0 e1
        clear ho u3
        go_wp2_with fail
        refine (hho _).mono ?_
        rintro _ _ ⟨rfl, rfl⟩
        go_wp2_with fail
        refine bodyPost_ret (v := .tuple #[.agg #[.slice none 0 0, .slice none 0 0, .slice none 0 0, .slice none 0 0], .int .i64 2]) (by simp (maxDischargeDepth := 9) [results, Tryz.results28, go_sem, o0, o1, o2, o3]) rfl ⟨⟨nilSt, rfl, gSt_nil _, rfl⟩, by repeat' (first | exact Below.refl _ _ | assumption | refine Below.more ?_ ?_ _ | refine Below.alloc ?_ ?_ _ | refine Below.drew ?_ | refine below_drewN ?_ _ | refine Below.setCell ?_ ?_ _ | exact Below.size (by assumption) | (simp [go_sem, size_more]; done) | (simp [go_sem, size_more]; omega))⟩
  · rw [if_neg ho] at hres
    have ho' : outB ⟨⟨na, nc, nxs⟩, ⟨la, lc, lxs⟩⟩ i a = false := by simpa using ho
    simp [outB] at ho'
    obtain ⟨k, rfl⟩ : ∃ k : Nat, i = (k : Int) := ⟨i.toNat, by omega⟩
    rw [Int.toNat_natCast] at hres
    have h := fill_good ⟨⟨na, nc, nxs⟩, ⟨la, lc, lxs⟩⟩ ⟨⟨va, vc, vs⟩, ⟨pa, pc, ps⟩, ⟨ea, ec, ss⟩, ⟨oa, oc, os⟩⟩ k a w hg hgs hnv hsv (by simp only; omega) ho'.2
    rw [show fillG ⟨⟨na, nc, nxs⟩, ⟨la, lc, lxs⟩⟩ (stL ⟨⟨va, vc, vs⟩, ⟨pa, pc, ps⟩, ⟨ea, ec, ss⟩, ⟨oa, oc, os⟩⟩) k a = (R, E) from hres] at h
    exact h

end Go.Proofs.YtjgfgbiohbgcaaaGreat
