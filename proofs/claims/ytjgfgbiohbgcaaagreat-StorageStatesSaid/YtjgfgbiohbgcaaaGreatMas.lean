/- The reference's SameInts. Conditions: the arguments read as lists. | The reference's Same of two states. Conditions: the arguments read as data. -/
import Derived.Test.YtjgfgbiohbgcaaaGreatNw
import Derived.Test.YtjgfgbiohbgcaaaGreatTpi
import Derived.Test.YtjgfgbiohbgcaaaGreatShd
namespace Go.Proofs.YtjgfgbiohbgcaaaGreat
open Go.RowKit
set_option linter.unusedVariables false
set_option linter.unusedSimpArgs false

set_option maxRecDepth 100000 in
set_option maxHeartbeats 2000000 in
theorem sameInts_any (xs ys : List Int) (v v2 : Value) (w : World) (hv : IsL eInt 1 w v xs) (hv2 : IsL eInt 1 w v2 ys) :
    Calls Tryz.prog 62 #[v, v2] w fun e w' => e = .returned (.bool (decide (xs = ys))) ∧ Below w.heap.size w w' := by
  obtain ⟨a, cap, rfl, hcap, hbig, hs⟩ := hv
  obtain ⟨a2, cap2, rfl, hcap2, hbig2, hs2⟩ := hv2
  obtain ⟨res, hres⟩ : ∃ res, decide (xs = ys) = res := ⟨_, rfl⟩
  rw [hres]
  have HR := Lib.hid hres
  have HB : Hid (xs.length ≤ 9223372036854775807) := Lib.hid (Nat.le_trans hcap hbig)
  clear hres
  by_cases hl : xs.length = ys.length
  rotate_left
  · have q := bneT (a := (xs.length : Int)) (b := (ys.length : Int)) (by omega)
    have q' : (xs.length != ys.length) = true := by simpa using hl
    have e1 : false = res := by rw [← HR.out]; symm; exact decide_eq_false (fun h => hl (by rw [h]))
    subst e1
    clear HR hs hs2 hl
    go_enter Tryz.func62, Tryz.ntmps62
    go_wp2_with fail
    go_ret
    exact ⟨rfl, by repeat' (first | exact Below.refl _ _ | assumption | refine Below.more ?_ ?_ _ | refine Below.alloc ?_ ?_ _ | refine Below.drew ?_ | refine below_drewN ?_ _ | refine Below.setCell ?_ ?_ _ | exact Below.size (by assumption) | (simp [go_sem, size_more]; done) | (simp [go_sem, size_more]; omega))⟩
  have q := bneF (a := (xs.length : Int)) (b := (ys.length : Int)) (by omega)
  have q' : (xs.length != ys.length) = false := by simpa using hl
  have HLN := Lib.hid hl
  clear hl
  go_enter Tryz.func62, Tryz.ntmps62
  go_wp2_with fail
  go_loopw [5] (fun s5 wr => ∃ i : Nat, i ≤ xs.length ∧ s5 = .int .i64 i ∧ Below w.heap.size w wr ∧ Hid (decide (xs.drop i = ys.drop i) = res)) (fun i _ => xs.length - (intOf i).toNat)
  case atStart => exact ⟨0, Nat.zero_le _, rfl, Below.refl _ _, HR⟩
  clear HR
  case round =>
    as_aux_lemma =>
    obtain ⟨i, hi, rfl, hb, hm⟩ := hrel
    by_cases hlt : i < xs.length
    · have kp : i < ys.length := by have := HLN.out; omega
      obtain ⟨vb, vo, rfl, cv⟩ := (hs.mono hb).int i hlt
      obtain ⟨pb, po, rfl, cp⟩ := (hs2.mono hb).int i kp
      have hm2 := hm.out
      rw [List.drop_eq_getElem_cons hlt, List.drop_eq_getElem_cons kp] at hm2
      have HBB := HB.out
      have i1 : (0 : Int) ≤ i := by omega
      have i2 : (i : Int) < xs.length := by omega
      have i3 : (i : Int) < ys.length := by omega
      have x1 : IntKind.i64.wrap ((i : Int) + 1) = i + 1 := IntWalk.i64_in _ (by omega)
      clear hs hs2 hm

      generalize xs[i] = x at *
      generalize ys[i] = y at *
      by_cases hxy : x = y
      · subst hxy
        have u := bneF (a := x) (b := x) rfl
        have u' : (x == x) = true := by simp
        have HM : Hid (decide (xs.drop (i + 1) = ys.drop (i + 1)) = res) := Lib.hid (by rw [← hm2]; simp)
        clear hm2
        go_wp2_with fail
        go_quiet (fail)
        go_wp2_with fail
        go_roundw
        case measure => simp [intOf]; omega
        case rel => exact ⟨i + 1, by omega, by go_num, by repeat' (first | exact Below.refl _ _ | assumption | refine Below.more ?_ ?_ _ | refine Below.alloc ?_ ?_ _ | refine Below.drew ?_ | refine below_drewN ?_ _ | refine Below.setCell ?_ ?_ _ | exact Below.size (by assumption) | (simp [go_sem, size_more]; done) | (simp [go_sem, size_more]; omega)), HM⟩
      · have u := bneT hxy
        have u' : (x == y) = false := beqF hxy
        have e1 : false = res := by rw [← hm2]; simp [hxy]
        subst e1
        clear hm2
        go_wp2_with fail
        go_quiet (fail)
        go_wp2_with fail
        go_ret
        exact ⟨rfl, by repeat' (first | exact Below.refl _ _ | assumption | refine Below.more ?_ ?_ _ | refine Below.alloc ?_ ?_ _ | refine Below.drew ?_ | refine below_drewN ?_ _ | refine Below.setCell ?_ ?_ _ | exact Below.size (by assumption) | (simp [go_sem, size_more]; done) | (simp [go_sem, size_more]; omega))⟩
    · obtain rfl : i = xs.length := by omega
      have e1 : true = res := by
        rw [← hm.out, List.drop_eq_nil_of_le (Nat.le_refl _), List.drop_eq_nil_of_le (by have := HLN.out; omega)]; simp
      subst e1
      clear hm
      go_wp2_with fail
      go_ret
      exact ⟨rfl, hb⟩

end Go.Proofs.YtjgfgbiohbgcaaaGreat

namespace Go.Proofs.YtjgfgbiohbgcaaaGreat
open Go.RowKit
set_option linter.unusedVariables false
set_option linter.unusedSimpArgs false

def sameStB (s t : St) : Bool := decide (s.O.xs = t.O.xs) && (decide (s.V.xs = t.V.xs) && decide (s.P.xs = t.P.xs) && decide (s.S.xs = t.S.xs))
set_option maxRecDepth 100000 in
set_option maxHeartbeats 4000000 in
theorem same_any (s t : St) (w : World) (hs : gSt w s) (ht : gSt w t) : Calls Tryz.prog 31 #[vSt s, vSt t] w fun e w' => e = .returned (.bool (sameStB s t)) ∧ Below w.heap.size w w' := by
  obtain ⟨⟨va, vc, vs⟩, ⟨pa, pc, ps⟩, ⟨ea, ec, ss⟩, ⟨oa, oc, os⟩⟩ := s
  obtain ⟨⟨va', vc', vs'⟩, ⟨pa', pc', ps'⟩, ⟨ea', ec', ss'⟩, ⟨oa', oc', os'⟩⟩ := t
  obtain ⟨a1, a2, a3, a4⟩ := hs
  obtain ⟨b1, b2, b3, b4⟩ := ht
  have hvi := fun W (hb : Below w.heap.size w W) => sameInts_any vs vs' (.slice va vs.length vc) (.slice va' vs'.length vc') W (a1.isL.mono hb) (b1.isL.mono hb)
  have hpi := fun W (hb : Below w.heap.size w W) => sameInts_any ps ps' (.slice pa ps.length pc) (.slice pa' ps'.length pc') W (a2.isL.mono hb) (b2.isL.mono hb)
  have hsi := fun W (hb : Below w.heap.size w W) => sameInts_any ss ss' (.slice ea ss.length ec) (.slice ea' ss'.length ec') W (a3.isL.mono hb) (b3.isL.mono hb)
  have hO := a4.2.2.1
  have hO' := b4.2.2.1
  have HB : Hid (os.length ≤ 9223372036854775807) := Lib.hid (Nat.le_trans a4.1 a4.2.1)
  clear a1 a2 a3 a4 b1 b2 b3 b4
  simp only at hO hO'
  obtain ⟨bv, hbv⟩ : ∃ b, decide (vs = vs') = b := ⟨_, rfl⟩
  obtain ⟨bp, hbp⟩ : ∃ b, decide (ps = ps') = b := ⟨_, rfl⟩
  obtain ⟨bs, hbs⟩ : ∃ b, decide (ss = ss') = b := ⟨_, rfl⟩
  rw [hbv] at hvi; rw [hbp] at hpi; rw [hbs] at hsi
  obtain ⟨res, hres⟩ : ∃ res, sameStB ⟨⟨va, vc, vs⟩, ⟨pa, pc, ps⟩, ⟨ea, ec, ss⟩, ⟨oa, oc, os⟩⟩ ⟨⟨va', vc', vs'⟩, ⟨pa', pc', ps'⟩, ⟨ea', ec', ss'⟩, ⟨oa', oc', os'⟩⟩ = res := ⟨_, rfl⟩
  rw [hres]
  have HR : Hid ((decide (os = os') && (bv && bp && bs)) = res) := Lib.hid (by rw [← hres]; unfold sameStB; simp only [hbv, hbp, hbs])
  clear hres hbv hbp hbs
  have hb0 : Below w.heap.size w ((w.alloc (.cells #[.slice va vs.length vc, .slice pa ps.length pc, .slice ea ss.length ec, .slice oa os.length oc] 54)).alloc (.cells #[.slice va' vs'.length vc', .slice pa' ps'.length pc', .slice ea' ss'.length ec', .slice oa' os'.length oc'] 54)) := ((Below.refl _ _).alloc (Nat.le_refl _) _).alloc (by simp) _
  have HX : Hid (StBx ((w.alloc (.cells #[.slice va vs.length vc, .slice pa ps.length pc, .slice ea ss.length ec, .slice oa os.length oc] 54)).alloc (.cells #[.slice va' vs'.length vc', .slice pa' ps'.length pc', .slice ea' ss'.length ec', .slice oa' os'.length oc'] 54)) w.heap.size ⟨⟨va, vc, vs⟩, ⟨pa, pc, ps⟩, ⟨ea, ec, ss⟩, ⟨oa, oc, os⟩⟩) :=
    Lib.hid ((StBx.new w ⟨⟨va, vc, vs⟩, ⟨pa, pc, ps⟩, ⟨ea, ec, ss⟩, ⟨oa, oc, os⟩⟩ 54).mono (alloc_below _ _))
  have HY : Hid (StBx ((w.alloc (.cells #[.slice va vs.length vc, .slice pa ps.length pc, .slice ea ss.length ec, .slice oa os.length oc] 54)).alloc (.cells #[.slice va' vs'.length vc', .slice pa' ps'.length pc', .slice ea' ss'.length ec', .slice oa' os'.length oc'] 54)) (w.heap.size + 1) ⟨⟨va', vc', vs'⟩, ⟨pa', pc', ps'⟩, ⟨ea', ec', ss'⟩, ⟨oa', oc', os'⟩⟩) := by
    have h := StBx.new (w.alloc (.cells #[.slice va vs.length vc, .slice pa ps.length pc, .slice ea ss.length ec, .slice oa os.length oc] 54)) ⟨⟨va', vc', vs'⟩, ⟨pa', pc', ps'⟩, ⟨ea', ec', ss'⟩, ⟨oa', oc', os'⟩⟩ 54
    rw [show (w.alloc (.cells #[.slice va vs.length vc, .slice pa ps.length pc, .slice ea ss.length ec, .slice oa os.length oc] 54)).heap.size = w.heap.size + 1 from by simp] at h
    exact Lib.hid h
  simp only [vSt, vSl]
  by_cases hl : os.length = os'.length
  rotate_left
  · have q := bneT (a := (os.length : Int)) (b := (os'.length : Int)) (by omega)
    have q' : (os.length != os'.length) = true := by simpa using hl
    have e1 : false = res := by rw [← HR.out, decide_eq_false (fun h => hl (by rw [h]))]; rfl
    subst e1
    clear HR hO hO' hl HX HY hvi hpi hsi
    go_enter Tryz.func31, Tryz.ntmps31
    go_wp2_with fail
    go_ret
    exact ⟨rfl, hb0⟩
  have q := bneF (a := (os.length : Int)) (b := (os'.length : Int)) (by omega)
  have q' : (os.length != os'.length) = false := by simpa using hl
  have HLN := Lib.hid hl
  clear hl
  go_enter Tryz.func31, Tryz.ntmps31
  go_wp2_with fail
  go_loopw [5] (fun s5 wr => ∃ i : Nat, i ≤ os.length ∧ s5 = .int .i64 i ∧ Below w.heap.size w wr ∧ Hid (StBx wr w.heap.size ⟨⟨va, vc, vs⟩, ⟨pa, pc, ps⟩, ⟨ea, ec, ss⟩, ⟨oa, oc, os⟩⟩) ∧ Hid (StBx wr (w.heap.size + 1) ⟨⟨va', vc', vs'⟩, ⟨pa', pc', ps'⟩, ⟨ea', ec', ss'⟩, ⟨oa', oc', os'⟩⟩) ∧ Hid ((decide (os.drop i = os'.drop i) && (bv && bp && bs)) = res)) (fun i _ => os.length - (intOf i).toNat)
  case atStart => exact ⟨0, Nat.zero_le _, rfl, hb0, HX, HY, HR⟩
  clear HR HX HY hb0
  case round =>
    as_aux_lemma =>
    obtain ⟨i, hi, rfl, hb, HX, HY, hm⟩ := hrel
    by_cases hlt : i < os.length
    · have kp : i < os'.length := by have := HLN.out; omega
      obtain ⟨vb, vo, rfl, cv⟩ := (hO.mono hb).boolAt i hlt
      obtain ⟨pb, po, rfl, cp⟩ := (hO'.mono hb).boolAt i kp
      have hm2 := hm.out
      rw [List.drop_eq_getElem_cons hlt, List.drop_eq_getElem_cons kp] at hm2
      have HBB := HB.out
      have i1 : (0 : Int) ≤ i := by omega
      have i2 : (i : Int) < os.length := by omega
      have i3 : (i : Int) < os'.length := by omega
      have x1 : IntKind.i64.wrap ((i : Int) + 1) = i + 1 := IntWalk.i64_in _ (by omega)
      clear hO hO' hm hvi hpi hsi
      obtain ⟨f0, f1, f2, f3⟩ := HX.out
      obtain ⟨g0, g1, g2, g3⟩ := HY.out
      simp only [vSl] at f0 f1 f2 f3 g0 g1 g2 g3
      generalize os[i] = x at *
      generalize os'[i] = y at *
      by_cases hxy : x = y
      · subst hxy
        have HM : Hid ((decide (os.drop (i + 1) = os'.drop (i + 1)) && (bv && bp && bs)) = res) := Lib.hid (by rw [← hm2]; simp)
        clear hm2
        cases x
        all_goals
          go_wp2_with fail
          go_quiet (fail)
          go_wp2_with fail
          go_roundw
          case measure => simp [intOf]; omega
          case rel => exact ⟨i + 1, by omega, by go_num, by repeat' (first | exact Below.refl _ _ | assumption | refine Below.more ?_ ?_ _ | refine Below.alloc ?_ ?_ _ | refine Below.drew ?_ | refine below_drewN ?_ _ | refine Below.setCell ?_ ?_ _ | exact Below.size (by assumption) | (simp [go_sem, size_more]; done) | (simp [go_sem, size_more]; omega)), HX.out.mono (by repeat' (first | exact Below.refl _ _ | assumption | refine Below.more ?_ ?_ _ | refine Below.alloc ?_ ?_ _ | refine Below.drew ?_ | refine below_drewN ?_ _ | refine Below.setCell ?_ ?_ _ | exact Below.size (by assumption) | (simp [go_sem, size_more]; done) | (simp [go_sem, size_more]; omega))), HY.out.mono (by repeat' (first | exact Below.refl _ _ | assumption | refine Below.more ?_ ?_ _ | refine Below.alloc ?_ ?_ _ | refine Below.drew ?_ | refine below_drewN ?_ _ | refine Below.setCell ?_ ?_ _ | exact Below.size (by assumption) | (simp [go_sem, size_more]; done) | (simp [go_sem, size_more]; omega))), HM⟩
      · have e1 : false = res := by rw [← hm2]; simp [hxy]
        subst e1
        clear hm2
        cases x <;> cases y
        · exact absurd rfl hxy
        · go_wp2_with fail
          go_quiet (fail)
          go_wp2_with fail
          go_ret
          exact ⟨rfl, by repeat' (first | exact Below.refl _ _ | assumption | refine Below.more ?_ ?_ _ | refine Below.alloc ?_ ?_ _ | refine Below.drew ?_ | refine below_drewN ?_ _ | refine Below.setCell ?_ ?_ _ | exact Below.size (by assumption) | (simp [go_sem, size_more]; done) | (simp [go_sem, size_more]; omega))⟩
        · go_wp2_with fail
          go_quiet (fail)
          go_wp2_with fail
          go_ret
          exact ⟨rfl, by repeat' (first | exact Below.refl _ _ | assumption | refine Below.more ?_ ?_ _ | refine Below.alloc ?_ ?_ _ | refine Below.drew ?_ | refine below_drewN ?_ _ | refine Below.setCell ?_ ?_ _ | exact Below.size (by assumption) | (simp [go_sem, size_more]; done) | (simp [go_sem, size_more]; omega))⟩
        · exact absurd rfl hxy
    · obtain rfl : i = os.length := by omega
      have e1 : (bv && bp && bs) = res := by
        rw [← hm.out, List.drop_eq_nil_of_le (Nat.le_refl _), List.drop_eq_nil_of_le (by have := HLN.out; omega)]; simp
      clear hm hO hO'
      obtain ⟨f0, f1, f2, f3⟩ := HX.out
      obtain ⟨g0, g1, g2, g3⟩ := HY.out
      simp only [vSl] at f0 f1 f2 f3 g0 g1 g2 g3
      cases bv
      · have e2 : false = res := e1
        subst e2
        go_wp2_with fail
        refine Calls.go hb (hvi _ hb) ?_
        rintro e w1 rfl hb1' hb1
        go_wp2_with fail
        go_ret
        exact ⟨rfl, hb1⟩
      cases bp
      · have e2 : false = res := e1
        subst e2
        go_wp2_with fail
        refine Calls.go hb (hvi _ hb) ?_
        rintro e w1 rfl hb1' hb1
        clear f0 f1 f2 f3 g0 g1 g2 g3
        obtain ⟨f0, f1, f2, f3⟩ := HX.out.mono hb1'
        obtain ⟨g0, g1, g2, g3⟩ := HY.out.mono hb1'
        simp only [vSl] at f0 f1 f2 f3 g0 g1 g2 g3
        go_wp2_with fail
        refine Calls.go hb1 (hpi _ hb1) ?_
        rintro e w2 rfl hb2' hb2
        go_wp2_with fail
        go_ret
        exact ⟨rfl, hb2⟩
      have e2 : bs = res := by rw [← e1]; simp
      subst e2
      go_wp2_with fail
      refine Calls.go hb (hvi _ hb) ?_
      rintro e w1 rfl hb1' hb1
      clear f0 f1 f2 f3 g0 g1 g2 g3
      have HX := Lib.hid (HX.out.mono hb1')
      have HY := Lib.hid (HY.out.mono hb1')
      obtain ⟨f0, f1, f2, f3⟩ := HX.out
      obtain ⟨g0, g1, g2, g3⟩ := HY.out
      simp only [vSl] at f0 f1 f2 f3 g0 g1 g2 g3
      go_wp2_with fail
      refine Calls.go hb1 (hpi _ hb1) ?_
      rintro e w2 rfl hb2' hb2
      clear f0 f1 f2 f3 g0 g1 g2 g3
      obtain ⟨f0, f1, f2, f3⟩ := HX.out.mono hb2'
      obtain ⟨g0, g1, g2, g3⟩ := HY.out.mono hb2'
      simp only [vSl] at f0 f1 f2 f3 g0 g1 g2 g3
      go_wp2_with fail
      refine Calls.go hb2 (hsi _ hb2) ?_
      rintro e w3 rfl hb3' hb3
      go_wp2_with fail
      go_ret
      exact ⟨rfl, hb3⟩

end Go.Proofs.YtjgfgbiohbgcaaaGreat
