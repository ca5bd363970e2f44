/- The law PumpsFaster returns true for every node, every link and all inflows, and leaves its arguments as they were. Conditions: none beyond the row's own. -/
import Derived.Test.YtmpegbebjefkaaaRows
import Derived.WalkKit
import Derived.ProofKit
import Derived.OpenShut
import Derived.ShutString
import Derived.ChangeOld
import Derived.Below
import Derived.Test.YtmpegbebjefkaaaPfa
import Derived.Test.YtmpegbebjefkaaaRowk
namespace Go.Proofs.Ytmpegbebjefkaaa.pumpsFaster
open Go.ChangeShapes Go.WideShapes Go.ChangeAt Go.RowKit
set_option linter.unusedVariables false
set_option linter.unusedSimpArgs false
open Go.ChangeMaps (open_string shut_string)
set_option linter.unusedVariables false

theorem own : ownKnob Try.prog.godebug = none := by kernel_rfl
theorem laidOut : laidOutB Try.prog = true := by kernel_rfl

set_option maxRecDepth 100000 in
set_option maxHeartbeats 16000000 in
theorem walk (v0 : Value) (x0 : Nd) (v1 : Value) (x1 : Lk) (a b : Int) (w : World) (w0 : v0 = vNd x0 ∧ gNd w x0) (w1 : v1 = vLk x1 ∧ gLk w x1) (w2 : (Lit.int .i64 a).wf = true) (w3 : (Lit.int .i64 b).wf = true) :
    Calls Try.prog 8 #[v0, v1, .int .i64 a, .int .i64 b] w fun e w' => e = .returned (.bool true) ∧ Below w.heap.size w w' := by
  obtain ⟨rfl, hn⟩ := w0
  obtain ⟨rfl, hg⟩ := w1
  clear w2 w3
  have hb0 : Below w.heap.size w ((w.alloc (.cells (eNd x0).toArray 56)).alloc (.cells (eLk x1).toArray 25)) := by repeat' (first | exact Below.refl _ _ | assumption | refine Below.more ?_ ?_ _ | refine Below.alloc ?_ ?_ _ | refine Below.drew ?_ | refine below_drewN ?_ _ | refine Below.setCell ?_ ?_ _ | exact Below.size (by assumption) | (simp [go_sem, size_more]; done) | (simp [go_sem, size_more]; omega))
  have HN := Lib.hid (rdNd.mono hn hb0)
  have HG := Lib.hid (rdLk.mono hg hb0)
  have HNX : Hid (NdBx ((w.alloc (.cells (eNd x0).toArray 56)).alloc (.cells (eLk x1).toArray 25)) w.heap.size x0) :=
    (NdBx.new w x0 56).mono (alloc_below _ _)
  have HBX : Hid (LkBx ((w.alloc (.cells (eNd x0).toArray 56)).alloc (.cells (eLk x1).toArray 25)) (w.heap.size + 1) x1) := by
    have h := LkBx.new (w.alloc (.cells (eNd x0).toArray 56)) x1 25
    rw [show (w.alloc (.cells (eNd x0).toArray 56)).heap.size = w.heap.size + 1 from by simp] at h
    exact h
  clear hn hg
  have hfa := fun W (hN : gNd W x0) (hG : gLk W x1) => pfill_any x0 x1 a W hN hG
  have hfb := fun W (hN : gNd W x0) (hG : gLk W x1) => pfill_any x0 x1 b W hN hG
  have hea := fun W (hN : gNd W x0) (hG : gLk W x1) => penough_any x0 x1 a W hN hG
  have heb := fun W (hN : gNd W x0) (hG : gLk W x1) => penough_any x0 x1 b W hN hG
  have hda := fun W (hN : gNd W x0) (hG : gLk W x1) => pdrain_any x0 x1 a W hN hG
  have hdb := fun W (hN : gNd W x0) (hG : gLk W x1) => pdrain_any x0 x1 b W hN hG
  have HXA := Lib.hid (fillM_err (x := x0) (l := x1) (q := a))
  have HXB := Lib.hid (fillM_err (x := x0) (l := x1) (q := b))
  have HFA := Lib.hid (fun h1 h2 => faster (x := x0) (l := x1) (a := a) (b := b) h1 h2)
  generalize fillM x0 x1 a = fa at *
  generalize fillM x0 x1 b = fb at *
  generalize drainM x0 x1 a = da at *
  generalize drainM x0 x1 b = db at *
  generalize enoughM x0 x1 a = na at *
  generalize enoughM x0 x1 b = nb at *
  obtain ⟨x1', x2', x3'⟩ := fa
  obtain ⟨y1, y2, y3⟩ := fb
  obtain ⟨p1, p2, p3⟩ := da
  obtain ⟨q1, q2, q3⟩ := db
  obtain ⟨le, e1⟩ := na
  obtain ⟨mo, e2⟩ := nb
  simp only [vEn] at hfa hfb hda hdb
  simp only at hea heb HXA HXB
  obtain ⟨nm, fr, tt, kd, ln, up, dn, sc, wi, he, cu⟩ := x1
  obtain ⟨m0, m1, m2, m3, m4, m5, m6, m7, m8⟩ := x0
  go_enter Try.func8, Try.ntmps8
  go_wp2_with fail
  refine Calls.go hb0 (pawake_any _) ?_
  rintro e w1 rfl hb1' hb1
  have HBX := Lib.hid (HBX.out.mono hb1')
  have HNX := Lib.hid (HNX.out.mono hb1')
  have HG := Lib.hid (rdLk.mono HG.out hb1')
  have HN := Lib.hid (rdNd.mono HN.out hb1')
  obtain ⟨c0, c1, c2, c3, c4, c5, c6, c7, c8, c9, c10⟩ := HBX.out
  simp only at c0 c1 c2 c3 c4 c5 c6 c7 c8 c9 c10
  obtain ⟨n0, n1, n2, n3, n4, n5, n6, n7, n8⟩ := HNX.out
  simp only at n0 n1 n2 n3 n4 n5 n6 n7 n8
  clear hb1' hb0
  go_wp2_with fail
  refine Calls.go hb1 (psmall_any ⟨nm, fr, tt, kd, ln, up, dn, sc, wi, he, cu⟩ _) ?_
  rintro e w2 ⟨sm, rfl⟩ hb2' hb2
  clear c0 c1 c2 c3 c4 c5 c6 c7 c8 c9 c10 n0 n1 n2 n3 n4 n5 n6 n7 n8
  have HBX := Lib.hid (HBX.out.mono hb2')
  have HNX := Lib.hid (HNX.out.mono hb2')
  have HG := Lib.hid (rdLk.mono HG.out hb2')
  have HN := Lib.hid (rdNd.mono HN.out hb2')
  obtain ⟨c0, c1, c2, c3, c4, c5, c6, c7, c8, c9, c10⟩ := HBX.out
  simp only at c0 c1 c2 c3 c4 c5 c6 c7 c8 c9 c10
  obtain ⟨n0, n1, n2, n3, n4, n5, n6, n7, n8⟩ := HNX.out
  simp only at n0 n1 n2 n3 n4 n5 n6 n7 n8
  clear hb2' hb1
  cases sm
  · go_wp2_with fail
    go_ret
    exact ⟨rfl, hb2⟩
  go_wp2_with fail
  refine Calls.go hb2 (pslight_any ⟨m0, m1, m2, m3, m4, m5, m6, m7, m8⟩ _) ?_
  rintro e w3 ⟨sl, rfl⟩ hb3' hb3
  clear c0 c1 c2 c3 c4 c5 c6 c7 c8 c9 c10 n0 n1 n2 n3 n4 n5 n6 n7 n8
  have HBX := Lib.hid (HBX.out.mono hb3')
  have HNX := Lib.hid (HNX.out.mono hb3')
  have HG := Lib.hid (rdLk.mono HG.out hb3')
  have HN := Lib.hid (rdNd.mono HN.out hb3')
  obtain ⟨c0, c1, c2, c3, c4, c5, c6, c7, c8, c9, c10⟩ := HBX.out
  simp only at c0 c1 c2 c3 c4 c5 c6 c7 c8 c9 c10
  obtain ⟨n0, n1, n2, n3, n4, n5, n6, n7, n8⟩ := HNX.out
  simp only at n0 n1 n2 n3 n4 n5 n6 n7 n8
  clear hb3' hb2
  cases sl
  · go_wp2_with fail
    go_ret
    exact ⟨rfl, hb3⟩
  cases t1 : decide (a < 1)
  rotate_left
  · go_wp2_with fail
    go_ret
    exact ⟨rfl, hb3⟩
  cases t2 : decide (b < a)
  rotate_left
  · go_wp2_with fail
    go_ret
    exact ⟨rfl, hb3⟩
  have HFA := Lib.hid (HFA.out (by simp only [decide_eq_false_iff_not] at t1; omega) (by simp only [decide_eq_false_iff_not] at t2; omega))
  go_wp2_with fail
  refine Calls.go hb3 (hfa _ HN.out HG.out) ?_
  rintro e w4 rfl hb4' hb4
  clear c0 c1 c2 c3 c4 c5 c6 c7 c8 c9 c10 n0 n1 n2 n3 n4 n5 n6 n7 n8
  have HBX := Lib.hid (HBX.out.mono hb4')
  have HNX := Lib.hid (HNX.out.mono hb4')
  have HG := Lib.hid (rdLk.mono HG.out hb4')
  have HN := Lib.hid (rdNd.mono HN.out hb4')
  obtain ⟨c0, c1, c2, c3, c4, c5, c6, c7, c8, c9, c10⟩ := HBX.out
  simp only at c0 c1 c2 c3 c4 c5 c6 c7 c8 c9 c10
  obtain ⟨n0, n1, n2, n3, n4, n5, n6, n7, n8⟩ := HNX.out
  simp only at n0 n1 n2 n3 n4 n5 n6 n7 n8
  clear hb4' hb3 hfa t1 t2
  go_wp2_with fail
  have hX := Sp2.new w4 x1' x2' 38
  have hA4 := alloc_below w4 (.cells #[.int .i64 x1', .int .i64 x2'] 38)
  have hb4 := hb4.alloc hb4.size (.cells #[.int .i64 x1', .int .i64 x2'] 38)
  refine Calls.go hb4 (hfb _ (rdNd.mono HN.out hA4) (rdLk.mono HG.out hA4)) ?_
  rintro e w5 rfl hb5' hb5
  clear c0 c1 c2 c3 c4 c5 c6 c7 c8 c9 c10 n0 n1 n2 n3 n4 n5 n6 n7 n8
  have hb45 := hA4.trans (hb5'.mono hA4.size)
  have HBX := Lib.hid (HBX.out.mono hb45)
  have HNX := Lib.hid (HNX.out.mono hb45)
  have HG := Lib.hid (rdLk.mono HG.out hb45)
  have HN := Lib.hid (rdNd.mono HN.out hb45)
  obtain ⟨c0, c1, c2, c3, c4, c5, c6, c7, c8, c9, c10⟩ := HBX.out
  simp only at c0 c1 c2 c3 c4 c5 c6 c7 c8 c9 c10
  obtain ⟨n0, n1, n2, n3, n4, n5, n6, n7, n8⟩ := HNX.out
  simp only at n0 n1 n2 n3 n4 n5 n6 n7 n8
  have hX := hX.mono hb5'
  have hXl := hX.lt
  obtain ⟨z0, z1⟩ := hX
  clear hb5' hb4 hfb hA4 hb45
  have hb5n := hb5.alloc hb5.size (.cells #[.int .i64 y1, .int .i64 y2] 38)
  generalize w4.heap.size = B4 at *
  cases hx3 : (x3' == 0)
  · obtain ⟨rfl, rfl⟩ := HXA.out (beq_eq_false_iff_ne.1 hx3)
    have hxn : (x3' != 0) = true := by rw [bne, hx3]; rfl
    cases hy3 : (y3 == 0)
    · obtain ⟨rfl, rfl⟩ := HXB.out (beq_eq_false_iff_ne.1 hy3)
      go_wp2_with fail
      go_ret
      exact ⟨rfl, hb5n⟩
    · go_wp2_with fail
      go_ret
      exact ⟨rfl, hb5n⟩
  obtain rfl : x3' = 0 := beq_iff_eq.1 hx3
  cases hy3 : (y3 == 0)
  · obtain ⟨rfl, rfl⟩ := HXB.out (beq_eq_false_iff_ne.1 hy3)
    have hyn : (y3 != 0) = true := by rw [bne, hy3]; rfl
    go_wp2_with fail
    go_ret
    exact ⟨rfl, hb5n⟩
  obtain rfl : y3 = 0 := beq_iff_eq.1 hy3
  obtain ⟨f1, f2, f3, f4, f5, f6, rfl, rfl, g3, h1, h2, h3⟩ := HFA.out rfl rfl
  simp only at f1 f2 f3 f4 f5 f6 g3 h1 h2 h3
  have u1 : decide (x1' < y1) = false := decide_eq_false (by omega)
  have u2 : decide (x2' < y2) = false := decide_eq_false (by omega)
  have u3 : decide (x2' < x1') = false := decide_eq_false (by omega)
  have u4 : IntKind.i64.wrap (x2' - x1') = x2' - x1' := IntWalk.i64_in _ (by omega)
  have u5 : decide (1 < x2' - x1') = false := decide_eq_false (by omega)
  have u6 : decide (x1' < 0) = false := decide_eq_false (by omega)
  have G3 := Lib.hid g3
  have H3 := Lib.hid h3
  clear hx3 hy3 f1 f2 f3 f4 f5 f6 HFA HXA HXB g3 h3
  have hA5 := alloc_below w5 (.cells #[.int .i64 y1, .int .i64 y2] 38)
  go_wp2_with fail
  refine Calls.go hb5n (hea _ (rdNd.mono HN.out hA5) (rdLk.mono HG.out hA5)) ?_
  rintro e w6 rfl hb6' hb6
  have hb56 := hA5.trans (hb6'.mono hA5.size)
  clear c0 c1 c2 c3 c4 c5 c6 c7 c8 c9 c10 n0 n1 n2 n3 n4 n5 n6 n7 n8
  have HBX := Lib.hid (HBX.out.mono hb56)
  have HNX := Lib.hid (HNX.out.mono hb56)
  have HG := Lib.hid (rdLk.mono HG.out hb56)
  have HN := Lib.hid (rdNd.mono HN.out hb56)
  obtain ⟨c0, c1, c2, c3, c4, c5, c6, c7, c8, c9, c10⟩ := HBX.out
  simp only at c0 c1 c2 c3 c4 c5 c6 c7 c8 c9 c10
  obtain ⟨n0, n1, n2, n3, n4, n5, n6, n7, n8⟩ := HNX.out
  simp only at n0 n1 n2 n3 n4 n5 n6 n7 n8
  clear z0 z1 hXl hb56 hA5 hb6' hb5n hb5 hea u1 u2 u3 u4 u5 u6
  go_wp2_with fail
  refine Calls.go hb6 (heb _ HN.out HG.out) ?_
  rintro e w7 rfl hb7' hb7
  clear c0 c1 c2 c3 c4 c5 c6 c7 c8 c9 c10 n0 n1 n2 n3 n4 n5 n6 n7 n8
  have HBX := Lib.hid (HBX.out.mono hb7')
  have HNX := Lib.hid (HNX.out.mono hb7')
  have HG := Lib.hid (rdLk.mono HG.out hb7')
  have HN := Lib.hid (rdNd.mono HN.out hb7')
  obtain ⟨c0, c1, c2, c3, c4, c5, c6, c7, c8, c9, c10⟩ := HBX.out
  simp only at c0 c1 c2 c3 c4 c5 c6 c7 c8 c9 c10
  obtain ⟨n0, n1, n2, n3, n4, n5, n6, n7, n8⟩ := HNX.out
  simp only at n0 n1 n2 n3 n4 n5 n6 n7 n8
  clear hb7' hb6 heb
  cases mo
  rotate_left
  · obtain rfl := G3.out rfl
    obtain ⟨j1, j2, j3, j4⟩ := H3.out rfl
    have u1 : decide (p1 ≤ q1) = true := decide_eq_true j1
    have u2 : decide (p2 ≤ q2) = true := decide_eq_true j2
    have u3 : decide (p1 ≤ p2) = true := decide_eq_true j3
    have u4 : decide (q1 ≤ q2) = true := decide_eq_true j4
    obtain rfl : p3 = 0 := beq_iff_eq.1 h1
    obtain rfl : q3 = 0 := beq_iff_eq.1 h2
    clear j1 j2 j3 j4 h1 h2
    go_wp2_with fail
    refine Calls.go hb7 (hda _ HN.out HG.out) ?_
    rintro e w8 rfl hb8' hb8
    clear c0 c1 c2 c3 c4 c5 c6 c7 c8 c9 c10 n0 n1 n2 n3 n4 n5 n6 n7 n8
    have HBX := Lib.hid (HBX.out.mono hb8')
    have HNX := Lib.hid (HNX.out.mono hb8')
    have HG := Lib.hid (rdLk.mono HG.out hb8')
    have HN := Lib.hid (rdNd.mono HN.out hb8')
    obtain ⟨c0, c1, c2, c3, c4, c5, c6, c7, c8, c9, c10⟩ := HBX.out
    simp only at c0 c1 c2 c3 c4 c5 c6 c7 c8 c9 c10
    obtain ⟨n0, n1, n2, n3, n4, n5, n6, n7, n8⟩ := HNX.out
    simp only at n0 n1 n2 n3 n4 n5 n6 n7 n8
    clear hb8' hb7 hda
    go_wp2_with fail
    have hP := Sp2.new w8 p1 p2 38
    have hA8 := alloc_below w8 (.cells #[.int .i64 p1, .int .i64 p2] 38)
    have hb8 := hb8.alloc hb8.size (.cells #[.int .i64 p1, .int .i64 p2] 38)
    refine Calls.go hb8 (hdb _ (rdNd.mono HN.out hA8) (rdLk.mono HG.out hA8)) ?_
    rintro e w9 rfl hb9' hb9
    have hP := hP.mono hb9'
    have hPl := hP.lt
    obtain ⟨z0, z1⟩ := hP
    clear c0 c1 c2 c3 c4 c5 c6 c7 c8 c9 c10 n0 n1 n2 n3 n4 n5 n6 n7 n8
    clear hb9' hb8 hA8 hdb
    generalize w8.heap.size = B8 at *
    go_wp2_with fail
    go_ret
    exact ⟨rfl, by repeat' (first | exact Below.refl _ _ | assumption | refine Below.more ?_ ?_ _ | refine Below.alloc ?_ ?_ _ | refine Below.drew ?_ | refine below_drewN ?_ _ | refine Below.setCell ?_ ?_ _ | exact Below.size (by assumption) | (simp [go_sem, size_more]; done) | (simp [go_sem, size_more]; omega))⟩
  cases le
  all_goals
    go_wp2_with fail
    refine Calls.go hb7 (hda _ HN.out HG.out) ?_
    rintro e w8 rfl hb8' hb8
    clear c0 c1 c2 c3 c4 c5 c6 c7 c8 c9 c10 n0 n1 n2 n3 n4 n5 n6 n7 n8
    have HBX := Lib.hid (HBX.out.mono hb8')
    have HNX := Lib.hid (HNX.out.mono hb8')
    have HG := Lib.hid (rdLk.mono HG.out hb8')
    have HN := Lib.hid (rdNd.mono HN.out hb8')
    obtain ⟨c0, c1, c2, c3, c4, c5, c6, c7, c8, c9, c10⟩ := HBX.out
    simp only at c0 c1 c2 c3 c4 c5 c6 c7 c8 c9 c10
    obtain ⟨n0, n1, n2, n3, n4, n5, n6, n7, n8⟩ := HNX.out
    simp only at n0 n1 n2 n3 n4 n5 n6 n7 n8
    clear hb8' hb7 hda
    go_wp2_with fail
    have hA8 := alloc_below w8 (.cells #[.int .i64 p1, .int .i64 p2] 38)
    have hb8 := hb8.alloc hb8.size (.cells #[.int .i64 p1, .int .i64 p2] 38)
    refine Calls.go hb8 (hdb _ (rdNd.mono HN.out hA8) (rdLk.mono HG.out hA8)) ?_
    rintro e w9 rfl hb9' hb9
    clear c0 c1 c2 c3 c4 c5 c6 c7 c8 c9 c10 n0 n1 n2 n3 n4 n5 n6 n7 n8
    clear hb9' hb8 hA8 hdb
    go_wp2_with fail
    go_ret
    exact ⟨rfl, by repeat' (first | exact Below.refl _ _ | assumption | refine Below.more ?_ ?_ _ | refine Below.alloc ?_ ?_ _ | refine Below.drew ?_ | refine below_drewN ?_ _ | refine Below.setCell ?_ ?_ _ | exact Below.size (by assumption) | (simp [go_sem, size_more]; done) | (simp [go_sem, size_more]; omega))⟩

/-! ### The row -/
set_option maxRecDepth 100000 in
theorem lifted (os : Os) (started : os.Started) (H : Type) (enc : TypeId × Value → H) :
    ReturnsInHanded {} Try.checked os 8 .any (Rows.pumpsFasterSpec.pre6 enc Try.prog Try.f8 Rows.pumpsFasterRow.domain false) (Rows.pumpsFasterSpec.post enc Try.prog Try.f8 false true false false) := by
  refine returnsInHanded_of_change (C := Try.checked) own started (by kernel_rfl) Try.func8
    (ChangeSpec.witness6 (enc := enc) (C := Try.checked) false ⟨#[], #[.agg #[.string ⟨#[]⟩, .int .i64 0, .int .i64 0, .int .i64 0, .int .i64 0, .int .i64 0, .slice none 0 0, .bool false, .int .i64 0], .agg #[.string ⟨#[]⟩, .string ⟨#[]⟩, .string ⟨#[]⟩, .int .i64 0, .int .i64 0, .int .i64 0, .int .i64 0, .string ⟨#[]⟩, .int .i64 0, .int .i64 0, .slice none 0 0], .int .i64 0, .int .i64 0], []⟩ 8 (by kernel_rfl) (by kernel_rfl) (by kernel_rfl) (by kernel_rfl)) ?_
  intro W base args ds gs before hval0 hW hcnd _
  have hval : ∀ (j : Nat) t v, Try.f8.params[j]? = some t → args[j]? = some v → Value.okWide Try.prog W .any base t v := hval0
  have hW' := hW
  obtain ⟨p, q, hA0, hV, rfl, hfz, hnd⟩ := hW
  have hA : DataW.TrodAll enc Try.prog W 0 (fun _ => true) true Try.f8.params.toList args.toList ds p := hA0
  rw [Try.params8] at hA hval
  obtain ⟨v0, vs0, d0, ds0, p0, q0, hargs, rfl, rfl, h0, r0⟩ := trodAll_cons hA
  obtain ⟨v1, vs1, d1, ds1, p1, q1, rfl, rfl, rfl, h1, r1⟩ := trodAll_cons r0
  obtain ⟨v2, vs2, d2, ds2, p2, q2, rfl, rfl, rfl, h2, r2⟩ := trodAll_cons r1
  obtain ⟨v3, vs3, d3, ds3, p3, q3, rfl, rfl, rfl, h3, r3⟩ := trodAll_cons r2
  obtain ⟨rfl, rfl, rfl⟩ := trodAll_nil r3
  obtain rfl : args = #[v0, v1, v2, v3] := by cases args; simp_all
  obtain ⟨rfl, rfl⟩ := trodVars_none hV
  have k0 := h0
  have lt0 : ∀ x ∈ p0, x.block < W.heap.size := by obtain ⟨m, hm⟩ := k0; exact DataW.trod_lt m _ _ _ hm
  obtain ⟨x0, w0⟩ := openNd (hval 0 56 v0 rfl rfl) h0
  have k1 := h1
  have lt1 : ∀ x ∈ p1, x.block < W.heap.size := by obtain ⟨m, hm⟩ := k1; exact DataW.trod_lt m _ _ _ hm
  obtain ⟨x1, w1⟩ := openLk (hval 1 25 v1 rfl rfl) h1
  obtain ⟨a2, rfl, rfl, rfl, w2⟩ := open_int Try.underlying3 (hval 2 3 v2 rfl rfl) h2
  obtain ⟨a3, rfl, rfl, rfl, w3⟩ := open_int Try.underlying3 (hval 3 3 v3 rfl rfl) h3
  clear hA0 hval0
  refine (walk v0 x0 v1 x1 a2 a3 W w0 w1 w2 w3).mono fun e W' ⟨he, bel⟩ => ?_
  subst he
  exact ⟨_, rfl, _, _, _, [], _, [], hW', trodAll_mk1 (shut_bool Try.underlying4 _), (trodAll_cons_mk (Below.trod laidOut (by kernel_rfl) (of_decide_eq_true (by kernel_rfl)) k0 bel lt0) (trodAll_cons_mk (Below.trod laidOut (by kernel_rfl) (of_decide_eq_true (by kernel_rfl)) k1 bel lt1) (trodAll_cons_mk (shut_int Try.underlying3 w2) (trodAll_cons_mk (shut_int Try.underlying3 w3) trodAll_mk0)))), rfl, bel.frame _, fun h => by cases h⟩

theorem over : Rows.pumpsFasterRow.holds Try.pinned (OpenSpec.ofChange Rows.pumpsFasterSpec) :=
  OpenClaim.holds_of_wide 8 Try.f8 rfl rfl rfl rfl rfl rfl rfl ⟨rfl, rfl, rfl, rfl, rfl⟩ rfl rfl rfl rfl rfl (by kernel_rfl) Try.func8 (by kernel_rfl)
    (of_decide_eq_true (by kernel_rfl)) (by unfold Func.isWrapper; first | (rw [if_pos (by decide +kernel)]; kernel_rfl) | (rw [if_neg (by decide +kernel)]; exact ⟨rfl, rfl⟩))
    (fun os started H enc _ => lifted os started H enc)

end Go.Proofs.Ytmpegbebjefkaaa.pumpsFaster
namespace Go.Proofs.Ytmpegbebjefkaaa
/-- The statement. -/
theorem pumpsFaster_holds : Rows.PumpsFasterSaid := pumpsFaster.over
#print axioms pumpsFaster_holds
end Go.Proofs.Ytmpegbebjefkaaa
