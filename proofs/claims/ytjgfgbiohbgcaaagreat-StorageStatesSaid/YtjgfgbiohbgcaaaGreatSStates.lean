/- The law StorageStates returns true for every network, every state and all numbers, and leaves its arguments as they were. Conditions: none beyond the row's own. -/
import Derived.Test.YtjgfgbiohbgcaaaGreatRows
import Derived.WalkKit
import Derived.ProofKit
import Derived.OpenShut
import Derived.ShutString
import Derived.ChangeOld
import Derived.Below
import Derived.Test.YtjgfgbiohbgcaaaGreatMsi
import Derived.Test.YtjgfgbiohbgcaaaGreatMfs
import Derived.Test.YtjgfgbiohbgcaaaGreatMRef
import Derived.Test.YtjgfgbiohbgcaaaGreatMsem
import Derived.Test.YtjgfgbiohbgcaaaGreatMrem
import Derived.Test.YtjgfgbiohbgcaaaGreatRfl
import Derived.Test.YtjgfgbiohbgcaaaGreatRhd
import Derived.Test.YtjgfgbiohbgcaaaGreatSfl
import Derived.Test.YtjgfgbiohbgcaaaGreatMas
import Derived.Test.YtjgfgbiohbgcaaaGreatMfp
import Derived.Test.YtjgfgbiohbgcaaaGreatShd
import Derived.Test.YtjgfgbiohbgcaaaGreatNy
import Derived.Test.YtjgfgbiohbgcaaaGreatRowk
namespace Go.Proofs.YtjgfgbiohbgcaaaGreat.storageStates
open Go.ChangeShapes Go.WideShapes Go.ChangeAt Go.RowKit
set_option linter.unusedVariables false
set_option linter.unusedSimpArgs false
open Go.ChangeMaps (open_string shut_string)
set_option linter.unusedVariables false

theorem own : ownKnob Tryz.prog.godebug = none := by kernel_rfl
theorem laidOut : laidOutB Tryz.prog = true := by kernel_rfl

structure NtBx (W : World) (B : Nat) (n : Net) : Prop where
  c0 : W.cell? ⟨B, 0, none⟩ = some (vSl n.Ns)
  c1 : W.cell? ⟨B, 1, none⟩ = some (vSl n.Ls)
theorem NtBx.mono {w w' : World} {B : Nat} {n : Net} (h : NtBx w B n) (hb : Below w.heap.size w w') : NtBx w' B n := ⟨stbx_lt h.c0 hb, stbx_lt h.c1 hb⟩
theorem NtBx.new (w : World) (n : Net) (T : TypeId) : NtBx (w.alloc (.cells (eNet n).toArray T)) w.heap.size n := by
  refine ⟨?_, ?_⟩ <;> simp [go_sem]
theorem same_nil {x : St} (h : stL x = noSt) : sameStB x nilSt = true := by
  simp only [stL, noSt, Prod.mk.injEq] at h
  obtain ⟨h1, h2, h3, h4⟩ := h
  simp [sameStB, nilSt, h1, h2, h3, h4]
theorem same_lists {x y : St} (h : stL x = stL y) : sameStB x y = true := by
  simp only [stL, Prod.mk.injEq] at h
  obtain ⟨h1, h2, h3, h4⟩ := h
  simp [sameStB, h1, h2, h3, h4]
theorem stL_lens {x : St} {L : St4} (h : stL x = L) : x.V.xs = L.1 ∧ x.P.xs = L.2.1 ∧ x.S.xs = L.2.2.1 ∧ x.O.xs = L.2.2.2 := by
  subst h; exact ⟨rfl, rfl, rfl, rfl⟩


set_option maxRecDepth 100000 in
set_option maxHeartbeats 16000000 in
theorem walk (v0 : Value) (x0 : Net) (v1 : Value) (x1 : St) (i a : Int) (w : World) (w0 : v0 = vNet x0 ∧ gNet w x0) (w1 : v1 = vSt x1 ∧ gSt w x1) (w2 : (Lit.int .i64 i).wf = true) (w3 : (Lit.int .i64 a).wf = true) :
    Calls Tryz.prog 5 #[v0, v1, .int .i64 i, .int .i64 a] w fun e w' => e = .returned (.bool true) ∧ Below w.heap.size w w' := by
  obtain ⟨rfl, gn⟩ := w0
  obtain ⟨rfl, gs⟩ := w1
  clear w2 w3
  obtain ⟨⟨na, nc, nxs⟩, ⟨la, lc, lxs⟩⟩ := x0
  obtain ⟨⟨va, vc, vs⟩, ⟨pa, pc, ps⟩, ⟨ea, ec, ss⟩, ⟨oa, oc, os⟩⟩ := x1
  have hb0 : Below w.heap.size w ((w.alloc (.cells #[.slice na nxs.length nc, .slice la lxs.length lc] 42)).alloc (.cells #[.slice va vs.length vc, .slice pa ps.length pc, .slice ea ss.length ec, .slice oa os.length oc] 54)) := ((Below.refl _ _).alloc (Nat.le_refl _) _).alloc (by simp) _
  have HS : Hid (StBx ((w.alloc (.cells #[.slice na nxs.length nc, .slice la lxs.length lc] 42)).alloc (.cells #[.slice va vs.length vc, .slice pa ps.length pc, .slice ea ss.length ec, .slice oa os.length oc] 54)) (w.heap.size + 1) ⟨⟨va, vc, vs⟩, ⟨pa, pc, ps⟩, ⟨ea, ec, ss⟩, ⟨oa, oc, os⟩⟩) := by
    have h := StBx.new (w.alloc (.cells #[.slice na nxs.length nc, .slice la lxs.length lc] 42)) ⟨⟨va, vc, vs⟩, ⟨pa, pc, ps⟩, ⟨ea, ec, ss⟩, ⟨oa, oc, os⟩⟩ 54
    rw [show (w.alloc (.cells #[.slice na nxs.length nc, .slice la lxs.length lc] 42)).heap.size = w.heap.size + 1 from by simp] at h
    exact Lib.hid h
  have HN : Hid (NtBx ((w.alloc (.cells #[.slice na nxs.length nc, .slice la lxs.length lc] 42)).alloc (.cells #[.slice va vs.length vc, .slice pa ps.length pc, .slice ea ss.length ec, .slice oa os.length oc] 54)) w.heap.size ⟨⟨na, nc, nxs⟩, ⟨la, lc, lxs⟩⟩) :=
    Lib.hid ((NtBx.new w ⟨⟨na, nc, nxs⟩, ⟨la, lc, lxs⟩⟩ 42).mono (alloc_below _ _))
  have hFe := fun W => s9few_any ⟨⟨na, nc, nxs⟩, ⟨la, lc, lxs⟩⟩ W
  have hSl := fun W => s9slight_any ⟨⟨va, vc, vs⟩, ⟨pa, pc, ps⟩, ⟨ea, ec, ss⟩, ⟨oa, oc, os⟩⟩ W
  have hEm := fun W (hW : Below w.heap.size w W) => sempty_any ⟨⟨na, nc, nxs⟩, ⟨la, lc, lxs⟩⟩ W (rdNet.mono gn hW)
  have hHe := fun W (hW : Below w.heap.size w W) => held_any ⟨⟨na, nc, nxs⟩, ⟨la, lc, lxs⟩⟩ ⟨⟨va, vc, vs⟩, ⟨pa, pc, ps⟩, ⟨ea, ec, ss⟩, ⟨oa, oc, os⟩⟩ W (rdNet.mono gn hW) (rdSt.mono gs hW)
  have hFi := fun W (hW : Below w.heap.size w W) => fill_any ⟨⟨na, nc, nxs⟩, ⟨la, lc, lxs⟩⟩ ⟨⟨va, vc, vs⟩, ⟨pa, pc, ps⟩, ⟨ea, ec, ss⟩, ⟨oa, oc, os⟩⟩ i a W (rdNet.mono gn hW) (rdSt.mono gs hW)
  have hVa := fun W (hW : Below w.heap.size w W) => svalid_any ⟨⟨na, nc, nxs⟩, ⟨la, lc, lxs⟩⟩ ⟨⟨va, vc, vs⟩, ⟨pa, pc, ps⟩, ⟨ea, ec, ss⟩, ⟨oa, oc, os⟩⟩ W (rdNet.mono gn hW) (rdSt.mono gs hW)
  have hRn := fun W (hW : Below w.heap.size w W) => r26valid_any ⟨⟨na, nc, nxs⟩, ⟨la, lc, lxs⟩⟩ W (rdNet.mono gn hW)
  have hRs := fun (h : netB ⟨⟨na, nc, nxs⟩, ⟨la, lc, lxs⟩⟩ = true) W (hW : Below w.heap.size w W) => r29valid_any ⟨⟨na, nc, nxs⟩, ⟨la, lc, lxs⟩⟩ ⟨⟨va, vc, vs⟩, ⟨pa, pc, ps⟩, ⟨ea, ec, ss⟩, ⟨oa, oc, os⟩⟩ W (rdNet.mono gn hW) (rdSt.mono gs hW) h
  have hRf := fun (h : netB ⟨⟨na, nc, nxs⟩, ⟨la, lc, lxs⟩⟩ = true) (h2 : stB ⟨⟨na, nc, nxs⟩, ⟨la, lc, lxs⟩⟩ ⟨⟨va, vc, vs⟩, ⟨pa, pc, ps⟩, ⟨ea, ec, ss⟩, ⟨oa, oc, os⟩⟩ = true) W (hW : Below w.heap.size w W) => r29fill_any ⟨⟨na, nc, nxs⟩, ⟨la, lc, lxs⟩⟩ ⟨⟨va, vc, vs⟩, ⟨pa, pc, ps⟩, ⟨ea, ec, ss⟩, ⟨oa, oc, os⟩⟩ i a W (rdNet.mono gn hW) (rdSt.mono gs hW) h h2
  have hRe := fun (h1 : nxs.length ≤ 300) (h2 : lxs.length ≤ 400) W => r29empty_any ⟨⟨na, nc, nxs⟩, ⟨la, lc, lxs⟩⟩ W h1 h2
  have hRh : netB ⟨⟨na, nc, nxs⟩, ⟨la, lc, lxs⟩⟩ = true → stB ⟨⟨na, nc, nxs⟩, ⟨la, lc, lxs⟩⟩ ⟨⟨va, vc, vs⟩, ⟨pa, pc, ps⟩, ⟨ea, ec, ss⟩, ⟨oa, oc, os⟩⟩ = true → nxs.length ≤ 30 → ∀ W, Below w.heap.size w W → Calls Tryz.prog 34 #[vSt ⟨⟨va, vc, vs⟩, ⟨pa, pc, ps⟩, ⟨ea, ec, ss⟩, ⟨oa, oc, os⟩⟩] W fun e w' => e = .returned (.int .i64 (heldV ⟨⟨va, vc, vs⟩, ⟨pa, pc, ps⟩, ⟨ea, ec, ss⟩, ⟨oa, oc, os⟩⟩)) ∧ Below W.heap.size W w' := by
    intro h1 h2 h3 W hW
    have hl := stB_lens h2
    obtain ⟨q1, q2⟩ := st_all h1 h2
    rw [(heldV_sum h1 h2 h3).1]
    exact r29held_any _ W (rdSt.mono gs hW) (by simp only at hl ⊢; omega) (by simp only at hl ⊢; omega) q1 q2
  clear gn gs
  simp only [vNet, vSt, vSl] at hFe hSl hEm hHe hFi hVa hRn hRs hRf hRe hRh ⊢
  obtain ⟨n, hn⟩ : ∃ n : Net, n = ⟨⟨na, nc, nxs⟩, ⟨la, lc, lxs⟩⟩ := ⟨_, rfl⟩
  obtain ⟨s, hs⟩ : ∃ s : St, s = ⟨⟨va, vc, vs⟩, ⟨pa, pc, ps⟩, ⟨ea, ec, ss⟩, ⟨oa, oc, os⟩⟩ := ⟨_, rfl⟩
  obtain ⟨few, hfew⟩ : ∃ q, (decide ((nxs.length : Int) ≤ 30) && decide ((lxs.length : Int) ≤ 40)) = q := ⟨_, rfl⟩
  obtain ⟨sli, hsli⟩ : ∃ q, slightB ⟨⟨va, vc, vs⟩, ⟨pa, pc, ps⟩, ⟨ea, ec, ss⟩, ⟨oa, oc, os⟩⟩ = q := ⟨_, rfl⟩
  simp only [hfew] at hFe
  simp only [hsli] at hSl
  simp only [← hn, ← hs] at hEm hHe hFi hVa hRn hRs hRf hRe hRh
  clear hn hs hsli
  cases few
  · clear hEm hHe hFi hVa hRn hRs hRf hRe hRh hSl
    obtain ⟨e0, e1⟩ := HN.out
    obtain ⟨f0, f1, f2, f3⟩ := HS.out
    simp only [vSl] at e0 e1 f0 f1 f2 f3
    go_enter Tryz.func5, Tryz.ntmps5
    go_wp2_with fail
    refine Calls.go hb0 (s9awake_any _) ?_
    rintro e w1 rfl hb1' hb1
    clear e0 e1 f0 f1 f2 f3
    replace HN := Lib.hid (HN.out.mono hb1')
    replace HS := Lib.hid (HS.out.mono hb1')
    obtain ⟨e0, e1⟩ := HN.out
    obtain ⟨f0, f1, f2, f3⟩ := HS.out
    simp only [vSl] at e0 e1 f0 f1 f2 f3
    clear hb1' hb0
    go_wp2_with fail
    refine Calls.go hb1 (hFe _) ?_
    rintro e w2 rfl hb2' hb2
    go_wp2_with fail
    go_ret
    exact ⟨rfl, hb2⟩
  have h30 : nxs.length ≤ 30 ∧ lxs.length ≤ 40 := by simp at hfew; omega
  have hRe := hRe (by omega) (by omega)
  have hRh := fun h1 h2 => hRh h1 h2 h30.1
  clear h30 hfew
  obtain ⟨e0, e1⟩ := HN.out
  obtain ⟨f0, f1, f2, f3⟩ := HS.out
  simp only [vSl] at e0 e1 f0 f1 f2 f3
  go_enter Tryz.func5, Tryz.ntmps5
  go_wp2_with fail
  refine Calls.go hb0 (s9awake_any _) ?_
  rintro e w1 rfl hb1' hb1
  clear e0 e1 f0 f1 f2 f3
  replace HN := Lib.hid (HN.out.mono hb1')
  replace HS := Lib.hid (HS.out.mono hb1')
  obtain ⟨e0, e1⟩ := HN.out
  obtain ⟨f0, f1, f2, f3⟩ := HS.out
  simp only [vSl] at e0 e1 f0 f1 f2 f3
  clear hb1' hb0
  go_wp2_with fail
  refine Calls.go hb1 (hFe _) ?_
  rintro e w2 rfl hb2' hb2
  clear e0 e1 f0 f1 f2 f3
  replace HN := Lib.hid (HN.out.mono hb2')
  replace HS := Lib.hid (HS.out.mono hb2')
  obtain ⟨e0, e1⟩ := HN.out
  obtain ⟨f0, f1, f2, f3⟩ := HS.out
  simp only [vSl] at e0 e1 f0 f1 f2 f3
  clear hb2' hb1 hFe
  go_wp2_with fail
  refine Calls.go hb2 (hSl _) ?_
  rintro e w3 rfl hb3' hb3
  clear e0 e1 f0 f1 f2 f3
  replace HN := Lib.hid (HN.out.mono hb3')
  replace HS := Lib.hid (HS.out.mono hb3')
  obtain ⟨e0, e1⟩ := HN.out
  obtain ⟨f0, f1, f2, f3⟩ := HS.out
  simp only [vSl] at e0 e1 f0 f1 f2 f3
  clear hb3' hb2 hSl
  cases sli
  · go_wp2_with fail
    go_ret
    exact ⟨rfl, hb3⟩
  obtain ⟨nv, hnv⟩ : ∃ q, netB n = q := ⟨_, rfl⟩
  obtain ⟨sv, hsv⟩ : ∃ q, stB n s = q := ⟨_, rfl⟩
  obtain ⟨⟨XL, XE⟩, hXE⟩ : ∃ r, emptyM n = r := ⟨_, rfl⟩
  obtain ⟨⟨H, HE⟩, hHE⟩ : ∃ r, heldXM n s = r := ⟨_, rfl⟩
  obtain ⟨⟨YL, YE⟩, hYE⟩ : ∃ r, fillM n s i a = r := ⟨_, rfl⟩
  have HXE : Hid ((XL, XE) = if nv = false then (noSt, 1) else (emptyL n, 0)) := Lib.hid (hXE.symm.trans (by unfold emptyM; rw [hnv]))
  have HHE : Hid ((H, HE) = if (nv && sv) = true then (heldV s, 0) else (0, 1)) := Lib.hid (hHE.symm.trans (by unfold heldXM; rw [hnv, hsv]))
  have HYE : Hid ((nv && sv) = false → (YL, YE) = (noSt, 1)) := Lib.hid (fun h => hYE.symm.trans (by unfold fillM; rw [hnv, hsv, if_pos h]))
  simp only [hXE] at hEm
  simp only [hHE] at hHe
  simp only [hYE] at hFi hRf
  simp only [hnv] at hVa hRn hRs hRf hRh
  simp only [hsv] at hVa hRs hRf hRh
  clear hXE hHE hYE hnv hsv
  go_wp2_with fail
  refine Calls.go hb3 (hEm _ hb3) ?_
  rintro e w4 ⟨x, rfl, gx, lx⟩ hb4' hb4
  clear e0 e1 f0 f1 f2 f3
  replace HN := Lib.hid (HN.out.mono hb4')
  replace HS := Lib.hid (HS.out.mono hb4')
  obtain ⟨e0, e1⟩ := HN.out
  obtain ⟨f0, f1, f2, f3⟩ := HS.out
  simp only [vSl] at e0 e1 f0 f1 f2 f3
  clear hb4' hb3 hEm
  obtain ⟨⟨xva, xvc, xvs⟩, ⟨xpa, xpc, xps⟩, ⟨xea, xec, xss⟩, ⟨xoa, xoc, xos⟩⟩ := x
  have hb4a := Below.alloc hb4 hb4.size (.cells #[.slice xva xvs.length xvc, .slice xpa xps.length xpc, .slice xea xss.length xec, .slice xoa xos.length xoc] 54)
  have hal4 := alloc_below w4 (.cells #[.slice xva xvs.length xvc, .slice xpa xps.length xpc, .slice xea xss.length xec, .slice xoa xos.length xoc] 54)
  have HX := Lib.hid (StBx.new w4 ⟨⟨xva, xvc, xvs⟩, ⟨xpa, xpc, xps⟩, ⟨xea, xec, xss⟩, ⟨xoa, xoc, xos⟩⟩ 54)
  replace gx := rdSt.mono gx hal4
  obtain ⟨g0, g1, g2, g3⟩ := HX.out
  simp only [vSl] at g0 g1 g2 g3
  go_wp2_with fail
  clear e0 e1 f0 f1 f2 f3
  replace HN := Lib.hid (HN.out.mono hal4)
  replace HS := Lib.hid (HS.out.mono hal4)
  obtain ⟨e0, e1⟩ := HN.out
  obtain ⟨f0, f1, f2, f3⟩ := HS.out
  simp only [vSl] at e0 e1 f0 f1 f2 f3
  refine Calls.go hb4a (hHe _ hb4a) ?_
  rintro e w5 rfl hb5' hb5
  clear e0 e1 f0 f1 f2 f3
  replace HN := Lib.hid (HN.out.mono hb5')
  replace HS := Lib.hid (HS.out.mono hb5')
  obtain ⟨e0, e1⟩ := HN.out
  obtain ⟨f0, f1, f2, f3⟩ := HS.out
  simp only [vSl] at e0 e1 f0 f1 f2 f3
  clear g0 g1 g2 g3
  replace HX := Lib.hid (HX.out.mono hb5')
  replace gx := rdSt.mono gx hb5'
  obtain ⟨g0, g1, g2, g3⟩ := HX.out
  simp only [vSl] at g0 g1 g2 g3
  clear hb5' hb4 hb4a hal4 hHe
  go_wp2_with fail
  refine Calls.go hb5 (hFi _ hb5) ?_
  rintro e w6 ⟨y, rfl, gy, ly⟩ hb6' hb6
  clear e0 e1 f0 f1 f2 f3
  replace HN := Lib.hid (HN.out.mono hb6')
  replace HS := Lib.hid (HS.out.mono hb6')
  obtain ⟨e0, e1⟩ := HN.out
  obtain ⟨f0, f1, f2, f3⟩ := HS.out
  simp only [vSl] at e0 e1 f0 f1 f2 f3
  clear g0 g1 g2 g3
  replace HX := Lib.hid (HX.out.mono hb6')
  replace gx := rdSt.mono gx hb6'
  obtain ⟨g0, g1, g2, g3⟩ := HX.out
  simp only [vSl] at g0 g1 g2 g3
  clear hb6' hb5 hFi
  obtain ⟨⟨yva, yvc, yvs⟩, ⟨ypa, ypc, yps⟩, ⟨yea, yec, yss⟩, ⟨yoa, yoc, yos⟩⟩ := y
  have hb6a := Below.alloc hb6 hb6.size (.cells #[.slice yva yvs.length yvc, .slice ypa yps.length ypc, .slice yea yss.length yec, .slice yoa yos.length yoc] 54)
  have hal6 := alloc_below w6 (.cells #[.slice yva yvs.length yvc, .slice ypa yps.length ypc, .slice yea yss.length yec, .slice yoa yos.length yoc] 54)
  have HY := Lib.hid (StBx.new w6 ⟨⟨yva, yvc, yvs⟩, ⟨ypa, ypc, yps⟩, ⟨yea, yec, yss⟩, ⟨yoa, yoc, yos⟩⟩ 54)
  replace gy := rdSt.mono gy hal6
  go_wp2_with fail
  clear e0 e1 f0 f1 f2 f3
  replace HN := Lib.hid (HN.out.mono hal6)
  replace HS := Lib.hid (HS.out.mono hal6)
  obtain ⟨e0, e1⟩ := HN.out
  obtain ⟨f0, f1, f2, f3⟩ := HS.out
  simp only [vSl] at e0 e1 f0 f1 f2 f3
  clear g0 g1 g2 g3
  replace HX := Lib.hid (HX.out.mono hal6)
  replace gx := rdSt.mono gx hal6
  obtain ⟨g0, g1, g2, g3⟩ := HX.out
  simp only [vSl] at g0 g1 g2 g3
  obtain ⟨h0, h1, h2, h3⟩ := HY.out
  simp only [vSl] at h0 h1 h2 h3
  refine Calls.go hb6a (hRn _ hb6a) ?_
  rintro e w7 rfl hb7' hb7
  clear e0 e1 f0 f1 f2 f3
  replace HN := Lib.hid (HN.out.mono hb7')
  replace HS := Lib.hid (HS.out.mono hb7')
  obtain ⟨e0, e1⟩ := HN.out
  obtain ⟨f0, f1, f2, f3⟩ := HS.out
  simp only [vSl] at e0 e1 f0 f1 f2 f3
  clear g0 g1 g2 g3
  replace HX := Lib.hid (HX.out.mono hb7')
  replace gx := rdSt.mono gx hb7'
  obtain ⟨g0, g1, g2, g3⟩ := HX.out
  simp only [vSl] at g0 g1 g2 g3
  clear h0 h1 h2 h3
  replace HY := Lib.hid (HY.out.mono hb7')
  replace gy := rdSt.mono gy hb7'
  obtain ⟨h0, h1, h2, h3⟩ := HY.out
  simp only [vSl] at h0 h1 h2 h3
  clear hb7' hb6 hb6a hal6 hRn
  have hSy := fun (h : stL ⟨⟨yva, yvc, yvs⟩, ⟨ypa, ypc, yps⟩, ⟨yea, yec, yss⟩, ⟨yoa, yoc, yos⟩⟩ = noSt) W (hW : gSt W ⟨⟨yva, yvc, yvs⟩, ⟨ypa, ypc, yps⟩, ⟨yea, yec, yss⟩, ⟨yoa, yoc, yos⟩⟩) => same_any ⟨⟨yva, yvc, yvs⟩, ⟨ypa, ypc, yps⟩, ⟨yea, yec, yss⟩, ⟨yoa, yoc, yos⟩⟩ nilSt W hW (gSt_nil W)
  have hSx := fun (h : stL ⟨⟨xva, xvc, xvs⟩, ⟨xpa, xpc, xps⟩, ⟨xea, xec, xss⟩, ⟨xoa, xoc, xos⟩⟩ = noSt) W (hW : gSt W ⟨⟨xva, xvc, xvs⟩, ⟨xpa, xpc, xps⟩, ⟨xea, xec, xss⟩, ⟨xoa, xoc, xos⟩⟩) => same_any ⟨⟨xva, xvc, xvs⟩, ⟨xpa, xpc, xps⟩, ⟨xea, xec, xss⟩, ⟨xoa, xoc, xos⟩⟩ nilSt W hW (gSt_nil W)
  cases nv
  · have h2 := HXE.out
    rw [if_pos rfl] at h2
    simp only [Prod.mk.injEq] at h2
    obtain ⟨rfl, rfl⟩ := h2
    have h2 := HHE.out
    rw [if_neg (by simp)] at h2
    simp only [Prod.mk.injEq] at h2
    obtain ⟨rfl, rfl⟩ := h2
    have h2 := HYE.out rfl
    simp only [Prod.mk.injEq] at h2
    obtain ⟨rfl, rfl⟩ := h2
    replace hSy := hSy ly
    replace hSx := hSx lx
    rw [same_nil ly] at hSy
    rw [same_nil lx] at hSx
    simp only [vSt, vSl, nilSt] at hSy hSx
    simp only [Bool.false_and] at hVa
    clear HXE HHE HYE hRs hRf hRe hRh lx ly
    go_wp2_with fail
    refine Calls.go hb7 (hVa _ hb7) ?_
    rintro e w8 rfl hb8' hb8
    clear e0 e1 f0 f1 f2 f3
    replace HN := Lib.hid (HN.out.mono hb8')
    replace HS := Lib.hid (HS.out.mono hb8')
    obtain ⟨e0, e1⟩ := HN.out
    obtain ⟨f0, f1, f2, f3⟩ := HS.out
    simp only [vSl] at e0 e1 f0 f1 f2 f3
    clear g0 g1 g2 g3
    replace HX := Lib.hid (HX.out.mono hb8')
    replace gx := rdSt.mono gx hb8'
    obtain ⟨g0, g1, g2, g3⟩ := HX.out
    simp only [vSl] at g0 g1 g2 g3
    clear h0 h1 h2 h3
    replace HY := Lib.hid (HY.out.mono hb8')
    replace gy := rdSt.mono gy hb8'
    obtain ⟨h0, h1, h2, h3⟩ := HY.out
    simp only [vSl] at h0 h1 h2 h3
    clear hb8' hb7 hVa
    go_wp2_with fail
    refine Calls.go hb8 (hSx _ gx) ?_
    rintro e w9 rfl hb9' hb9
    clear e0 e1 f0 f1 f2 f3
    replace HN := Lib.hid (HN.out.mono hb9')
    replace HS := Lib.hid (HS.out.mono hb9')
    obtain ⟨e0, e1⟩ := HN.out
    obtain ⟨f0, f1, f2, f3⟩ := HS.out
    simp only [vSl] at e0 e1 f0 f1 f2 f3
    clear g0 g1 g2 g3
    replace HX := Lib.hid (HX.out.mono hb9')
    replace gx := rdSt.mono gx hb9'
    obtain ⟨g0, g1, g2, g3⟩ := HX.out
    simp only [vSl] at g0 g1 g2 g3
    clear h0 h1 h2 h3
    replace HY := Lib.hid (HY.out.mono hb9')
    replace gy := rdSt.mono gy hb9'
    obtain ⟨h0, h1, h2, h3⟩ := HY.out
    simp only [vSl] at h0 h1 h2 h3
    clear hb9' hb8 hSx
    go_wp2_with fail
    refine Calls.go hb9 (hSy _ gy) ?_
    rintro e w10 rfl hb10' hb10
    go_wp2_with fail
    go_ret
    exact ⟨rfl, hb10⟩
  have h2 := HXE.out
  rw [if_neg (by simp)] at h2
  simp only [Prod.mk.injEq] at h2
  obtain ⟨rfl, rfl⟩ := h2
  simp only [Bool.true_and] at hVa HHE HYE
  replace hRs := hRs (by trivial)
  replace hRf := hRf (by trivial)
  replace hRh := hRh (by trivial)
  clear HXE hSx
  go_wp2_with fail
  refine Calls.go hb7 (hRs _ hb7) ?_
  rintro e w8 rfl hb8' hb8
  clear e0 e1 f0 f1 f2 f3
  replace HN := Lib.hid (HN.out.mono hb8')
  replace HS := Lib.hid (HS.out.mono hb8')
  obtain ⟨e0, e1⟩ := HN.out
  obtain ⟨f0, f1, f2, f3⟩ := HS.out
  simp only [vSl] at e0 e1 f0 f1 f2 f3
  clear g0 g1 g2 g3
  replace HX := Lib.hid (HX.out.mono hb8')
  replace gx := rdSt.mono gx hb8'
  obtain ⟨g0, g1, g2, g3⟩ := HX.out
  simp only [vSl] at g0 g1 g2 g3
  clear h0 h1 h2 h3
  replace HY := Lib.hid (HY.out.mono hb8')
  replace gy := rdSt.mono gy hb8'
  obtain ⟨h0, h1, h2, h3⟩ := HY.out
  simp only [vSl] at h0 h1 h2 h3
  clear hb8' hb7 hRs
  go_wp2_with fail
  refine Calls.go hb8 (hVa _ hb8) ?_
  rintro e w9 rfl hb9' hb9
  clear e0 e1 f0 f1 f2 f3
  replace HN := Lib.hid (HN.out.mono hb9')
  replace HS := Lib.hid (HS.out.mono hb9')
  obtain ⟨e0, e1⟩ := HN.out
  obtain ⟨f0, f1, f2, f3⟩ := HS.out
  simp only [vSl] at e0 e1 f0 f1 f2 f3
  clear g0 g1 g2 g3
  replace HX := Lib.hid (HX.out.mono hb9')
  replace gx := rdSt.mono gx hb9'
  obtain ⟨g0, g1, g2, g3⟩ := HX.out
  simp only [vSl] at g0 g1 g2 g3
  clear h0 h1 h2 h3
  replace HY := Lib.hid (HY.out.mono hb9')
  replace gy := rdSt.mono gy hb9'
  obtain ⟨h0, h1, h2, h3⟩ := HY.out
  simp only [vSl] at h0 h1 h2 h3
  clear hb9' hb8 hVa
  have hSX : ∀ (z : St) W, gSt W ⟨⟨xva, xvc, xvs⟩, ⟨xpa, xpc, xps⟩, ⟨xea, xec, xss⟩, ⟨xoa, xoc, xos⟩⟩ → gSt W z → stL z = emptyL n → Calls Tryz.prog 31 #[vSt ⟨⟨xva, xvc, xvs⟩, ⟨xpa, xpc, xps⟩, ⟨xea, xec, xss⟩, ⟨xoa, xoc, xos⟩⟩, vSt z] W fun e w' => e = .returned (.bool true) ∧ Below W.heap.size W w' := by
    intro z W h1 h2 h3
    have := same_any _ z W h1 h2
    rw [same_lists (lx.trans h3.symm)] at this
    exact this
  simp only [vSt, vSl] at hSX
  have hkeep : ∀ W, Below w9.heap.size w9 W → (Below w9.heap.size w9 W ∧ W.cell? ⟨w4.heap.size, 0, none⟩ = some (.slice xva xvs.length xvc) ∧ W.cell? ⟨w4.heap.size, 1, none⟩ = some (.slice xpa xps.length xpc) ∧ W.cell? ⟨w4.heap.size, 2, none⟩ = some (.slice xea xss.length xec) ∧ W.cell? ⟨w4.heap.size, 3, none⟩ = some (.slice xoa xos.length xoc) ∧ W.cell? ⟨w.heap.size, 0, none⟩ = some (.slice na nxs.length nc) ∧ W.cell? ⟨w.heap.size, 1, none⟩ = some (.slice la lxs.length lc)) :=
    fun W hW => ⟨hW, stbx_lt g0 hW, stbx_lt g1 hW, stbx_lt g2 hW, stbx_lt g3 hW, stbx_lt e0 hW, stbx_lt e1 hW⟩
  clear lx
  go_wp2_with fail
  (go_region_held3 (fun w' => Below w9.heap.size w9 w' ∧ w'.cell? ⟨w4.heap.size, 0, none⟩ = some (.slice xva xvs.length xvc) ∧ w'.cell? ⟨w4.heap.size, 1, none⟩ = some (.slice xpa xps.length xpc) ∧ w'.cell? ⟨w4.heap.size, 2, none⟩ = some (.slice xea xss.length xec) ∧ w'.cell? ⟨w4.heap.size, 3, none⟩ = some (.slice xoa xos.length xoc) ∧ w'.cell? ⟨w.heap.size, 0, none⟩ = some (.slice na nxs.length nc) ∧ w'.cell? ⟨w.heap.size, 1, none⟩ = some (.slice la lxs.length lc))
    (first | ((try dsimp only at *); (try go_split_ands); refine hkeep _ ?_; repeat' (first | assumption | (refine Below.drew ?_) | exact Below.refl _ _)) | fail "keep")
    ((first
      | (go_at_call 32; (try dsimp only at *); (try go_split_ands); refine (hRe _).mono ?_; rintro e wE ⟨⟨z, rfl, gz, lz⟩, hbE'⟩; have hbE : Below w9.heap.size w9 wE := (by first | exact Below.trans (Below.drew (Below.refl _ _)) hbE' | exact hbE'))
      | (go_at_call 31; (try dsimp only at *); (try go_split_ands); refine (hSX z _ (rdSt.mono gx hbE) gz lz).mono ?_; rintro e wS ⟨rfl, hbS'⟩; have hbS := hbE.trans (hbS'.mono hbE.size)))))
  all_goals
    have hb10 := hb9.trans (hbS.mono hb9.size)
    clear hbE hbE' hbS' gz lz hSX hkeep hRe
    clear e0 e1 f0 f1 f2 f3 g0 g1 g2 g3 h0 h1 h2 h3
    replace HN := Lib.hid (HN.out.mono hbS)
    replace HS := Lib.hid (HS.out.mono hbS)
    replace HY := Lib.hid (HY.out.mono hbS)
    replace gy := rdSt.mono gy hbS
    obtain ⟨e0, e1⟩ := HN.out
    obtain ⟨f0, f1, f2, f3⟩ := HS.out
    simp only [vSl] at e0 e1 f0 f1 f2 f3
    obtain ⟨h0, h1, h2, h3⟩ := HY.out
    simp only [vSl] at h0 h1 h2 h3
    clear HX gx hbS hb9
    cases sv
    · have q2 := HHE.out
      rw [if_neg (by simp)] at q2
      simp only [Prod.mk.injEq] at q2
      obtain ⟨rfl, rfl⟩ := q2
      have q2 := HYE.out rfl
      simp only [Prod.mk.injEq] at q2
      obtain ⟨rfl, rfl⟩ := q2
      replace hSy := hSy ly
      rw [same_nil ly] at hSy
      simp only [vSt, vSl, nilSt] at hSy
      clear HHE HYE ly hRf hRh
      go_wp2_with fail
      refine Calls.go hb10 (hSy _ gy) ?_
      rintro e w11 rfl hb11' hb11
      go_wp2_with fail
      go_ret
      exact ⟨rfl, hb11⟩
    · have q2 := HHE.out
      rw [if_pos rfl] at q2
      simp only [Prod.mk.injEq] at q2
      obtain ⟨rfl, rfl⟩ := q2
      replace hRf := hRf (by trivial)
      replace hRh := hRh (by trivial)
      clear HHE HYE hSy
      go_wp2_with fail
      refine Calls.go hb10 (hRf _ hb10) ?_
      rintro e w11 ⟨z, rfl, gz, lz⟩ hb11' hb11
      obtain ⟨⟨zva, zvc, zvs⟩, ⟨zpa, zpc, zps⟩, ⟨zea, zec, zss⟩, ⟨zoa, zoc, zos⟩⟩ := z
      have hal11 := hb11'.trans (Below.mono (alloc_below w11 (.cells #[.slice zva zvs.length zvc, .slice zpa zps.length zpc, .slice zea zss.length zec, .slice zoa zos.length zoc] 54)) hb11'.size)
      have hb11a := Below.alloc hb11 hb11.size (.cells #[.slice zva zvs.length zvc, .slice zpa zps.length zpc, .slice zea zss.length zec, .slice zoa zos.length zoc] 54)
      have HZ := Lib.hid (StBx.new w11 ⟨⟨zva, zvc, zvs⟩, ⟨zpa, zpc, zps⟩, ⟨zea, zec, zss⟩, ⟨zoa, zoc, zos⟩⟩ 54)
      replace gz := rdSt.mono gz (alloc_below w11 (.cells #[.slice zva zvs.length zvc, .slice zpa zps.length zpc, .slice zea zss.length zec, .slice zoa zos.length zoc] 54))
      replace gy := rdSt.mono gy hal11
      clear e0 e1 f0 f1 f2 f3 h0 h1 h2 h3
      replace HN := Lib.hid (HN.out.mono hal11)
      replace HS := Lib.hid (HS.out.mono hal11)
      replace HY := Lib.hid (HY.out.mono hal11)
      obtain ⟨e0, e1⟩ := HN.out
      obtain ⟨f0, f1, f2, f3⟩ := HS.out
      simp only [vSl] at e0 e1 f0 f1 f2 f3
      obtain ⟨h0, h1, h2, h3⟩ := HY.out
      simp only [vSl] at h0 h1 h2 h3
      clear hb11' hal11 hb10 hb11 hRf
      go_wp2_with fail
      refine Calls.go hb11a (hRh _ hb11a) ?_
      rintro e w12 rfl hb12' hb12
      have hSm := same_any ⟨⟨yva, yvc, yvs⟩, ⟨ypa, ypc, yps⟩, ⟨yea, yec, yss⟩, ⟨yoa, yoc, yos⟩⟩ ⟨⟨zva, zvc, zvs⟩, ⟨zpa, zpc, zps⟩, ⟨zea, zec, zss⟩, ⟨zoa, zoc, zos⟩⟩ w12 (rdSt.mono gy hb12') (rdSt.mono gz hb12')
      rw [same_lists (ly.trans lz.symm)] at hSm
      simp only [vSt, vSl] at hSm
      clear e0 e1 f0 f1 f2 f3 h0 h1 h2 h3
      replace HN := Lib.hid (HN.out.mono hb12')
      replace HS := Lib.hid (HS.out.mono hb12')
      replace HY := Lib.hid (HY.out.mono hb12')
      replace HZ := Lib.hid (HZ.out.mono hb12')
      obtain ⟨e0, e1⟩ := HN.out
      obtain ⟨f0, f1, f2, f3⟩ := HS.out
      simp only [vSl] at e0 e1 f0 f1 f2 f3
      obtain ⟨h0, h1, h2, h3⟩ := HY.out
      simp only [vSl] at h0 h1 h2 h3
      obtain ⟨j0, j1, j2, j3⟩ := HZ.out
      simp only [vSl] at j0 j1 j2 j3
      clear hb12' hb11a hRh gy gz ly lz
      have u1 : (heldV s == heldV s) = true := by simp
      have u2 : (YE == YE) = true := by simp
      generalize heldV s = hv at *
      go_wp2_with fail
      refine Calls.go hb12 hSm ?_
      rintro e w13 rfl hb13' hb13
      go_wp2_with fail
      go_ret
      exact ⟨rfl, hb13⟩

/-! ### The row -/
set_option maxRecDepth 100000 in
theorem lifted (os : Os) (started : os.Started) (H : Type) (enc : TypeId × Value → H) :
    ReturnsInHanded {} Tryz.checked os 5 .any (Rows.storageStatesSpec.pre6 enc Tryz.prog Tryz.f5 Rows.storageStatesRow.domain false) (Rows.storageStatesSpec.post enc Tryz.prog Tryz.f5 false true false false) := by
  refine returnsInHanded_of_change (C := Tryz.checked) own started (by kernel_rfl) Tryz.func5
    (ChangeSpec.witness6 (enc := enc) (C := Tryz.checked) false ⟨#[], #[.agg #[.slice none 0 0, .slice none 0 0], .agg #[.slice none 0 0, .slice none 0 0, .slice none 0 0, .slice none 0 0], .int .i64 0, .int .i64 0], []⟩ 8 (by kernel_rfl) (by kernel_rfl) (by kernel_rfl) (by kernel_rfl)) ?_
  intro W base args ds gs before hval0 hW hcnd _
  have hval : ∀ (j : Nat) t v, Tryz.f5.params[j]? = some t → args[j]? = some v → Value.okWide Tryz.prog W .any base t v := hval0
  have hW' := hW
  obtain ⟨p, q, hA0, hV, rfl, hfz, hnd⟩ := hW
  have hA : DataW.TrodAll enc Tryz.prog W 0 (fun _ => true) true Tryz.f5.params.toList args.toList ds p := hA0
  rw [Tryz.params5] at hA hval
  obtain ⟨v0, vs0, d0, ds0, p0, q0, hargs, rfl, rfl, h0, r0⟩ := trodAll_cons hA
  obtain ⟨v1, vs1, d1, ds1, p1, q1, rfl, rfl, rfl, h1, r1⟩ := trodAll_cons r0
  obtain ⟨v2, vs2, d2, ds2, p2, q2, rfl, rfl, rfl, h2, r2⟩ := trodAll_cons r1
  obtain ⟨v3, vs3, d3, ds3, p3, q3, rfl, rfl, rfl, h3, r3⟩ := trodAll_cons r2
  obtain ⟨rfl, rfl, rfl⟩ := trodAll_nil r3
  obtain rfl : args = #[v0, v1, v2, v3] := by cases args; simp_all
  obtain ⟨rfl, rfl⟩ := trodVars_none hV
  have k0 := h0
  have lt0 : ∀ x ∈ p0, x.block < W.heap.size := by obtain ⟨m, hm⟩ := k0; exact DataW.trod_lt m _ _ _ hm
  obtain ⟨x0, w0⟩ := openNet (hval 0 42 v0 rfl rfl) h0
  have k1 := h1
  have lt1 : ∀ x ∈ p1, x.block < W.heap.size := by obtain ⟨m, hm⟩ := k1; exact DataW.trod_lt m _ _ _ hm
  obtain ⟨x1, w1⟩ := openSt (hval 1 54 v1 rfl rfl) h1
  obtain ⟨a2, rfl, rfl, rfl, w2⟩ := open_int Tryz.underlying3 (hval 2 3 v2 rfl rfl) h2
  obtain ⟨a3, rfl, rfl, rfl, w3⟩ := open_int Tryz.underlying3 (hval 3 3 v3 rfl rfl) h3
  clear hA0 hval0
  refine (walk v0 x0 v1 x1 a2 a3 W w0 w1 w2 w3).mono fun e W' ⟨he, bel⟩ => ?_
  subst he
  exact ⟨_, rfl, _, _, _, [], _, [], hW', trodAll_mk1 (shut_bool Tryz.underlying4 _), (trodAll_cons_mk (Below.trod laidOut (by kernel_rfl) (of_decide_eq_true (by kernel_rfl)) k0 bel lt0) (trodAll_cons_mk (Below.trod laidOut (by kernel_rfl) (of_decide_eq_true (by kernel_rfl)) k1 bel lt1) (trodAll_cons_mk (shut_int Tryz.underlying3 w2) (trodAll_cons_mk (shut_int Tryz.underlying3 w3) trodAll_mk0)))), rfl, bel.frame _, fun h => by cases h⟩

theorem over : Rows.storageStatesRow.holds Tryz.pinned (OpenSpec.ofChange Rows.storageStatesSpec) :=
  OpenClaim.holds_of_wide 5 Tryz.f5 rfl rfl rfl rfl rfl rfl rfl ⟨rfl, rfl, rfl, rfl, rfl⟩ rfl rfl rfl rfl rfl (by kernel_rfl) Tryz.func5 (by kernel_rfl)
    (of_decide_eq_true (by kernel_rfl)) (by unfold Func.isWrapper; first | (rw [if_pos (by decide +kernel)]; kernel_rfl) | (rw [if_neg (by decide +kernel)]; exact ⟨rfl, rfl⟩))
    (fun os started H enc _ => lifted os started H enc)

end Go.Proofs.YtjgfgbiohbgcaaaGreat.storageStates
namespace Go.Proofs.YtjgfgbiohbgcaaaGreat
/-- The statement. -/
theorem storageStates_holds : Rows.StorageStatesSaid := storageStates.over
#print axioms storageStates_holds
end Go.Proofs.YtjgfgbiohbgcaaaGreat
