/- The law StorageFilled returns true for every network, every state and all numbers, and leaves its arguments as they were. Conditions: none beyond the row's own. -/
import Derived.Test.YtjgfgbiohbgcaaaRows
import Derived.WalkKit
import Derived.ProofKit
import Derived.OpenShut
import Derived.ShutString
import Derived.ChangeOld
import Derived.Below
import Derived.Test.YtjgfgbiohbgcaaaSaw
import Derived.Test.YtjgfgbiohbgcaaaMfs
import Derived.Test.YtjgfgbiohbgcaaaMas
import Derived.Test.YtjgfgbiohbgcaaaSfl
import Derived.Test.YtjgfgbiohbgcaaaMfp
import Derived.Test.YtjgfgbiohbgcaaaRowk
namespace Go.Proofs.Ytjgfgbiohbgcaaa.storageFilled
open Go.ChangeShapes Go.WideShapes Go.ChangeAt Go.RowKit
set_option linter.unusedVariables false
set_option linter.unusedSimpArgs false
open Go.ChangeMaps (open_string shut_string)
set_option linter.unusedVariables false

theorem own : ownKnob Try.prog.godebug = none := by kernel_rfl
theorem laidOut : laidOutB Try.prog = true := by kernel_rfl

structure NtBx (W : World) (B : Nat) (n : Net) : Prop where
  c0 : W.cell? ⟨B, 0, none⟩ = some (vSl n.Ns)
  c1 : W.cell? ⟨B, 1, none⟩ = some (vSl n.Ls)
theorem NtBx.mono {w w' : World} {B : Nat} {n : Net} (h : NtBx w B n) (hb : Below w.heap.size w w') : NtBx w' B n := ⟨stbx_lt h.c0 hb, stbx_lt h.c1 hb⟩
theorem NtBx.new (w : World) (n : Net) (T : TypeId) : NtBx (w.alloc (.cells (eNet n).toArray T)) w.heap.size n := by
  refine ⟨?_, ?_⟩ <;> simp [go_sem]
theorem same_nil {x : St} (h : stL x = noSt) : sameStB x nilSt = true := by
  simp only [stL, noSt, Prod.mk.injEq] at h
  obtain ⟨h1, h2, h3, h4⟩ := h
  simp [sameStB, nilSt, h1, h2, h3, h4]
theorem same_lists {x y : St} (h : stL x = stL y) : sameStB x y = true := by
  simp only [stL, Prod.mk.injEq] at h
  obtain ⟨h1, h2, h3, h4⟩ := h
  simp [sameStB, h1, h2, h3, h4]
theorem stL_lens {x : St} {L : St4} (h : stL x = L) : x.V.xs = L.1 ∧ x.P.xs = L.2.1 ∧ x.S.xs = L.2.2.1 ∧ x.O.xs = L.2.2.2 := by
  subst h; exact ⟨rfl, rfl, rfl, rfl⟩

set_option maxRecDepth 100000 in
set_option maxHeartbeats 16000000 in
theorem walk (v0 : Value) (x0 : Net) (v1 : Value) (x1 : St) (i a b : Int) (w : World) (w0 : v0 = vNet x0 ∧ gNet w x0) (w1 : v1 = vSt x1 ∧ gSt w x1) (w2 : (Lit.int .i64 i).wf = true) (w3 : (Lit.int .u32 a).wf = true) (w4 : (Lit.int .u32 b).wf = true) :
    Calls Try.prog 6 #[v0, v1, .int .i64 i, .int .u32 a, .int .u32 b] w fun e w' => e = .returned (.bool true) ∧ Below w.heap.size w w' := by
  obtain ⟨rfl, gn⟩ := w0
  obtain ⟨rfl, gs⟩ := w1
  clear w2
  have ha := fits_u32 w3
  have hb := fits_u32 w4
  clear w3 w4
  obtain ⟨⟨na, nc, nxs⟩, ⟨la, lc, lxs⟩⟩ := x0
  obtain ⟨⟨va, vc, vs⟩, ⟨pa, pc, ps⟩, ⟨ea, ec, ss⟩, ⟨oa, oc, os⟩⟩ := x1
  have hb0 : Below w.heap.size w ((w.alloc (.cells #[.slice na nxs.length nc, .slice la lxs.length lc] 50)).alloc (.cells #[.slice va vs.length vc, .slice pa ps.length pc, .slice ea ss.length ec, .slice oa os.length oc] 54)) := ((Below.refl _ _).alloc (Nat.le_refl _) _).alloc (by simp) _
  have HS : Hid (StBx ((w.alloc (.cells #[.slice na nxs.length nc, .slice la lxs.length lc] 50)).alloc (.cells #[.slice va vs.length vc, .slice pa ps.length pc, .slice ea ss.length ec, .slice oa os.length oc] 54)) (w.heap.size + 1) ⟨⟨va, vc, vs⟩, ⟨pa, pc, ps⟩, ⟨ea, ec, ss⟩, ⟨oa, oc, os⟩⟩) := by
    have h := StBx.new (w.alloc (.cells #[.slice na nxs.length nc, .slice la lxs.length lc] 50)) ⟨⟨va, vc, vs⟩, ⟨pa, pc, ps⟩, ⟨ea, ec, ss⟩, ⟨oa, oc, os⟩⟩ 54
    rw [show (w.alloc (.cells #[.slice na nxs.length nc, .slice la lxs.length lc] 50)).heap.size = w.heap.size + 1 from by simp] at h
    exact Lib.hid h
  have HN : Hid (NtBx ((w.alloc (.cells #[.slice na nxs.length nc, .slice la lxs.length lc] 50)).alloc (.cells #[.slice va vs.length vc, .slice pa ps.length pc, .slice ea ss.length ec, .slice oa os.length oc] 54)) w.heap.size ⟨⟨na, nc, nxs⟩, ⟨la, lc, lxs⟩⟩) :=
    Lib.hid ((NtBx.new w ⟨⟨na, nc, nxs⟩, ⟨la, lc, lxs⟩⟩ 50).mono (alloc_below _ _))
  have hFe := fun W => s9few_any ⟨⟨na, nc, nxs⟩, ⟨la, lc, lxs⟩⟩ W
  have hSl := fun W => s9slight_any ⟨⟨va, vc, vs⟩, ⟨pa, pc, ps⟩, ⟨ea, ec, ss⟩, ⟨oa, oc, os⟩⟩ W
  have hHe := fun W (hW : Below w.heap.size w W) => held_any ⟨⟨na, nc, nxs⟩, ⟨la, lc, lxs⟩⟩ ⟨⟨va, vc, vs⟩, ⟨pa, pc, ps⟩, ⟨ea, ec, ss⟩, ⟨oa, oc, os⟩⟩ W (rdNet.mono gn hW) (rdSt.mono gs hW)
  have hVa := fun W (hW : Below w.heap.size w W) => svalid_any ⟨⟨na, nc, nxs⟩, ⟨la, lc, lxs⟩⟩ ⟨⟨va, vc, vs⟩, ⟨pa, pc, ps⟩, ⟨ea, ec, ss⟩, ⟨oa, oc, os⟩⟩ W (rdNet.mono gn hW) (rdSt.mono gs hW)
  have hFi := fun c W (hW : Below w.heap.size w W) => fill_any ⟨⟨na, nc, nxs⟩, ⟨la, lc, lxs⟩⟩ ⟨⟨va, vc, vs⟩, ⟨pa, pc, ps⟩, ⟨ea, ec, ss⟩, ⟨oa, oc, os⟩⟩ i c W (rdNet.mono gn hW) (rdSt.mono gs hW)
  have hHx := fun (x : St) W (hW : Below w.heap.size w W) (hx : gSt W x) => held_any ⟨⟨na, nc, nxs⟩, ⟨la, lc, lxs⟩⟩ x W (rdNet.mono gn hW) hx
  have hVx := fun (x : St) W (hW : Below w.heap.size w W) (hx : gSt W x) => svalid_any ⟨⟨na, nc, nxs⟩, ⟨la, lc, lxs⟩⟩ x W (rdNet.mono gn hW) hx
  have hFx := fun (x : St) W (hW : Below w.heap.size w W) (hx : gSt W x) => fill_any ⟨⟨na, nc, nxs⟩, ⟨la, lc, lxs⟩⟩ x i b W (rdNet.mono gn hW) hx
  have hCa := fun (k : Nat) (hk : k < nxs.length) W (hW : Below w.heap.size w W) => scapX_any nxs[k] W (rdNd.mono (gn.1.2.2.2 _ (List.getElem_mem hk)) hW)
  have hNI := gn.1.2.2.1
  have hVI := gs.1.2.2.1
  have hPI := gs.2.1.2.2.1
  clear gn gs
  simp only [vNet, vSt, vSl] at hFe hSl hHe hVa hFi hHx hVx hFx hNI hVI hPI ⊢
  obtain ⟨n, hn⟩ : ∃ n : Net, n = ⟨⟨na, nc, nxs⟩, ⟨la, lc, lxs⟩⟩ := ⟨_, rfl⟩
  obtain ⟨s, hs⟩ : ∃ s : St, s = ⟨⟨va, vc, vs⟩, ⟨pa, pc, ps⟩, ⟨ea, ec, ss⟩, ⟨oa, oc, os⟩⟩ := ⟨_, rfl⟩
  obtain ⟨few, hfew⟩ : ∃ q, (decide ((nxs.length : Int) ≤ 30) && decide ((lxs.length : Int) ≤ 40)) = q := ⟨_, rfl⟩
  obtain ⟨sli, hsli⟩ : ∃ q, slightB ⟨⟨va, vc, vs⟩, ⟨pa, pc, ps⟩, ⟨ea, ec, ss⟩, ⟨oa, oc, os⟩⟩ = q := ⟨_, rfl⟩
  simp only [hfew] at hFe
  simp only [hsli] at hSl
  simp only [← hn, ← hs] at hHe hVa hFi hHx hVx hFx
  have HNs : Hid (n.Ns.xs = nxs) := Lib.hid (by rw [hn])
  have HSs : Hid (s.V.xs = vs ∧ s.P.xs = ps) := Lib.hid (by rw [hs]; exact ⟨rfl, rfl⟩)
  clear hn hs hsli
  cases few
  · clear hHe hVa hFi hHx hVx hFx hCa hSl
    go_enter Try.func6, Try.ntmps6
    go_wp2_with fail
    refine Calls.go hb0 (s9awake_any _) ?_
    rintro e w1 rfl hb1' hb1
    replace HN := Lib.hid (HN.out.mono hb1')
    replace HS := Lib.hid (HS.out.mono hb1')
    obtain ⟨e0, e1⟩ := HN.out
    obtain ⟨f0, f1, f2, f3⟩ := HS.out
    simp only [vSl] at e0 e1 f0 f1 f2 f3
    clear hb1' hb0
    go_wp2_with fail
    refine Calls.go hb1 (hFe _) ?_
    rintro e w2 rfl hb2' hb2
    go_wp2_with fail
    go_ret
    exact ⟨rfl, hb2⟩
  have h30 : nxs.length ≤ 30 := by simp at hfew; omega
  have H30 := Lib.hid h30
  clear h30 hfew
  go_enter Try.func6, Try.ntmps6
  go_wp2_with fail
  refine Calls.go hb0 (s9awake_any _) ?_
  rintro e w1 rfl hb1' hb1
  replace HN := Lib.hid (HN.out.mono hb1')
  replace HS := Lib.hid (HS.out.mono hb1')
  obtain ⟨e0, e1⟩ := HN.out
  obtain ⟨f0, f1, f2, f3⟩ := HS.out
  simp only [vSl] at e0 e1 f0 f1 f2 f3
  clear hb1' hb0
  go_wp2_with fail
  refine Calls.go hb1 (hFe _) ?_
  rintro e w2 rfl hb2' hb2
  clear e0 e1 f0 f1 f2 f3
  replace HN := Lib.hid (HN.out.mono hb2')
  replace HS := Lib.hid (HS.out.mono hb2')
  obtain ⟨e0, e1⟩ := HN.out
  obtain ⟨f0, f1, f2, f3⟩ := HS.out
  simp only [vSl] at e0 e1 f0 f1 f2 f3
  clear hb2' hb1 hFe
  go_wp2_with fail
  refine Calls.go hb2 (hSl _) ?_
  rintro e w3 rfl hb3' hb3
  clear e0 e1 f0 f1 f2 f3
  replace HN := Lib.hid (HN.out.mono hb3')
  replace HS := Lib.hid (HS.out.mono hb3')
  obtain ⟨e0, e1⟩ := HN.out
  obtain ⟨f0, f1, f2, f3⟩ := HS.out
  simp only [vSl] at e0 e1 f0 f1 f2 f3
  clear hb3' hb2 hSl
  cases sli
  · go_wp2_with fail
    go_ret
    exact ⟨rfl, hb3⟩
  obtain ⟨vb, hvb⟩ : ∃ q, (netB n && stB n s) = q := ⟨_, rfl⟩
  have HVB := Lib.hid hvb
  simp only [hvb] at hVa
  obtain ⟨⟨H, E⟩, hH⟩ : ∃ r, heldXM n s = r := ⟨_, rfl⟩
  simp only [hH] at hHe
  have HH : Hid ((H, E) = if vb = true then (heldV s, 0) else (0, 1)) := Lib.hid (hH.symm.trans (by unfold heldXM; rw [hvb]))
  clear hvb hH
  go_wp2_with fail
  refine Calls.go hb3 (hHe _ hb3) ?_
  rintro e w4 rfl hb4' hb4
  clear e0 e1 f0 f1 f2 f3
  replace HN := Lib.hid (HN.out.mono hb4')
  replace HS := Lib.hid (HS.out.mono hb4')
  obtain ⟨e0, e1⟩ := HN.out
  obtain ⟨f0, f1, f2, f3⟩ := HS.out
  simp only [vSl] at e0 e1 f0 f1 f2 f3
  clear hb4' hb3 hHe
  cases vb
  · have h2 := HH.out
    rw [if_neg (by simp)] at h2
    simp only [Prod.mk.injEq] at h2
    obtain ⟨rfl, rfl⟩ := h2
    clear HH hFi hHx hVx hFx hCa
    go_wp2_with fail
    refine Calls.go hb4 (hVa _ hb4) ?_
    rintro e w5 rfl hb5' hb5
    go_wp2_with fail
    go_ret
    exact ⟨rfl, hb5⟩
  have h2 := HH.out
  rw [if_pos rfl] at h2
  simp only [Prod.mk.injEq] at h2
  obtain ⟨rfl, rfl⟩ := h2
  clear HH hVa
  obtain ⟨E, hE⟩ : ∃ q, (fillM n s i a).2 = q := ⟨_, rfl⟩
  have hF1 := hFi a
  simp only [hE] at hF1
  go_wp2_with fail
  refine Calls.go hb4 (hF1 _ hb4) ?_
  rintro e w5 ⟨x, rfl, gx, lx⟩ hb5' hb5
  clear e0 e1 f0 f1 f2 f3
  replace HN := Lib.hid (HN.out.mono hb5')
  replace HS := Lib.hid (HS.out.mono hb5')
  obtain ⟨e0, e1⟩ := HN.out
  obtain ⟨f0, f1, f2, f3⟩ := HS.out
  simp only [vSl] at e0 e1 f0 f1 f2 f3
  clear hb5' hb4 hF1
  obtain ⟨⟨xva, xvc, xvs⟩, ⟨xpa, xpc, xps⟩, ⟨xea, xec, xss⟩, ⟨xoa, xoc, xos⟩⟩ := x
  by_cases k0 : E = 0
  rotate_left
  · have kE := bneT k0
    have hno := same_nil (lx.trans (fillM_no (by rw [hE]; exact k0)))
    have hSm := fun W (hW : gSt W _) => same_any ⟨⟨xva, xvc, xvs⟩, ⟨xpa, xpc, xps⟩, ⟨xea, xec, xss⟩, ⟨xoa, xoc, xos⟩⟩ nilSt W hW (gSt_nil W)
    simp only [hno] at hSm
    simp only [vSt, vSl, nilSt] at hSm
    clear lx hno hE hFi hHx hVx hFx hCa
    go_wp2_with fail
    refine Calls.go (Below.alloc hb5 hb5.size _) (hSm _ (rdSt.mono gx (alloc_below _ _))) ?_
    rintro e w6 rfl _ hb6
    go_wp2_with fail
    go_ret
    exact ⟨rfl, hb6⟩
  subst k0
  obtain ⟨hnv, hsv, k, rfl, hk, hva, hFe, h0⟩ := fillM_ok hE
  obtain ⟨v, p, IN, hFd⟩ := filled_of hsv hk h0 (lx.trans (by rw [hFe]))
  have hright := hFd.right hnv hsv hk ha.1
  have hheld := hFd.held hnv hsv hk ha.1 (by rw [HNs.out]; exact H30.out)
  have hbd := (heldV_sum hnv hsv (by rw [HNs.out]; exact H30.out)).2
  have hvb : volB b = true := by simp [volB, btwB]; omega
  have hvab : volB (a + b) = true := by simp [volB, btwB]; omega
  have htw : fillM n ⟨⟨xva, xvc, xvs⟩, ⟨xpa, xpc, xps⟩, ⟨xea, xec, xss⟩, ⟨xoa, xoc, xos⟩⟩ (k : Int) b = fillM n s (k : Int) (a + b) := by
    rw [fillM_is hnv hright hk hvb, fillM_is hnv hsv hk hvab]; exact hFd.twice hnv hsv hk ha.1 hb.1
  have hin := in_bd (hFd.at hnv hsv hk).2.1 ha.1
  rw [hFd.eI] at hin
  have hat := hFd.at hnv hsv hk
  have hnd := hFd.nd hk
  have hcx : capXB (ndAt n k) = (capB (ndAt n k), 0) := by rw [hnd]; unfold capXB; rw [if_pos (netB_nd hnv k hk).1]
  obtain ⟨F, hF⟩ : ∃ q, fillM n s (k : Int) (a + b) = q := ⟨_, rfl⟩
  have hkn : k < nxs.length := by rw [← HNs.out]; exact hk
  have hnk : ndAt n k = nxs[k] := by rw [hnd]; simp only [HNs.out]
  have hFX := hFx ⟨⟨xva, xvc, xvs⟩, ⟨xpa, xpc, xps⟩, ⟨xea, xec, xss⟩, ⟨xoa, xoc, xos⟩⟩
  have hFZ := hFi (a + b)
  have hHX := hHx ⟨⟨xva, xvc, xvs⟩, ⟨xpa, xpc, xps⟩, ⟨xea, xec, xss⟩, ⟨xoa, xoc, xos⟩⟩
  have hVX := hVx ⟨⟨xva, xvc, xvs⟩, ⟨xpa, xpc, xps⟩, ⟨xea, xec, xss⟩, ⟨xoa, xoc, xos⟩⟩
  have hCk := hCa k hkn
  rw [hnk] at hcx hin hat
  have hlx := stL_lens (x := ⟨⟨xva, xvc, xvs⟩, ⟨xpa, xpc, xps⟩, ⟨xea, xec, xss⟩, ⟨xoa, xoc, xos⟩⟩) rfl
  have hxV : xvs = vs.set k (v + IN) := by have := hFd.xV; rw [HSs.out.1] at this; exact this
  have hxP : xps = ps.set k (p + (a - IN)) := by have := hFd.xP; rw [HSs.out.2] at this; exact this
  have kv : k < vs.length := by have := hFd.kv; rw [HSs.out.1] at this; exact this
  have kp : k < ps.length := by have := hFd.kp; rw [HSs.out.2] at this; exact this
  have ev : vs[k] = v := by have := hFd.eV; simp only [HSs.out.1] at this; exact this
  have ep : ps[k] = p := by have := hFd.eP; simp only [HSs.out.2] at this; exact this
  have hlv : vs.length = nxs.length ∧ ps.length = nxs.length := by have := stB_lens hsv; rw [HNs.out, HSs.out.1, HSs.out.2] at this; exact ⟨this.1, this.2.1⟩
  simp only [htw, hF] at hFX
  simp only [hF] at hFZ
  simp only [heldXM, hnv, hright, Bool.and_self, if_true, hheld] at hHX
  simp only [hnv, hright, Bool.and_self] at hVX
  simp only [hcx] at hCk
  try simp only at hFX
  try simp only at hFZ
  try simp only at hHX
  try simp only at hCk
  obtain ⟨c, hc⟩ : ∃ c, capB nxs[k] = c := ⟨_, rfl⟩
  rw [hc] at hin hat hCk
  have HVK := Lib.hid ev
  have HPK := Lib.hid ep
  have HXV := Lib.hid hxV
  have HXP := Lib.hid hxP
  have HIN := Lib.hid hin
  have HLV := Lib.hid hlv
  obtain ⟨H, hH⟩ : ∃ q, heldV s = q := ⟨_, rfl⟩
  rw [hH] at hHX hbd ⊢
  have x1 : IntKind.i64.wrap (H + a) = H + a := IntWalk.i64_in _ (by omega)
  have x2 : IntKind.i64.wrap (a + b) = a + b := IntWalk.i64_in _ (by omega)
  have z1 : ((H + a) != (H + a)) = false := by simp
  have z2 : (F.2 != F.2) = false := by simp
  clear hc hH hcx hnk hnd hat hF htw hvb hvab hheld hright hFd hFe h0 hE hFi hHx hVx hFx hCa lx hlx hxV hxP ev ep hin hlv hk hva hnv hsv
  go_wp2_with fail
  have hb5a := Below.alloc hb5 hb5.size (.cells #[.slice xva xvs.length xvc, .slice xpa xps.length xpc, .slice xea xss.length xec, .slice xoa xos.length xoc] 54)
  have gx1 := rdSt.mono gx (alloc_below w5 (.cells #[.slice xva xvs.length xvc, .slice xpa xps.length xpc, .slice xea xss.length xec, .slice xoa xos.length xoc] 54))
  have HX := Lib.hid (StBx.new w5 ⟨⟨xva, xvc, xvs⟩, ⟨xpa, xpc, xps⟩, ⟨xea, xec, xss⟩, ⟨xoa, xoc, xos⟩⟩ 54)
  have HN1 := Lib.hid (HN.out.mono (alloc_below w5 (.cells #[.slice xva xvs.length xvc, .slice xpa xps.length xpc, .slice xea xss.length xec, .slice xoa xos.length xoc] 54)))
  have HS1 := Lib.hid (HS.out.mono (alloc_below w5 (.cells #[.slice xva xvs.length xvc, .slice xpa xps.length xpc, .slice xea xss.length xec, .slice xoa xos.length xoc] 54)))
  clear HN HS
  refine Calls.go hb5a (hHX _ hb5a gx1) ?_
  rintro e w6 rfl hb6' hb6
  replace gx := rdSt.mono gx1 hb6'
  replace HN := Lib.hid (HN1.out.mono hb6')
  replace HS := Lib.hid (HS1.out.mono hb6')
  replace HX := Lib.hid (HX.out.mono hb6')
  clear gx1 HN1 HS1 hb6' hb5a hb5 hHX
  clear e0 e1 f0 f1 f2 f3
  obtain ⟨e0, e1⟩ := HN.out
  obtain ⟨f0, f1, f2, f3⟩ := HS.out
  obtain ⟨g0, g1, g2, g3⟩ := HX.out
  simp only [vSl] at e0 e1 f0 f1 f2 f3 g0 g1 g2 g3
  go_wp2_with fail
  refine Calls.go hb6 (hVX _ hb6 gx) ?_
  rintro e w7 rfl hb7' hb7
  replace gx := rdSt.mono gx hb7'
  clear e0 e1 f0 f1 f2 f3 g0 g1 g2 g3
  replace HN := Lib.hid (HN.out.mono hb7')
  replace HS := Lib.hid (HS.out.mono hb7')
  replace HX := Lib.hid (HX.out.mono hb7')
  obtain ⟨e0, e1⟩ := HN.out
  obtain ⟨f0, f1, f2, f3⟩ := HS.out
  obtain ⟨g0, g1, g2, g3⟩ := HX.out
  simp only [vSl] at e0 e1 f0 f1 f2 f3 g0 g1 g2 g3
  clear hb7' hb6 hVX
  go_wp2_with fail
  refine Calls.go hb7 (hFX _ hb7 gx) ?_
  rintro e w8 ⟨y, rfl, gy, ly⟩ hb8' hb8
  replace gx := rdSt.mono gx hb8'
  clear e0 e1 f0 f1 f2 f3 g0 g1 g2 g3
  replace HN := Lib.hid (HN.out.mono hb8')
  replace HS := Lib.hid (HS.out.mono hb8')
  replace HX := Lib.hid (HX.out.mono hb8')
  obtain ⟨e0, e1⟩ := HN.out
  obtain ⟨f0, f1, f2, f3⟩ := HS.out
  obtain ⟨g0, g1, g2, g3⟩ := HX.out
  simp only [vSl] at e0 e1 f0 f1 f2 f3 g0 g1 g2 g3
  clear hb8' hb7 hFX
  obtain ⟨⟨yva, yvc, yvs⟩, ⟨ypa, ypc, yps⟩, ⟨yea, yec, yss⟩, ⟨yoa, yoc, yos⟩⟩ := y
  go_wp2_with fail
  have hb8a := Below.alloc hb8 hb8.size (.cells #[.slice yva yvs.length yvc, .slice ypa yps.length ypc, .slice yea yss.length yec, .slice yoa yos.length yoc] 54)
  have hal := alloc_below w8 (.cells #[.slice yva yvs.length yvc, .slice ypa yps.length ypc, .slice yea yss.length yec, .slice yoa yos.length yoc] 54)
  have HY := Lib.hid (StBx.new w8 ⟨⟨yva, yvc, yvs⟩, ⟨ypa, ypc, yps⟩, ⟨yea, yec, yss⟩, ⟨yoa, yoc, yos⟩⟩ 54)
  replace gy := rdSt.mono gy hal
  replace gx := rdSt.mono gx hal
  clear e0 e1 f0 f1 f2 f3 g0 g1 g2 g3
  replace HN := Lib.hid (HN.out.mono hal)
  replace HS := Lib.hid (HS.out.mono hal)
  replace HX := Lib.hid (HX.out.mono hal)
  obtain ⟨e0, e1⟩ := HN.out
  obtain ⟨f0, f1, f2, f3⟩ := HS.out
  obtain ⟨g0, g1, g2, g3⟩ := HX.out
  simp only [vSl] at e0 e1 f0 f1 f2 f3 g0 g1 g2 g3
  refine Calls.go hb8a (hFZ _ hb8a) ?_
  rintro e w9 ⟨z, rfl, gz, lz⟩ hb9' hb9
  obtain ⟨⟨zva, zvc, zvs⟩, ⟨zpa, zpc, zps⟩, ⟨zea, zec, zss⟩, ⟨zoa, zoc, zos⟩⟩ := z
  have hsm := same_lists (ly.trans lz.symm)
  have hal2 := hb9'.trans (Below.mono (alloc_below w9 (.cells #[.slice zva zvs.length zvc, .slice zpa zps.length zpc, .slice zea zss.length zec, .slice zoa zos.length zoc] 54)) hb9'.size)
  have hal3 := alloc_below w9 (.cells #[.slice zva zvs.length zvc, .slice zpa zps.length zpc, .slice zea zss.length zec, .slice zoa zos.length zoc] 54)
  have hb9a := Below.alloc hb9 hb9.size (.cells #[.slice zva zvs.length zvc, .slice zpa zps.length zpc, .slice zea zss.length zec, .slice zoa zos.length zoc] 54)
  have HZ := Lib.hid (StBx.new w9 ⟨⟨zva, zvc, zvs⟩, ⟨zpa, zpc, zps⟩, ⟨zea, zec, zss⟩, ⟨zoa, zoc, zos⟩⟩ 54)
  replace gz := rdSt.mono gz hal3
  replace gx := rdSt.mono gx hal2
  replace gy := rdSt.mono gy hal2
  replace HY := Lib.hid (HY.out.mono hal2)
  clear e0 e1 f0 f1 f2 f3 g0 g1 g2 g3
  replace HN := Lib.hid (HN.out.mono hal2)
  replace HS := Lib.hid (HS.out.mono hal2)
  replace HX := Lib.hid (HX.out.mono hal2)
  obtain ⟨e0, e1⟩ := HN.out
  obtain ⟨f0, f1, f2, f3⟩ := HS.out
  obtain ⟨g0, g1, g2, g3⟩ := HX.out
  simp only [vSl] at e0 e1 f0 f1 f2 f3 g0 g1 g2 g3
  have HSM := Lib.hid (fun W (h1 : Below (w9.alloc (.cells #[.slice zva zvs.length zvc, .slice zpa zps.length zpc, .slice zea zss.length zec, .slice zoa zos.length zoc] 54)).heap.size (w9.alloc (.cells #[.slice zva zvs.length zvc, .slice zpa zps.length zpc, .slice zea zss.length zec, .slice zoa zos.length zoc] 54)) W) => same_any ⟨⟨yva, yvc, yvs⟩, ⟨ypa, ypc, yps⟩, ⟨yea, yec, yss⟩, ⟨yoa, yoc, yos⟩⟩ ⟨⟨zva, zvc, zvs⟩, ⟨zpa, zpc, zps⟩, ⟨zea, zec, zss⟩, ⟨zoa, zoc, zos⟩⟩ W (rdSt.mono gy h1) (rdSt.mono gz h1))
  have hXVI := Lib.hid (fun W (h1 : Below (w9.alloc (.cells #[.slice zva zvs.length zvc, .slice zpa zps.length zpc, .slice zea zss.length zec, .slice zoa zos.length zoc] 54)).heap.size (w9.alloc (.cells #[.slice zva zvs.length zvc, .slice zpa zps.length zpc, .slice zea zss.length zec, .slice zoa zos.length zoc] 54)) W) => gx.1.2.2.1.mono h1)
  have hXPI := Lib.hid (fun W (h1 : Below (w9.alloc (.cells #[.slice zva zvs.length zvc, .slice zpa zps.length zpc, .slice zea zss.length zec, .slice zoa zos.length zoc] 54)).heap.size (w9.alloc (.cells #[.slice zva zvs.length zvc, .slice zpa zps.length zpc, .slice zea zss.length zec, .slice zoa zos.length zoc] 54)) W) => gx.2.1.2.2.1.mono h1)
  clear hb8 hb8a hb9 hb9' hal hal2 hal3 gy gz gx ly lz hFZ
  obtain ⟨W0, hW0E⟩ : ∃ W0, W0 = w9.alloc (.cells #[.slice zva zvs.length zvc, .slice zpa zps.length zpc, .slice zea zss.length zec, .slice zoa zos.length zoc] 54) := ⟨_, rfl⟩
  rw [← hW0E] at HSM hXVI hXPI
  obtain ⟨y0, y1, y2, y3⟩ := HY.out
  obtain ⟨h0, h1, h2, h3⟩ := HZ.out
  simp only [vSl] at y0 y1 y2 y3 h0 h1 h2 h3
  clear HY HZ
  obtain ⟨o2, q2, rfl, r2⟩ := (hPI.mono hb9a).int k kp
  rw [HPK.out] at r2
  have hW0 : Below W0.heap.size W0 W0 := Below.refl _ _
  have HWE := Lib.hid hW0E
  clear hW0E
  cases kF : (F.2 == 0)
  · clear HSM
    go_wp2_with fail
    go_loopw [129] (fun s129 wr => ∃ j : Nat, j ≤ nxs.length ∧ s129 = .int .i64 j ∧ Below w.heap.size w wr ∧ Below W0.heap.size W0 wr ∧ Hid (NtBx wr w.heap.size ⟨⟨na, nc, nxs⟩, ⟨la, lc, lxs⟩⟩) ∧ Hid (StBx wr (w.heap.size + 1) ⟨⟨va, vc, vs⟩, ⟨some ⟨o2, q2, none⟩, pc, ps⟩, ⟨ea, ec, ss⟩, ⟨oa, oc, os⟩⟩) ∧ Hid (StBx wr w5.heap.size ⟨⟨xva, xvc, xvs⟩, ⟨xpa, xpc, xps⟩, ⟨xea, xec, xss⟩, ⟨xoa, xoc, xos⟩⟩)) (fun i _ => nxs.length - (intOf i).toNat)
    case atStart => exact ⟨0, Nat.zero_le _, rfl, hb9a, (by rw [HWE.out]; exact Below.refl _ _), HN, HS, HX⟩
    clear e0 e1 f0 f1 f2 f3 g0 g1 g2 g3 HN HS HX r2
    case round =>
      as_aux_lemma =>
      obtain ⟨j, hj, rfl, hb, hbW, HN, HS, HX⟩ := hrel
      obtain ⟨e0, e1⟩ := HN.out
      obtain ⟨f0, f1, f2, f3⟩ := HS.out
      obtain ⟨g0, g1, g2, g3⟩ := HX.out
      simp only [vSl] at e0 e1 f0 f1 f2 f3 g0 g1 g2 g3
      by_cases hlt : j < nxs.length
      · have jv : j < vs.length := by have := HLV.out; omega
        have jp : j < ps.length := by have := HLV.out; omega
        have jxv : j < xvs.length := by rw [HXV.out]; simpa using jv
        have jxp : j < xps.length := by rw [HXP.out]; simpa using jp
        obtain ⟨o1, q1, rfl, r1⟩ := (hVI.mono hb).int j jv
        have r2 := (hPI.mono hb).intAt j jp
        obtain ⟨o3, q3, rfl, r3⟩ := (hXVI.out wr hbW).int j jxv
        obtain ⟨o4, q4, rfl, r4⟩ := (hXPI.out wr hbW).int j jxp
        have j1 : (j : Int) < xvs.length := by omega
        have j2 : (j : Int) < xps.length := by omega
        have j3 : (j : Int) < vs.length := by omega
        have j4 : (j : Int) < ps.length := by omega
        have x9 : IntKind.i64.wrap ((j : Int) + 1) = j + 1 := IntWalk.i64_in _ (by have := H30.out; omega)
        by_cases hjk : j = k
        · subst hjk
          have u1 : ((j : Int) != (j : Int)) = false := by simp
          have u2 : (j != j) = false := by simp
          clear hVI hPI hXVI hXPI
          generalize xvs[j] = y3 at *
          generalize xps[j] = y4 at *
          generalize vs[j] = y1 at *
          generalize ps[j] = y2 at *
          go_wp2_with fail
          go_quiet (fail)
          go_wp2_with fail
          go_roundw
          case measure => simp [intOf]; omega
          case rel => exact ⟨j + 1, by omega, by go_num, by repeat' (first | exact Below.refl _ _ | assumption | refine Below.more ?_ ?_ _ | refine Below.alloc ?_ ?_ _ | refine Below.drew ?_ | refine below_drewN ?_ _ | refine Below.setCell ?_ ?_ _ | exact Below.size (by assumption) | (simp [go_sem, size_more]; done) | (simp [go_sem, size_more]; omega)), by repeat' (first | exact Below.refl _ _ | assumption | refine Below.more ?_ ?_ _ | refine Below.alloc ?_ ?_ _ | refine Below.drew ?_ | refine below_drewN ?_ _ | refine Below.setCell ?_ ?_ _ | exact Below.size (by assumption) | (simp [go_sem, size_more]; done) | (simp [go_sem, size_more]; omega)), HN.out.mono (by repeat' (first | exact Below.refl _ _ | assumption | refine Below.more ?_ ?_ _ | refine Below.alloc ?_ ?_ _ | refine Below.drew ?_ | refine below_drewN ?_ _ | refine Below.setCell ?_ ?_ _ | exact Below.size (by assumption) | (simp [go_sem, size_more]; done) | (simp [go_sem, size_more]; omega))), HS.out.mono (by repeat' (first | exact Below.refl _ _ | assumption | refine Below.more ?_ ?_ _ | refine Below.alloc ?_ ?_ _ | refine Below.drew ?_ | refine below_drewN ?_ _ | refine Below.setCell ?_ ?_ _ | exact Below.size (by assumption) | (simp [go_sem, size_more]; done) | (simp [go_sem, size_more]; omega))), HX.out.mono (by repeat' (first | exact Below.refl _ _ | assumption | refine Below.more ?_ ?_ _ | refine Below.alloc ?_ ?_ _ | refine Below.drew ?_ | refine below_drewN ?_ _ | refine Below.setCell ?_ ?_ _ | exact Below.size (by assumption) | (simp [go_sem, size_more]; done) | (simp [go_sem, size_more]; omega)))⟩
        · have u1 : ((j : Int) != (k : Int)) = true := by simpa using (by omega : ¬ (j : Int) = k)
          have u2 : (j != k) = true := by simpa using hjk
          have E1 : xvs[j] = vs[j] := by simp only [HXV.out]; rw [List.getElem_set_ne (by omega)]
          have E2 : xps[j] = ps[j] := by simp only [HXP.out]; rw [List.getElem_set_ne (by omega)]
          rw [E1] at r3
          rw [E2] at r4
          clear E1 E2 hVI hPI hXVI hXPI
          generalize vs[j] = y1 at *
          generalize ps[j] = y2 at *
          have u3 : (y1 != y1) = false := by simp
          have u4 : (y2 != y2) = false := by simp
          go_wp2_with fail
          go_quiet (fail)
          go_wp2_with fail
          go_roundw
          case measure => simp [intOf]; omega
          case rel => exact ⟨j + 1, by omega, by go_num, by repeat' (first | exact Below.refl _ _ | assumption | refine Below.more ?_ ?_ _ | refine Below.alloc ?_ ?_ _ | refine Below.drew ?_ | refine below_drewN ?_ _ | refine Below.setCell ?_ ?_ _ | exact Below.size (by assumption) | (simp [go_sem, size_more]; done) | (simp [go_sem, size_more]; omega)), by repeat' (first | exact Below.refl _ _ | assumption | refine Below.more ?_ ?_ _ | refine Below.alloc ?_ ?_ _ | refine Below.drew ?_ | refine below_drewN ?_ _ | refine Below.setCell ?_ ?_ _ | exact Below.size (by assumption) | (simp [go_sem, size_more]; done) | (simp [go_sem, size_more]; omega)), HN.out.mono (by repeat' (first | exact Below.refl _ _ | assumption | refine Below.more ?_ ?_ _ | refine Below.alloc ?_ ?_ _ | refine Below.drew ?_ | refine below_drewN ?_ _ | refine Below.setCell ?_ ?_ _ | exact Below.size (by assumption) | (simp [go_sem, size_more]; done) | (simp [go_sem, size_more]; omega))), HS.out.mono (by repeat' (first | exact Below.refl _ _ | assumption | refine Below.more ?_ ?_ _ | refine Below.alloc ?_ ?_ _ | refine Below.drew ?_ | refine below_drewN ?_ _ | refine Below.setCell ?_ ?_ _ | exact Below.size (by assumption) | (simp [go_sem, size_more]; done) | (simp [go_sem, size_more]; omega))), HX.out.mono (by repeat' (first | exact Below.refl _ _ | assumption | refine Below.more ?_ ?_ _ | refine Below.alloc ?_ ?_ _ | refine Below.drew ?_ | refine below_drewN ?_ _ | refine Below.setCell ?_ ?_ _ | exact Below.size (by assumption) | (simp [go_sem, size_more]; done) | (simp [go_sem, size_more]; omega)))⟩
      · obtain ⟨o0, q0, rfl, n0, n1, n2, n3, n4, n5, n6, n7, n8⟩ := (hNI.mono hb).nd k hkn
        go_wp2_with fail
        refine Calls.go hb (hCk _ hb) ?_
        rintro e wc rfl hbc' hbc
        have hbW := hbW.trans (hbc'.mono hbW.size)
        clear e0 e1 f0 f1 f2 f3 g0 g1 g2 g3
        replace HN := Lib.hid (HN.out.mono hbc')
        replace HS := Lib.hid (HS.out.mono hbc')
        replace HX := Lib.hid (HX.out.mono hbc')
        obtain ⟨e0, e1⟩ := HN.out
        obtain ⟨f0, f1, f2, f3⟩ := HS.out
        obtain ⟨g0, g1, g2, g3⟩ := HX.out
        simp only [vSl] at e0 e1 f0 f1 f2 f3 g0 g1 g2 g3
        have kxv : k < xvs.length := by rw [HXV.out]; simpa using kv
        have kxp : k < xps.length := by rw [HXP.out]; simpa using kp
        have r2 := (hPI.mono hbc).intAt k kp
        obtain ⟨o3, q3, rfl, r3⟩ := (hXVI.out wc hbW).int k kxv
        obtain ⟨o4, q4, rfl, r4⟩ := (hXPI.out wc hbW).int k kxp
        have j1 : (k : Int) < xvs.length := by omega
        have j2 : (k : Int) < xps.length := by omega
        have j4 : (k : Int) < ps.length := by omega
        have E1 : xvs[k] = v + IN := by simp only [HXV.out]; rw [List.getElem_set_self]
        have E2 : xps[k] = p + (a - IN) := by simp only [HXP.out]; rw [List.getElem_set_self]
        rw [E1] at r3
        rw [E2] at r4
        rw [HPK.out] at r2
        have hin := HIN.out
        clear E1 E2 hVI hPI hXVI hXPI n0 n1 n2 n3 n4 n5 n6 n7 n8
        generalize hY3 : v + IN = y3 at *
        generalize hY4 : p + (a - IN) = y4 at *
        by_cases hIa : IN = a
        · have u3 : (y4 == p) = true := by rw [beq_iff_eq]; omega
          clear hY3 hY4 hin hIa
          go_wp2_with fail
          go_quiet (fail)
          go_wp2_with fail
          go_ret
          exact ⟨rfl, by repeat' (first | exact Below.refl _ _ | assumption | refine Below.more ?_ ?_ _ | refine Below.alloc ?_ ?_ _ | refine Below.drew ?_ | refine below_drewN ?_ _ | refine Below.setCell ?_ ?_ _ | exact Below.size (by assumption) | (simp [go_sem, size_more]; done) | (simp [go_sem, size_more]; omega))⟩
        · have u3 : (y4 == p) = false := by rw [beq_eq_false_iff_ne]; omega
          have u4 : (y3 == c) = true := by rw [beq_iff_eq]; omega
          clear hY3 hY4 hin hIa
          go_wp2_with fail
          go_quiet (fail)
          go_wp2_with fail
          go_ret
          exact ⟨rfl, by repeat' (first | exact Below.refl _ _ | assumption | refine Below.more ?_ ?_ _ | refine Below.alloc ?_ ?_ _ | refine Below.drew ?_ | refine below_drewN ?_ _ | refine Below.setCell ?_ ?_ _ | exact Below.size (by assumption) | (simp [go_sem, size_more]; done) | (simp [go_sem, size_more]; omega))⟩
  cases kp0 : (p == 0)
  · clear HSM
    go_wp2_with fail
    go_loopw [129] (fun s129 wr => ∃ j : Nat, j ≤ nxs.length ∧ s129 = .int .i64 j ∧ Below w.heap.size w wr ∧ Below W0.heap.size W0 wr ∧ Hid (NtBx wr w.heap.size ⟨⟨na, nc, nxs⟩, ⟨la, lc, lxs⟩⟩) ∧ Hid (StBx wr (w.heap.size + 1) ⟨⟨va, vc, vs⟩, ⟨some ⟨o2, q2, none⟩, pc, ps⟩, ⟨ea, ec, ss⟩, ⟨oa, oc, os⟩⟩) ∧ Hid (StBx wr w5.heap.size ⟨⟨xva, xvc, xvs⟩, ⟨xpa, xpc, xps⟩, ⟨xea, xec, xss⟩, ⟨xoa, xoc, xos⟩⟩)) (fun i _ => nxs.length - (intOf i).toNat)
    case atStart => exact ⟨0, Nat.zero_le _, rfl, hb9a, (by rw [HWE.out]; exact Below.refl _ _), HN, HS, HX⟩
    clear e0 e1 f0 f1 f2 f3 g0 g1 g2 g3 HN HS HX r2
    case round =>
      as_aux_lemma =>
      obtain ⟨j, hj, rfl, hb, hbW, HN, HS, HX⟩ := hrel
      obtain ⟨e0, e1⟩ := HN.out
      obtain ⟨f0, f1, f2, f3⟩ := HS.out
      obtain ⟨g0, g1, g2, g3⟩ := HX.out
      simp only [vSl] at e0 e1 f0 f1 f2 f3 g0 g1 g2 g3
      by_cases hlt : j < nxs.length
      · have jv : j < vs.length := by have := HLV.out; omega
        have jp : j < ps.length := by have := HLV.out; omega
        have jxv : j < xvs.length := by rw [HXV.out]; simpa using jv
        have jxp : j < xps.length := by rw [HXP.out]; simpa using jp
        obtain ⟨o1, q1, rfl, r1⟩ := (hVI.mono hb).int j jv
        have r2 := (hPI.mono hb).intAt j jp
        obtain ⟨o3, q3, rfl, r3⟩ := (hXVI.out wr hbW).int j jxv
        obtain ⟨o4, q4, rfl, r4⟩ := (hXPI.out wr hbW).int j jxp
        have j1 : (j : Int) < xvs.length := by omega
        have j2 : (j : Int) < xps.length := by omega
        have j3 : (j : Int) < vs.length := by omega
        have j4 : (j : Int) < ps.length := by omega
        have x9 : IntKind.i64.wrap ((j : Int) + 1) = j + 1 := IntWalk.i64_in _ (by have := H30.out; omega)
        by_cases hjk : j = k
        · subst hjk
          have u1 : ((j : Int) != (j : Int)) = false := by simp
          have u2 : (j != j) = false := by simp
          clear hVI hPI hXVI hXPI
          generalize xvs[j] = y3 at *
          generalize xps[j] = y4 at *
          generalize vs[j] = y1 at *
          generalize ps[j] = y2 at *
          go_wp2_with fail
          go_quiet (fail)
          go_wp2_with fail
          go_roundw
          case measure => simp [intOf]; omega
          case rel => exact ⟨j + 1, by omega, by go_num, by repeat' (first | exact Below.refl _ _ | assumption | refine Below.more ?_ ?_ _ | refine Below.alloc ?_ ?_ _ | refine Below.drew ?_ | refine below_drewN ?_ _ | refine Below.setCell ?_ ?_ _ | exact Below.size (by assumption) | (simp [go_sem, size_more]; done) | (simp [go_sem, size_more]; omega)), by repeat' (first | exact Below.refl _ _ | assumption | refine Below.more ?_ ?_ _ | refine Below.alloc ?_ ?_ _ | refine Below.drew ?_ | refine below_drewN ?_ _ | refine Below.setCell ?_ ?_ _ | exact Below.size (by assumption) | (simp [go_sem, size_more]; done) | (simp [go_sem, size_more]; omega)), HN.out.mono (by repeat' (first | exact Below.refl _ _ | assumption | refine Below.more ?_ ?_ _ | refine Below.alloc ?_ ?_ _ | refine Below.drew ?_ | refine below_drewN ?_ _ | refine Below.setCell ?_ ?_ _ | exact Below.size (by assumption) | (simp [go_sem, size_more]; done) | (simp [go_sem, size_more]; omega))), HS.out.mono (by repeat' (first | exact Below.refl _ _ | assumption | refine Below.more ?_ ?_ _ | refine Below.alloc ?_ ?_ _ | refine Below.drew ?_ | refine below_drewN ?_ _ | refine Below.setCell ?_ ?_ _ | exact Below.size (by assumption) | (simp [go_sem, size_more]; done) | (simp [go_sem, size_more]; omega))), HX.out.mono (by repeat' (first | exact Below.refl _ _ | assumption | refine Below.more ?_ ?_ _ | refine Below.alloc ?_ ?_ _ | refine Below.drew ?_ | refine below_drewN ?_ _ | refine Below.setCell ?_ ?_ _ | exact Below.size (by assumption) | (simp [go_sem, size_more]; done) | (simp [go_sem, size_more]; omega)))⟩
        · have u1 : ((j : Int) != (k : Int)) = true := by simpa using (by omega : ¬ (j : Int) = k)
          have u2 : (j != k) = true := by simpa using hjk
          have E1 : xvs[j] = vs[j] := by simp only [HXV.out]; rw [List.getElem_set_ne (by omega)]
          have E2 : xps[j] = ps[j] := by simp only [HXP.out]; rw [List.getElem_set_ne (by omega)]
          rw [E1] at r3
          rw [E2] at r4
          clear E1 E2 hVI hPI hXVI hXPI
          generalize vs[j] = y1 at *
          generalize ps[j] = y2 at *
          have u3 : (y1 != y1) = false := by simp
          have u4 : (y2 != y2) = false := by simp
          go_wp2_with fail
          go_quiet (fail)
          go_wp2_with fail
          go_roundw
          case measure => simp [intOf]; omega
          case rel => exact ⟨j + 1, by omega, by go_num, by repeat' (first | exact Below.refl _ _ | assumption | refine Below.more ?_ ?_ _ | refine Below.alloc ?_ ?_ _ | refine Below.drew ?_ | refine below_drewN ?_ _ | refine Below.setCell ?_ ?_ _ | exact Below.size (by assumption) | (simp [go_sem, size_more]; done) | (simp [go_sem, size_more]; omega)), by repeat' (first | exact Below.refl _ _ | assumption | refine Below.more ?_ ?_ _ | refine Below.alloc ?_ ?_ _ | refine Below.drew ?_ | refine below_drewN ?_ _ | refine Below.setCell ?_ ?_ _ | exact Below.size (by assumption) | (simp [go_sem, size_more]; done) | (simp [go_sem, size_more]; omega)), HN.out.mono (by repeat' (first | exact Below.refl _ _ | assumption | refine Below.more ?_ ?_ _ | refine Below.alloc ?_ ?_ _ | refine Below.drew ?_ | refine below_drewN ?_ _ | refine Below.setCell ?_ ?_ _ | exact Below.size (by assumption) | (simp [go_sem, size_more]; done) | (simp [go_sem, size_more]; omega))), HS.out.mono (by repeat' (first | exact Below.refl _ _ | assumption | refine Below.more ?_ ?_ _ | refine Below.alloc ?_ ?_ _ | refine Below.drew ?_ | refine below_drewN ?_ _ | refine Below.setCell ?_ ?_ _ | exact Below.size (by assumption) | (simp [go_sem, size_more]; done) | (simp [go_sem, size_more]; omega))), HX.out.mono (by repeat' (first | exact Below.refl _ _ | assumption | refine Below.more ?_ ?_ _ | refine Below.alloc ?_ ?_ _ | refine Below.drew ?_ | refine below_drewN ?_ _ | refine Below.setCell ?_ ?_ _ | exact Below.size (by assumption) | (simp [go_sem, size_more]; done) | (simp [go_sem, size_more]; omega)))⟩
      · obtain ⟨o0, q0, rfl, n0, n1, n2, n3, n4, n5, n6, n7, n8⟩ := (hNI.mono hb).nd k hkn
        go_wp2_with fail
        refine Calls.go hb (hCk _ hb) ?_
        rintro e wc rfl hbc' hbc
        have hbW := hbW.trans (hbc'.mono hbW.size)
        clear e0 e1 f0 f1 f2 f3 g0 g1 g2 g3
        replace HN := Lib.hid (HN.out.mono hbc')
        replace HS := Lib.hid (HS.out.mono hbc')
        replace HX := Lib.hid (HX.out.mono hbc')
        obtain ⟨e0, e1⟩ := HN.out
        obtain ⟨f0, f1, f2, f3⟩ := HS.out
        obtain ⟨g0, g1, g2, g3⟩ := HX.out
        simp only [vSl] at e0 e1 f0 f1 f2 f3 g0 g1 g2 g3
        have kxv : k < xvs.length := by rw [HXV.out]; simpa using kv
        have kxp : k < xps.length := by rw [HXP.out]; simpa using kp
        have r2 := (hPI.mono hbc).intAt k kp
        obtain ⟨o3, q3, rfl, r3⟩ := (hXVI.out wc hbW).int k kxv
        obtain ⟨o4, q4, rfl, r4⟩ := (hXPI.out wc hbW).int k kxp
        have j1 : (k : Int) < xvs.length := by omega
        have j2 : (k : Int) < xps.length := by omega
        have j4 : (k : Int) < ps.length := by omega
        have E1 : xvs[k] = v + IN := by simp only [HXV.out]; rw [List.getElem_set_self]
        have E2 : xps[k] = p + (a - IN) := by simp only [HXP.out]; rw [List.getElem_set_self]
        rw [E1] at r3
        rw [E2] at r4
        rw [HPK.out] at r2
        have hin := HIN.out
        clear E1 E2 hVI hPI hXVI hXPI n0 n1 n2 n3 n4 n5 n6 n7 n8
        generalize hY3 : v + IN = y3 at *
        generalize hY4 : p + (a - IN) = y4 at *
        by_cases hIa : IN = a
        · have u3 : (y4 == p) = true := by rw [beq_iff_eq]; omega
          clear hY3 hY4 hin hIa
          go_wp2_with fail
          go_quiet (fail)
          go_wp2_with fail
          go_ret
          exact ⟨rfl, by repeat' (first | exact Below.refl _ _ | assumption | refine Below.more ?_ ?_ _ | refine Below.alloc ?_ ?_ _ | refine Below.drew ?_ | refine below_drewN ?_ _ | refine Below.setCell ?_ ?_ _ | exact Below.size (by assumption) | (simp [go_sem, size_more]; done) | (simp [go_sem, size_more]; omega))⟩
        · have u3 : (y4 == p) = false := by rw [beq_eq_false_iff_ne]; omega
          have u4 : (y3 == c) = true := by rw [beq_iff_eq]; omega
          clear hY3 hY4 hin hIa
          go_wp2_with fail
          go_quiet (fail)
          go_wp2_with fail
          go_ret
          exact ⟨rfl, by repeat' (first | exact Below.refl _ _ | assumption | refine Below.more ?_ ?_ _ | refine Below.alloc ?_ ?_ _ | refine Below.drew ?_ | refine below_drewN ?_ _ | refine Below.setCell ?_ ?_ _ | exact Below.size (by assumption) | (simp [go_sem, size_more]; done) | (simp [go_sem, size_more]; omega))⟩
  have hsq := HSM.out
  simp only [hsm] at hsq
  simp only [vSt, vSl] at hsq
  go_wp2_with fail
  refine Calls.go hb9a (hsq _ (by rw [HWE.out]; exact Below.refl _ _)) ?_
  rintro e w10 rfl hb10' hb10
  have hbW10 : Below W0.heap.size W0 w10 := by rw [HWE.out]; exact hb10'
  clear e0 e1 f0 f1 f2 f3 g0 g1 g2 g3
  replace HN := Lib.hid (HN.out.mono hb10')
  replace HS := Lib.hid (HS.out.mono hb10')
  replace HX := Lib.hid (HX.out.mono hb10')
  obtain ⟨e0, e1⟩ := HN.out
  obtain ⟨f0, f1, f2, f3⟩ := HS.out
  obtain ⟨g0, g1, g2, g3⟩ := HX.out
  simp only [vSl] at e0 e1 f0 f1 f2 f3 g0 g1 g2 g3
  replace r2 := stbx_lt r2 hb10'
  clear hb10' hb9a HSM hsq y0 y1 y2 y3 h0 h1 h2 h3
  go_wp2_with fail
  go_loopw [129] (fun s129 wr => ∃ j : Nat, j ≤ nxs.length ∧ s129 = .int .i64 j ∧ Below w.heap.size w wr ∧ Below W0.heap.size W0 wr ∧ Hid (NtBx wr w.heap.size ⟨⟨na, nc, nxs⟩, ⟨la, lc, lxs⟩⟩) ∧ Hid (StBx wr (w.heap.size + 1) ⟨⟨va, vc, vs⟩, ⟨some ⟨o2, q2, none⟩, pc, ps⟩, ⟨ea, ec, ss⟩, ⟨oa, oc, os⟩⟩) ∧ Hid (StBx wr w5.heap.size ⟨⟨xva, xvc, xvs⟩, ⟨xpa, xpc, xps⟩, ⟨xea, xec, xss⟩, ⟨xoa, xoc, xos⟩⟩)) (fun i _ => nxs.length - (intOf i).toNat)
  case atStart => exact ⟨0, Nat.zero_le _, rfl, hb10, hbW10, HN, HS, HX⟩
  clear e0 e1 f0 f1 f2 f3 g0 g1 g2 g3 HN HS HX r2
  case round =>
    as_aux_lemma =>
    obtain ⟨j, hj, rfl, hb, hbW, HN, HS, HX⟩ := hrel
    obtain ⟨e0, e1⟩ := HN.out
    obtain ⟨f0, f1, f2, f3⟩ := HS.out
    obtain ⟨g0, g1, g2, g3⟩ := HX.out
    simp only [vSl] at e0 e1 f0 f1 f2 f3 g0 g1 g2 g3
    by_cases hlt : j < nxs.length
    · have jv : j < vs.length := by have := HLV.out; omega
      have jp : j < ps.length := by have := HLV.out; omega
      have jxv : j < xvs.length := by rw [HXV.out]; simpa using jv
      have jxp : j < xps.length := by rw [HXP.out]; simpa using jp
      obtain ⟨o1, q1, rfl, r1⟩ := (hVI.mono hb).int j jv
      have r2 := (hPI.mono hb).intAt j jp
      obtain ⟨o3, q3, rfl, r3⟩ := (hXVI.out wr hbW).int j jxv
      obtain ⟨o4, q4, rfl, r4⟩ := (hXPI.out wr hbW).int j jxp
      have j1 : (j : Int) < xvs.length := by omega
      have j2 : (j : Int) < xps.length := by omega
      have j3 : (j : Int) < vs.length := by omega
      have j4 : (j : Int) < ps.length := by omega
      have x9 : IntKind.i64.wrap ((j : Int) + 1) = j + 1 := IntWalk.i64_in _ (by have := H30.out; omega)
      by_cases hjk : j = k
      · subst hjk
        have u1 : ((j : Int) != (j : Int)) = false := by simp
        have u2 : (j != j) = false := by simp
        clear hVI hPI hXVI hXPI
        generalize xvs[j] = y3 at *
        generalize xps[j] = y4 at *
        generalize vs[j] = y1 at *
        generalize ps[j] = y2 at *
        go_wp2_with fail
        go_quiet (fail)
        go_wp2_with fail
        go_roundw
        case measure => simp [intOf]; omega
        case rel => exact ⟨j + 1, by omega, by go_num, by repeat' (first | exact Below.refl _ _ | assumption | refine Below.more ?_ ?_ _ | refine Below.alloc ?_ ?_ _ | refine Below.drew ?_ | refine below_drewN ?_ _ | refine Below.setCell ?_ ?_ _ | exact Below.size (by assumption) | (simp [go_sem, size_more]; done) | (simp [go_sem, size_more]; omega)), by repeat' (first | exact Below.refl _ _ | assumption | refine Below.more ?_ ?_ _ | refine Below.alloc ?_ ?_ _ | refine Below.drew ?_ | refine below_drewN ?_ _ | refine Below.setCell ?_ ?_ _ | exact Below.size (by assumption) | (simp [go_sem, size_more]; done) | (simp [go_sem, size_more]; omega)), HN.out.mono (by repeat' (first | exact Below.refl _ _ | assumption | refine Below.more ?_ ?_ _ | refine Below.alloc ?_ ?_ _ | refine Below.drew ?_ | refine below_drewN ?_ _ | refine Below.setCell ?_ ?_ _ | exact Below.size (by assumption) | (simp [go_sem, size_more]; done) | (simp [go_sem, size_more]; omega))), HS.out.mono (by repeat' (first | exact Below.refl _ _ | assumption | refine Below.more ?_ ?_ _ | refine Below.alloc ?_ ?_ _ | refine Below.drew ?_ | refine below_drewN ?_ _ | refine Below.setCell ?_ ?_ _ | exact Below.size (by assumption) | (simp [go_sem, size_more]; done) | (simp [go_sem, size_more]; omega))), HX.out.mono (by repeat' (first | exact Below.refl _ _ | assumption | refine Below.more ?_ ?_ _ | refine Below.alloc ?_ ?_ _ | refine Below.drew ?_ | refine below_drewN ?_ _ | refine Below.setCell ?_ ?_ _ | exact Below.size (by assumption) | (simp [go_sem, size_more]; done) | (simp [go_sem, size_more]; omega)))⟩
      · have u1 : ((j : Int) != (k : Int)) = true := by simpa using (by omega : ¬ (j : Int) = k)
        have u2 : (j != k) = true := by simpa using hjk
        have E1 : xvs[j] = vs[j] := by simp only [HXV.out]; rw [List.getElem_set_ne (by omega)]
        have E2 : xps[j] = ps[j] := by simp only [HXP.out]; rw [List.getElem_set_ne (by omega)]
        rw [E1] at r3
        rw [E2] at r4
        clear E1 E2 hVI hPI hXVI hXPI
        generalize vs[j] = y1 at *
        generalize ps[j] = y2 at *
        have u3 : (y1 != y1) = false := by simp
        have u4 : (y2 != y2) = false := by simp
        go_wp2_with fail
        go_quiet (fail)
        go_wp2_with fail
        go_roundw
        case measure => simp [intOf]; omega
        case rel => exact ⟨j + 1, by omega, by go_num, by repeat' (first | exact Below.refl _ _ | assumption | refine Below.more ?_ ?_ _ | refine Below.alloc ?_ ?_ _ | refine Below.drew ?_ | refine below_drewN ?_ _ | refine Below.setCell ?_ ?_ _ | exact Below.size (by assumption) | (simp [go_sem, size_more]; done) | (simp [go_sem, size_more]; omega)), by repeat' (first | exact Below.refl _ _ | assumption | refine Below.more ?_ ?_ _ | refine Below.alloc ?_ ?_ _ | refine Below.drew ?_ | refine below_drewN ?_ _ | refine Below.setCell ?_ ?_ _ | exact Below.size (by assumption) | (simp [go_sem, size_more]; done) | (simp [go_sem, size_more]; omega)), HN.out.mono (by repeat' (first | exact Below.refl _ _ | assumption | refine Below.more ?_ ?_ _ | refine Below.alloc ?_ ?_ _ | refine Below.drew ?_ | refine below_drewN ?_ _ | refine Below.setCell ?_ ?_ _ | exact Below.size (by assumption) | (simp [go_sem, size_more]; done) | (simp [go_sem, size_more]; omega))), HS.out.mono (by repeat' (first | exact Below.refl _ _ | assumption | refine Below.more ?_ ?_ _ | refine Below.alloc ?_ ?_ _ | refine Below.drew ?_ | refine below_drewN ?_ _ | refine Below.setCell ?_ ?_ _ | exact Below.size (by assumption) | (simp [go_sem, size_more]; done) | (simp [go_sem, size_more]; omega))), HX.out.mono (by repeat' (first | exact Below.refl _ _ | assumption | refine Below.more ?_ ?_ _ | refine Below.alloc ?_ ?_ _ | refine Below.drew ?_ | refine below_drewN ?_ _ | refine Below.setCell ?_ ?_ _ | exact Below.size (by assumption) | (simp [go_sem, size_more]; done) | (simp [go_sem, size_more]; omega)))⟩
    · obtain ⟨o0, q0, rfl, n0, n1, n2, n3, n4, n5, n6, n7, n8⟩ := (hNI.mono hb).nd k hkn
      go_wp2_with fail
      refine Calls.go hb (hCk _ hb) ?_
      rintro e wc rfl hbc' hbc
      have hbW := hbW.trans (hbc'.mono hbW.size)
      clear e0 e1 f0 f1 f2 f3 g0 g1 g2 g3
      replace HN := Lib.hid (HN.out.mono hbc')
      replace HS := Lib.hid (HS.out.mono hbc')
      replace HX := Lib.hid (HX.out.mono hbc')
      obtain ⟨e0, e1⟩ := HN.out
      obtain ⟨f0, f1, f2, f3⟩ := HS.out
      obtain ⟨g0, g1, g2, g3⟩ := HX.out
      simp only [vSl] at e0 e1 f0 f1 f2 f3 g0 g1 g2 g3
      have kxv : k < xvs.length := by rw [HXV.out]; simpa using kv
      have kxp : k < xps.length := by rw [HXP.out]; simpa using kp
      have r2 := (hPI.mono hbc).intAt k kp
      obtain ⟨o3, q3, rfl, r3⟩ := (hXVI.out wc hbW).int k kxv
      obtain ⟨o4, q4, rfl, r4⟩ := (hXPI.out wc hbW).int k kxp
      have j1 : (k : Int) < xvs.length := by omega
      have j2 : (k : Int) < xps.length := by omega
      have j4 : (k : Int) < ps.length := by omega
      have E1 : xvs[k] = v + IN := by simp only [HXV.out]; rw [List.getElem_set_self]
      have E2 : xps[k] = p + (a - IN) := by simp only [HXP.out]; rw [List.getElem_set_self]
      rw [E1] at r3
      rw [E2] at r4
      rw [HPK.out] at r2
      have hin := HIN.out
      clear E1 E2 hVI hPI hXVI hXPI n0 n1 n2 n3 n4 n5 n6 n7 n8
      generalize hY3 : v + IN = y3 at *
      generalize hY4 : p + (a - IN) = y4 at *
      by_cases hIa : IN = a
      · have u3 : (y4 == p) = true := by rw [beq_iff_eq]; omega
        clear hY3 hY4 hin hIa
        go_wp2_with fail
        go_quiet (fail)
        go_wp2_with fail
        go_ret
        exact ⟨rfl, by repeat' (first | exact Below.refl _ _ | assumption | refine Below.more ?_ ?_ _ | refine Below.alloc ?_ ?_ _ | refine Below.drew ?_ | refine below_drewN ?_ _ | refine Below.setCell ?_ ?_ _ | exact Below.size (by assumption) | (simp [go_sem, size_more]; done) | (simp [go_sem, size_more]; omega))⟩
      · have u3 : (y4 == p) = false := by rw [beq_eq_false_iff_ne]; omega
        have u4 : (y3 == c) = true := by rw [beq_iff_eq]; omega
        clear hY3 hY4 hin hIa
        go_wp2_with fail
        go_quiet (fail)
        go_wp2_with fail
        go_ret
        exact ⟨rfl, by repeat' (first | exact Below.refl _ _ | assumption | refine Below.more ?_ ?_ _ | refine Below.alloc ?_ ?_ _ | refine Below.drew ?_ | refine below_drewN ?_ _ | refine Below.setCell ?_ ?_ _ | exact Below.size (by assumption) | (simp [go_sem, size_more]; done) | (simp [go_sem, size_more]; omega))⟩

/-! ### The row -/
set_option maxRecDepth 100000 in
theorem lifted (os : Os) (started : os.Started) (H : Type) (enc : TypeId × Value → H) :
    ReturnsInHanded {} Try.checked os 6 .any (Rows.storageFilledSpec.pre6 enc Try.prog Try.f6 Rows.storageFilledRow.domain false) (Rows.storageFilledSpec.post enc Try.prog Try.f6 false true false false) := by
  refine returnsInHanded_of_change (C := Try.checked) own started (by kernel_rfl) Try.func6
    (ChangeSpec.witness6 (enc := enc) (C := Try.checked) false ⟨#[], #[.agg #[.slice none 0 0, .slice none 0 0], .agg #[.slice none 0 0, .slice none 0 0, .slice none 0 0, .slice none 0 0], .int .i64 0, .int .u32 0, .int .u32 0], []⟩ 8 (by kernel_rfl) (by kernel_rfl) (by kernel_rfl) (by kernel_rfl)) ?_
  intro W base args ds gs before hval0 hW hcnd _
  have hval : ∀ (j : Nat) t v, Try.f6.params[j]? = some t → args[j]? = some v → Value.okWide Try.prog W .any base t v := hval0
  have hW' := hW
  obtain ⟨p, q, hA0, hV, rfl, hfz, hnd⟩ := hW
  have hA : DataW.TrodAll enc Try.prog W 0 (fun _ => true) true Try.f6.params.toList args.toList ds p := hA0
  rw [Try.params6] at hA hval
  obtain ⟨v0, vs0, d0, ds0, p0, q0, hargs, rfl, rfl, h0, r0⟩ := trodAll_cons hA
  obtain ⟨v1, vs1, d1, ds1, p1, q1, rfl, rfl, rfl, h1, r1⟩ := trodAll_cons r0
  obtain ⟨v2, vs2, d2, ds2, p2, q2, rfl, rfl, rfl, h2, r2⟩ := trodAll_cons r1
  obtain ⟨v3, vs3, d3, ds3, p3, q3, rfl, rfl, rfl, h3, r3⟩ := trodAll_cons r2
  obtain ⟨v4, vs4, d4, ds4, p4, q4, rfl, rfl, rfl, h4, r4⟩ := trodAll_cons r3
  obtain ⟨rfl, rfl, rfl⟩ := trodAll_nil r4
  obtain rfl : args = #[v0, v1, v2, v3, v4] := by cases args; simp_all
  obtain ⟨rfl, rfl⟩ := trodVars_none hV
  have k0 := h0
  have lt0 : ∀ x ∈ p0, x.block < W.heap.size := by obtain ⟨m, hm⟩ := k0; exact DataW.trod_lt m _ _ _ hm
  obtain ⟨x0, w0⟩ := openNet (hval 0 50 v0 rfl rfl) h0
  have k1 := h1
  have lt1 : ∀ x ∈ p1, x.block < W.heap.size := by obtain ⟨m, hm⟩ := k1; exact DataW.trod_lt m _ _ _ hm
  obtain ⟨x1, w1⟩ := openSt (hval 1 54 v1 rfl rfl) h1
  obtain ⟨a2, rfl, rfl, rfl, w2⟩ := open_int Try.underlying3 (hval 2 3 v2 rfl rfl) h2
  obtain ⟨a3, rfl, rfl, rfl, w3⟩ := open_int Try.underlying55 (hval 3 55 v3 rfl rfl) h3
  obtain ⟨a4, rfl, rfl, rfl, w4⟩ := open_int Try.underlying55 (hval 4 55 v4 rfl rfl) h4
  clear hA0 hval0
  refine (walk v0 x0 v1 x1 a2 a3 a4 W w0 w1 w2 w3 w4).mono fun e W' ⟨he, bel⟩ => ?_
  subst he
  exact ⟨_, rfl, _, _, _, [], _, [], hW', trodAll_mk1 (shut_bool Try.underlying4 _), (trodAll_cons_mk (Below.trod laidOut (by kernel_rfl) (of_decide_eq_true (by kernel_rfl)) k0 bel lt0) (trodAll_cons_mk (Below.trod laidOut (by kernel_rfl) (of_decide_eq_true (by kernel_rfl)) k1 bel lt1) (trodAll_cons_mk (shut_int Try.underlying3 w2) (trodAll_cons_mk (shut_int Try.underlying55 w3) (trodAll_cons_mk (shut_int Try.underlying55 w4) trodAll_mk0))))), rfl, bel.frame _, fun h => by cases h⟩

theorem over : Rows.storageFilledRow.holds Try.pinned (OpenSpec.ofChange Rows.storageFilledSpec) :=
  OpenClaim.holds_of_wide 6 Try.f6 rfl rfl rfl rfl rfl rfl rfl ⟨rfl, rfl, rfl, rfl, rfl⟩ rfl rfl rfl rfl rfl (by kernel_rfl) Try.func6 (by kernel_rfl)
    (of_decide_eq_true (by kernel_rfl)) (by unfold Func.isWrapper; first | (rw [if_pos (by decide +kernel)]; kernel_rfl) | (rw [if_neg (by decide +kernel)]; exact ⟨rfl, rfl⟩))
    (fun os started H enc _ => lifted os started H enc)

end Go.Proofs.Ytjgfgbiohbgcaaa.storageFilled
namespace Go.Proofs.Ytjgfgbiohbgcaaa
/-- The statement. -/
theorem storageFilled_holds : Rows.StorageFilledSaid := storageFilled.over
#print axioms storageFilled_holds
end Go.Proofs.Ytjgfgbiohbgcaaa
