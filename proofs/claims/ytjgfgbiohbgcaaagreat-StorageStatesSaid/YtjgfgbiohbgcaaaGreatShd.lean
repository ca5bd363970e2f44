/- What a network holds in a state: storage.Held. Conditions: the arguments read as data. -/
import Derived.Test.YtjgfgbiohbgcaaaGreatNw
import Derived.Test.YtjgfgbiohbgcaaaGreatTpi
namespace Go.Proofs.YtjgfgbiohbgcaaaGreat
open Go.RowKit
set_option linter.unusedVariables false
set_option linter.unusedSimpArgs false

/-- The sum of two lists, item by item, as the program adds. -/
def heldGo : List Int → List Int → Int → Int
  | v :: vs, p :: ps, k => heldGo vs ps (wrap64 (k + wrap64 (v + p)))
  | _, _, k => k
def heldV (s : St) : Int := heldGo s.V.xs s.P.xs 0
def heldXM (n : Net) (s : St) : Int × Int := if (netB n && stB n s) = true then (heldV s, 0) else (0, 1)
theorem stB_lens {n : Net} {s : St} (h : stB n s = true) : s.V.xs.length = n.Ns.xs.length ∧ s.P.xs.length = n.Ns.xs.length ∧ s.S.xs.length = n.Ls.xs.length ∧ s.O.xs.length = n.Ls.xs.length := by
  cases hl : stLen n s
  · rw [stB_len hl] at h; cases h
  · simpa [stLen, and_assoc] using hl
/-- A block that holds a state. -/
structure StBx (w : World) (B : Nat) (s : St) : Prop where
  c0 : w.cell? ⟨B, 0, none⟩ = some (vSl s.V)
  c1 : w.cell? ⟨B, 1, none⟩ = some (vSl s.P)
  c2 : w.cell? ⟨B, 2, none⟩ = some (vSl s.S)
  c3 : w.cell? ⟨B, 3, none⟩ = some (vSl s.O)
theorem stbx_lt {w w' : World} {B j : Nat} {v : Value} (h : w.cell? ⟨B, j, none⟩ = some v) (hb : Below w.heap.size w w') : w'.cell? ⟨B, j, none⟩ = some v :=
  (hb.cell (p := ⟨B, j, none⟩) (lt_of_isSome (a := ⟨B, j, none⟩) (by rw [h]; rfl))).trans h
theorem StBx.mono {w w' : World} {B : Nat} {s : St} (h : StBx w B s) (hb : Below w.heap.size w w') : StBx w' B s :=
  ⟨stbx_lt h.c0 hb, stbx_lt h.c1 hb, stbx_lt h.c2 hb, stbx_lt h.c3 hb⟩
theorem StBx.new (w : World) (s : St) (T : TypeId) : StBx (w.alloc (.cells (eSt s).toArray T)) w.heap.size s := by
  refine ⟨?_, ?_, ?_, ?_⟩ <;> simp [go_sem]

set_option maxRecDepth 100000 in
set_option maxHeartbeats 4000000 in
theorem held_any (n : Net) (s : St) (w : World) (hg : gNet w n) (hgs : gSt w s) : Calls Tryz.prog 27 #[vNet n, vSt s] w fun e w' => e = .returned (.tuple #[.int .i64 (heldXM n s).1, .int .i64 (heldXM n s).2]) ∧ Below w.heap.size w w' := by
  obtain ⟨⟨na, nc, nxs⟩, ⟨la, lc, lxs⟩⟩ := n
  obtain ⟨⟨va, vc, vs⟩, ⟨pa, pc, ps⟩, ⟨ea, ec, ss⟩, ⟨oa, oc, os⟩⟩ := s
  have hb0 : Below w.heap.size w ((w.alloc (.cells #[.slice na nxs.length nc, .slice la lxs.length lc] 42)).alloc (.cells #[.slice va vs.length vc, .slice pa ps.length pc, .slice ea ss.length ec, .slice oa os.length oc] 54)) := ((Below.refl _ _).alloc (Nat.le_refl _) _).alloc (by simp) _
  have HBX : Hid (StBx ((w.alloc (.cells #[.slice na nxs.length nc, .slice la lxs.length lc] 42)).alloc (.cells #[.slice va vs.length vc, .slice pa ps.length pc, .slice ea ss.length ec, .slice oa os.length oc] 54)) (w.heap.size + 1) ⟨⟨va, vc, vs⟩, ⟨pa, pc, ps⟩, ⟨ea, ec, ss⟩, ⟨oa, oc, os⟩⟩) := by
    have h := StBx.new (w.alloc (.cells #[.slice na nxs.length nc, .slice la lxs.length lc] 42)) ⟨⟨va, vc, vs⟩, ⟨pa, pc, ps⟩, ⟨ea, ec, ss⟩, ⟨oa, oc, os⟩⟩ 54
    rw [show (w.alloc (.cells #[.slice na nxs.length nc, .slice la lxs.length lc] 42)).heap.size = w.heap.size + 1 from by simp] at h
    exact Lib.hid h
  have hva := svalid_any ⟨⟨na, nc, nxs⟩, ⟨la, lc, lxs⟩⟩ ⟨⟨va, vc, vs⟩, ⟨pa, pc, ps⟩, ⟨ea, ec, ss⟩, ⟨oa, oc, os⟩⟩ _ (rdNet.mono hg hb0) (rdSt.mono hgs hb0)
  obtain ⟨n, hn⟩ : ∃ n : Net, n = ⟨⟨na, nc, nxs⟩, ⟨la, lc, lxs⟩⟩ := ⟨_, rfl⟩
  obtain ⟨s, hs⟩ : ∃ s : St, s = ⟨⟨va, vc, vs⟩, ⟨pa, pc, ps⟩, ⟨ea, ec, ss⟩, ⟨oa, oc, os⟩⟩ := ⟨_, rfl⟩
  obtain ⟨⟨R, E⟩, hres⟩ : ∃ r, heldXM ⟨⟨na, nc, nxs⟩, ⟨la, lc, lxs⟩⟩ ⟨⟨va, vc, vs⟩, ⟨pa, pc, ps⟩, ⟨ea, ec, ss⟩, ⟨oa, oc, os⟩⟩ = r := ⟨_, rfl⟩
  rw [hres]
  rw [← hn, ← hs] at hres
  obtain ⟨vb, hvb⟩ : ∃ vb, (netB n && stB n s) = vb := ⟨_, rfl⟩
  rw [show (netB ⟨⟨na, nc, nxs⟩, ⟨la, lc, lxs⟩⟩ && stB ⟨⟨na, nc, nxs⟩, ⟨la, lc, lxs⟩⟩ ⟨⟨va, vc, vs⟩, ⟨pa, pc, ps⟩, ⟨ea, ec, ss⟩, ⟨oa, oc, os⟩⟩) = vb from by rw [← hn, ← hs]; exact hvb] at hva
  have HRES : Hid (((R, E) = if vb = true then (heldV s, 0) else (0, 1)) ∧ (vb = true → vs.length = ps.length)) := by
    refine Lib.hid ⟨hres.symm.trans (by unfold heldXM; rw [hvb]), fun h => ?_⟩
    rw [h, Bool.and_eq_true] at hvb
    have := stB_lens hvb.2
    rw [hs] at this
    simp only at this
    omega
  have HR0 : Hid (heldV s = heldGo vs ps 0) := Lib.hid (by rw [hs]; rfl)
  have HV : Hid (IsL eInt 1 w (.slice va vs.length vc) vs) := Lib.hid hgs.1.isL
  have HP : Hid (IsL eInt 1 w (.slice pa ps.length pc) ps) := Lib.hid hgs.2.1.isL
  have hbg : vs.length ≤ 9223372036854775807 := Nat.le_trans hgs.1.1 hgs.1.2.1
  clear hres hvb hg hgs hn hs
  simp only [vNet, vSt, vSl] at hva ⊢
  cases vb
  · have h2 := HRES.out.1
    rw [if_neg (by simp)] at h2
    simp only [Prod.mk.injEq] at h2
    obtain ⟨rfl, rfl⟩ := h2
    clear HRES HBX HR0 HV HP
    go_enter Tryz.func27, Tryz.ntmps27
    go_wp2_with fail
    refine Calls.go hb0 hva ?_
    rintro e w1 rfl _ hb1
    go_wp2_with fail
    go_ret2
    exact ⟨rfl, hb1⟩
  · have h2 := HRES.out.1
    rw [if_pos rfl] at h2
    simp only [Prod.mk.injEq] at h2
    obtain ⟨h2, rfl⟩ := h2
    have HR : Hid (R = heldGo vs ps 0) := Lib.hid (h2.trans HR0.out)
    have HLP := Lib.hid (HRES.out.2 rfl)
    clear h2 HR0 HRES
    go_enter Tryz.func27, Tryz.ntmps27
    go_wp2_with fail
    refine Calls.go hb0 hva ?_
    rintro e w1 rfl hb1' hb1
    have HBX := Lib.hid (HBX.out.mono hb1')
    obtain ⟨f0, f1, f2, f3⟩ := HBX.out
    simp only [vSl] at f0 f1 f2 f3
    clear hb1' hva
    go_wp2_with fail
    go_loopw [6, 16] (fun s6 s16 wr => ∃ (i : Nat) (k : Int), i ≤ vs.length ∧ s16 = .int .i64 i ∧ s6 = .int .i64 k ∧ Below w.heap.size w wr ∧ Hid (StBx wr (w.heap.size + 1) ⟨⟨va, vc, vs⟩, ⟨pa, pc, ps⟩, ⟨ea, ec, ss⟩, ⟨oa, oc, os⟩⟩) ∧ Hid (heldGo vs ps 0 = heldGo (vs.drop i) (ps.drop i) k)) (fun _ i _ => vs.length - (intOf i).toNat)
    case atStart => exact ⟨0, 0, Nat.zero_le _, rfl, rfl, hb1, HBX, rfl⟩
    clear f0 f1 f2 f3 HBX
    case round =>
      as_aux_lemma =>
      obtain ⟨i, k, hi, rfl, rfl, hb, HX, hm⟩ := hrel
      by_cases hlt : i < vs.length
      · have kp : i < ps.length := by have := HLP.out; omega
        obtain ⟨va', vc', e1, _, _, hVC⟩ := HV.out
        cases e1
        obtain ⟨pa', pc', e2, _, _, hPC⟩ := HP.out
        cases e2
        obtain ⟨vb, vo, rfl, cv⟩ := (hVC.mono hb).int i hlt
        obtain ⟨pb, po, rfl, cp⟩ := (hPC.mono hb).int i kp
        obtain ⟨f0, f1, f2, f3⟩ := HX.out
        simp only [vSl] at f0 f1 f2 f3
        have hstep : Hid (heldGo (vs.drop i) (ps.drop i) k = heldGo (vs.drop (i + 1)) (ps.drop (i + 1)) (wrap64 (k + wrap64 (vs[i] + ps[i])))) := by
          rw [List.drop_eq_getElem_cons hlt, List.drop_eq_getElem_cons kp]; rfl
        have HM := Lib.hid (hm.out.trans hstep.out)
        have i3 : (i : Int) < ps.length := by omega
        have x1 : IntKind.i64.wrap ((i : Int) + 1) = i + 1 := IntWalk.i64_in _ (by omega)
        clear hVC hPC hstep hm
        generalize vs[i] = x at *
        generalize ps[i] = y at *
        go_wp2_with fail
        go_roundw
        case measure => simp [intOf]; omega
        case rel => exact ⟨i + 1, _, by omega, by go_num, rfl, by repeat' (first | exact Below.refl _ _ | assumption | refine Below.more ?_ ?_ _ | refine Below.alloc ?_ ?_ _ | refine Below.drew ?_ | refine below_drewN ?_ _ | refine Below.setCell ?_ ?_ _ | exact Below.size (by assumption) | (simp [go_sem, size_more]; done) | (simp [go_sem, size_more]; omega)), HX.out.mono (by repeat' (first | exact Below.refl _ _ | assumption | refine Below.more ?_ ?_ _ | refine Below.alloc ?_ ?_ _ | refine Below.drew ?_ | refine below_drewN ?_ _ | refine Below.setCell ?_ ?_ _ | exact Below.size (by assumption) | (simp [go_sem, size_more]; done) | (simp [go_sem, size_more]; omega))), HM.out⟩
      · obtain rfl : i = vs.length := by omega
        have hm2 := hm.out
        rw [List.drop_eq_nil_of_le (Nat.le_refl _)] at hm2
        have e3 : R = k := HR.out.trans hm2
        subst e3
        clear hm2 hm
        go_wp2_with fail
        go_ret2
        exact ⟨rfl, hb⟩

end Go.Proofs.YtjgfgbiohbgcaaaGreat
