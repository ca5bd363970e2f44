/- The law StorageLists returns true for every network and all lists of numbers, and leaves its arguments as they were. Conditions: none beyond the row's own. -/
import Derived.Test.YtjgfgbiohbgcaaaGreatRows
import Derived.WalkKit
import Derived.ProofKit
import Derived.OpenShut
import Derived.ShutString
import Derived.ChangeOld
import Derived.Below
import Derived.Deep.CutRange
import Derived.Deep.CutBlock
import Derived.Test.YtjgfgbiohbgcaaaGreatSaw
import Derived.Test.YtjgfgbiohbgcaaaGreatMfs
import Derived.Test.YtjgfgbiohbgcaaaGreatMRef
import Derived.Test.YtjgfgbiohbgcaaaGreatSli
import Derived.Test.YtjgfgbiohbgcaaaGreatSlr
import Derived.Test.YtjgfgbiohbgcaaaGreatRowk
namespace Go.Proofs.YtjgfgbiohbgcaaaGreat.storageLists
open Go.ChangeShapes Go.WideShapes Go.ChangeAt Go.RowKit
set_option linter.unusedVariables false
set_option linter.unusedSimpArgs false
open Go.ChangeMaps (open_string shut_string)
set_option linter.unusedVariables false

theorem own : ownKnob Tryz.prog.godebug = none := by kernel_rfl
theorem laidOut : laidOutB Tryz.prog = true := by kernel_rfl

set_option maxRecDepth 100000 in
theorem openInts {H : Type} {en : TypeId × Value → H} {W : World} {v : Value} {d : DataW H} {ps : List MemPlace} {r : Reach} {b0 : Nat} (hv : Value.okWide Tryz.prog W r b0 43 v) (h : DataW.Trod en Tryz.prog W 0 (fun _ => true) true 43 v d ps) :
    ∃ s : Sl Int, v = vSl s ∧ gInts W s := arg_slice rdI Nat.zero_lt_one (by kernel_rfl) (by kernel_rfl) hv h
structure NtBx (W : World) (B : Nat) (n : Net) : Prop where
  c0 : W.cell? ⟨B, 0, none⟩ = some (vSl n.Ns)
  c1 : W.cell? ⟨B, 1, none⟩ = some (vSl n.Ls)
theorem NtBx.mono {w w' : World} {B : Nat} {n : Net} (h : NtBx w B n) (hb : Below w.heap.size w w') : NtBx w' B n := ⟨box_lt h.c0 hb, box_lt h.c1 hb⟩
theorem NtBx.new (w : World) (n : Net) (T : TypeId) : NtBx (w.alloc (.cells (eNet n).toArray T)) w.heap.size n := by
  refine ⟨?_, ?_⟩ <;> simp [go_sem]
theorem fitGo_any : ∀ (ns : List Nd) (l : List Int), l.length = ns.length → (fitGo (fun _ v => volB v) ns l = !(l.any fun v => !volB v))
  | [], [], _ => rfl
  | x :: xs, v :: vs, h => by
    simp only [fitGo, List.any_cons, fitGo_any xs vs (by simpa using h)]
    cases volB v <;> simp
  | [], _ :: _, h => by simp at h
  | _ :: _, [], h => by simp at h

theorem fitGo_no {fit : Nd → Int → Bool} : ∀ (ns : List Nd) (l : List Int) (k : Nat), fitGo fit (ns.drop k) (l.drop k) = false → fitGo fit ns l = false
  | ns, l, 0, h => by simpa using h
  | x :: xs, v :: vs, k + 1, h => by
    simp only [List.drop_succ_cons] at h
    simp [fitGo, fitGo_no xs vs k h]
  | [], _, k + 1, h => by simp [fitGo] at h
  | x :: xs, [], k + 1, h => by
    simp only [List.drop_nil, List.drop_succ_cons] at h
    cases hd : List.drop k xs <;> simp [hd, fitGo] at h
theorem fitGo_here {fit : Nd → Int → Bool} {ns : List Nd} {l : List Int} {k : Nat} (h1 : k < ns.length) (h2 : k < l.length) (h : fit ns[k] l[k] = false) : fitGo fit ns l = false := by
  refine fitGo_no ns l k ?_
  rw [List.drop_eq_getElem_cons h1, List.drop_eq_getElem_cons h2]
  simp [fitGo, h]
theorem fitGo_all {fit : Nd → Int → Bool} : ∀ (ns : List Nd) (l : List Int), (∀ k (h1 : k < ns.length) (h2 : k < l.length), fit ns[k] l[k] = true) → fitGo fit ns l = true
  | x :: xs, v :: vs, h => by
    simp only [fitGo, Bool.and_eq_true]
    exact ⟨h 0 (by simp) (by simp), fitGo_all xs vs (fun k h1 h2 => h (k + 1) (Nat.succ_lt_succ h1) (Nat.succ_lt_succ h2))⟩
  | [], _, _ => by simp [fitGo]
  | _ :: _, [], _ => by simp [fitGo]

set_option maxRecDepth 100000 in
set_option maxHeartbeats 16000000 in
theorem walk (v0 : Value) (x0 : Net) (v1 : Value) (x1 : Sl Int) (v2 : Value) (x2 : Sl Int) (w : World) (w0 : v0 = vNet x0 ∧ gNet w x0) (w1 : v1 = vSl x1 ∧ gInts w x1) (w2 : v2 = vSl x2 ∧ gInts w x2) :
    Calls Tryz.prog 4 #[v0, v1, v2] w fun e w' => e = .returned (.bool true) ∧ Below w.heap.size w w' := by
  obtain ⟨rfl, gn⟩ := w0
  obtain ⟨rfl, gv⟩ := w1
  obtain ⟨rfl, gl⟩ := w2
  obtain ⟨⟨na, nc, nxs⟩, ⟨la, lc, lxs⟩⟩ := x0
  obtain ⟨va, vc, vs⟩ := x1
  obtain ⟨ta, tc, ts⟩ := x2
  have hb0 : Below w.heap.size w (w.alloc (.cells #[.slice na nxs.length nc, .slice la lxs.length lc] 42)) := (Below.refl _ _).alloc (Nat.le_refl _) _
  have HN := Lib.hid (NtBx.new w ⟨⟨na, nc, nxs⟩, ⟨la, lc, lxs⟩⟩ 42)
  have hFe := fun W => s9few_any ⟨⟨na, nc, nxs⟩, ⟨la, lc, lxs⟩⟩ W
  have hSh := fun v W hv => s9short_any [(⟨va, vc, vs⟩ : SI), ⟨ta, tc, ts⟩] v W hv
  have hLe := fun W (hW : Below w.heap.size w W) => slevs_any ⟨⟨na, nc, nxs⟩, ⟨la, lc, lxs⟩⟩ ⟨va, vc, vs⟩ W (rdNet.mono gn hW) (rdInts.mono gv hW)
  have hVo := fun W (hW : Below w.heap.size w W) => svols_any ⟨⟨na, nc, nxs⟩, ⟨la, lc, lxs⟩⟩ ⟨ta, tc, ts⟩ W (rdNet.mono gn hW) (rdInts.mono gl hW)
  have hRv := fun W (hW : Below w.heap.size w W) => r26valid_any ⟨⟨na, nc, nxs⟩, ⟨la, lc, lxs⟩⟩ W (rdNet.mono gn hW)
  have hRl := fun W (hW : Below w.heap.size w W) h1 h2 h3 => r29levs_any ⟨⟨na, nc, nxs⟩, ⟨la, lc, lxs⟩⟩ ⟨va, vc, vs⟩ W (rdNet.mono gn hW) (rdInts.mono gv hW) h1 h2 h3
  have hCo := fun W (hW : Below w.heap.size w W) => containsInts 22 #[] ent22 (fun v => !volB v) vs (.slice va vs.length vc) W (gv.isL.mono hW) (fun W' _ v _ => lawlists1_any v W')
  have hRo := fun (k : Nat) (kn : k < nxs.length) (kt : k < ts.length) W (hW : Below w.heap.size w W) (hq : btwB ts[k] nxs[k].Inv nxs[k].Gr = true) (hnb : ndB nxs[k] = true) => r29vol_any (nxs[k]'kn) (ts[k]'kt) W (rdNd.mono (gn.1.2.2.2 _ (List.getElem_mem kn)) hW) hnb hq
  have hNI := gn.1.2.2.1
  have hTI := gl.2.2.1
  have hVI := gv.isL
  clear gn gv gl
  simp only [vNet, vSl] at hFe hLe hVo hRv hRl hCo hNI hTI hVI ⊢
  obtain ⟨nb, hnb⟩ : ∃ q, netB ⟨⟨na, nc, nxs⟩, ⟨la, lc, lxs⟩⟩ = q := ⟨_, rfl⟩
  obtain ⟨few, hfew⟩ : ∃ q, (decide ((nxs.length : Int) ≤ 30) && decide ((lxs.length : Int) ≤ 40)) = q := ⟨_, rfl⟩
  obtain ⟨sho, hsho⟩ : ∃ q, (!([(⟨va, vc, vs⟩ : SI), ⟨ta, tc, ts⟩].any fun s => decide ((60 : Int) < (s.xs.length : Int)))) = q := ⟨_, rfl⟩
  obtain ⟨⟨L, E⟩, hL⟩ : ∃ r, levsM ⟨⟨na, nc, nxs⟩, ⟨la, lc, lxs⟩⟩ vs = r := ⟨_, rfl⟩
  obtain ⟨⟨V, F⟩, hV⟩ : ∃ r, volsM ⟨⟨na, nc, nxs⟩, ⟨la, lc, lxs⟩⟩ ts = r := ⟨_, rfl⟩
  simp only [hfew] at hFe
  rw [hsho] at hSh
  simp only [hL] at hLe
  simp only [hV] at hVo
  simp only [hnb] at hRv
  have HL : Hid ((L, E) = if nb = false then ([], 1) else if ¬ vs.length = nxs.length then ([], 3) else if fitGo (fun _ v => volB v) nxs vs = false then ([], 2) else (List.zipWith levV nxs vs, 0)) := Lib.hid (hL.symm.trans (by unfold levsM eachM; rw [hnb]))
  have HV : Hid ((V, F) = if nb = false then ([], 1) else if ¬ ts.length = nxs.length then ([], 3) else if fitGo (fun x v => btwB v x.Inv x.Gr) nxs ts = false then ([], 2) else (List.zipWith volV nxs ts, 0)) := Lib.hid (hV.symm.trans (by unfold volsM eachM; rw [hnb]))
  have HNB : Hid (nb = true → netB ⟨⟨na, nc, nxs⟩, ⟨la, lc, lxs⟩⟩ = true) := Lib.hid (fun h => hnb.trans h)
  have hq : ∀ W : World, IsSIs (W.alloc (.cells #[.slice va vs.length vc, .slice ta ts.length tc] 43)) (.slice (some ⟨W.heap.size, 0, none⟩) 2 2) [(⟨va, vc, vs⟩ : SI), ⟨ta, tc, ts⟩] := fun W =>
    isL_lit eSI 1 (fun _ => rfl) _ W.heap.size 43 _ _ 2 2 (heap_alloc_new W _) rfl rfl (Nat.le_refl 2) (by decide)
  clear hL hV hnb hsho
  cases few
  · clear hLe hVo hRv hRl hCo hRo hSh hq
    go_enter Tryz.func4, Tryz.ntmps4
    go_wp2_with fail
    refine Calls.go hb0 (s9awake_any _) ?_
    rintro e w1 rfl hb1' hb1
    replace HN := Lib.hid (HN.out.mono hb1')
    obtain ⟨e0, e1⟩ := HN.out
    simp only [vSl] at e0 e1
    clear hb1' hb0
    go_wp2_with fail
    refine Calls.go hb1 (hFe _) ?_
    rintro e w2 rfl hb2' hb2
    go_wp2_with fail
    go_ret
    exact ⟨rfl, hb2⟩
  have H30 : Hid (nxs.length ≤ 30) := Lib.hid (by simp at hfew; omega)
  clear hfew
  go_enter Tryz.func4, Tryz.ntmps4
  go_wp2_with fail
  refine Calls.go hb0 (s9awake_any _) ?_
  rintro e w1 rfl hb1' hb1
  replace HN := Lib.hid (HN.out.mono hb1')
  obtain ⟨e0, e1⟩ := HN.out
  simp only [vSl] at e0 e1
  clear hb1' hb0
  go_wp2_with fail
  refine Calls.go hb1 (hFe _) ?_
  rintro e w2 rfl hb2' hb2
  clear e0 e1
  replace HN := Lib.hid (HN.out.mono hb2')
  obtain ⟨e0, e1⟩ := HN.out
  simp only [vSl] at e0 e1
  clear hb2' hb1 hFe
  go_wp2_with fail
  have hal := alloc_below w2 (.cells #[.slice va vs.length vc, .slice ta ts.length tc] 43)
  refine Calls.go (hb2.trans (hal.mono hb2.size)) (hSh _ _ (hq w2)) ?_
  rintro e w3 rfl hb3' hb3
  clear e0 e1
  replace HN := Lib.hid (HN.out.mono (hal.trans (hb3'.mono hal.size)))
  obtain ⟨e0, e1⟩ := HN.out
  simp only [vSl] at e0 e1
  clear hb3' hal hb2 hSh hq
  cases sho
  · go_wp2_with fail
    go_ret
    exact ⟨rfl, hb3⟩
  go_wp2_with fail
  refine Calls.go hb3 (hLe _ hb3) ?_
  rintro e w4 ⟨lv, rfl, hlv⟩ hb4' hb4
  clear e0 e1
  replace HN := Lib.hid (HN.out.mono hb4')
  obtain ⟨e0, e1⟩ := HN.out
  simp only [vSl] at e0 e1
  clear hb4' hb3 hLe
  have ⟨lva, lvc, elv, _⟩ := hlv
  subst elv
  go_wp2_with fail
  refine Calls.go hb4 (hVo _ hb4) ?_
  rintro e w5 ⟨vv, rfl, hvv⟩ hb5' hb5
  clear e0 e1
  replace HN := Lib.hid (HN.out.mono hb5')
  obtain ⟨e0, e1⟩ := HN.out
  simp only [vSl] at e0 e1
  replace hlv := hlv.mono hb5'
  clear hb5' hb4 hVo
  have ⟨vva, vvc, evv, _⟩ := hvv
  subst evv
  go_wp2_with fail
  refine Calls.go hb5 (hRv _ hb5) ?_
  rintro e w6 rfl hb6' hb6
  clear e0 e1
  replace HN := Lib.hid (HN.out.mono hb6')
  obtain ⟨e0, e1⟩ := HN.out
  simp only [vSl] at e0 e1
  replace hlv := hlv.mono hb6'
  replace hvv := hvv.mono hb6'
  clear hb6' hb5 hRv
  cases nb
  · have h1 := HL.out
    have h2 := HV.out
    rw [if_pos rfl] at h1 h2
    simp only [Prod.mk.injEq] at h1 h2
    obtain ⟨rfl, rfl⟩ := h1
    obtain ⟨rfl, rfl⟩ := h2
    clear HL HV hRl hCo hRo
    go_wp2_with fail
    go_ret
    exact ⟨rfl, hb6⟩
  have hnet := HNB.out rfl
  have h1 := HL.out
  have h2 := HV.out
  rw [if_neg (by simp)] at h1 h2
  have HV := Lib.hid h2
  have hRo := fun k kn kt W hW hq => hRo k kn kt W hW hq (netB_nd hnet k kn).1
  go_upto_block 0 with fail
  go_cut [] from 58 (fun wx => Below w.heap.size w wx ∧ Hid (NtBx wx w.heap.size ⟨⟨na, nc, nxs⟩, ⟨la, lc, lxs⟩⟩) ∧ IsInts wx (.slice vva V.length vvc) V)
  case rest =>
    clear h1 hnet HL HNB hRl hCo hlv hvv HN hb6 e0 e1 h2 hVI
    obtain ⟨hb6, HN, hvv⟩ := hcut
    obtain ⟨e0, e1⟩ := HN.out
    simp only [vSl] at e0 e1
    as_aux_lemma =>
    cases ql : (ts.length != nxs.length)
    rotate_left
    · have ql' : ((ts.length : Int) != (nxs.length : Int)) = true := by simp at ql ⊢; omega
      have h2 := HV.out
      rw [if_pos (by simpa using ql)] at h2
      simp only [Prod.mk.injEq] at h2
      obtain ⟨rfl, rfl⟩ := h2
      clear HV
      go_wp2_with fail
      go_ret
      exact ⟨rfl, hb6⟩
    have ql' : ((ts.length : Int) != (nxs.length : Int)) = false := by simp at ql ⊢; omega
    have hlt' : ts.length = nxs.length := by simpa using ql
    have h2 := HV.out
    rw [if_neg (by simpa using ql)] at h2
    have HV := Lib.hid h2
    have HTN := Lib.hid hlt'
    clear h2 hlt'
    go_wp2_with fail
    go_loopw [108] (fun s108 wr => ∃ k : Nat, k ≤ ts.length ∧ s108 = .int .i64 k ∧ Below w.heap.size w wr ∧ Below wc.heap.size wc wr ∧ Hid (NtBx wr w.heap.size ⟨⟨na, nc, nxs⟩, ⟨la, lc, lxs⟩⟩) ∧ Hid (∀ j (h1 : j < nxs.length) (h2 : j < ts.length), j < k → btwB ts[j] nxs[j].Inv nxs[j].Gr = true)) (fun i _ => ts.length - (intOf i).toNat)
    case atStart => exact ⟨0, Nat.zero_le _, rfl, hb6, Below.refl _ _, HN, Lib.hid (fun j _ _ h => absurd h (Nat.not_lt_zero _))⟩
    clear e0 e1 HN
    case round =>
      as_aux_lemma =>
      obtain ⟨k, hk, rfl, hb, hbW, HN, hall⟩ := hrel
      obtain ⟨e0, e1⟩ := HN.out
      simp only [vSl] at e0 e1
      by_cases hlt : k < ts.length
      · have kn : k < nxs.length := by have := HTN.out; omega
        obtain ⟨b, off, rfl, c0, c1, c2, c3, c4, c5, c6, c7, c8⟩ := (hNI.mono hb).nd k kn
        obtain ⟨tb, tq, rfl, ct⟩ := (hTI.mono hb).int k hlt
        have i1 : (0 : Int) ≤ k := by omega
        have i2 : (k : Int) < ts.length := by omega
        have i3 : (k : Int) < nxs.length := by omega
        have x1 : IntKind.i64.wrap ((k : Int) + 1) = k + 1 := IntWalk.i64_in _ (by have := H30.out; omega)
        have hri := fun W => r29islev_any (nxs[k]'kn) (ts[k]'hlt) W
        obtain ⟨qb, hqb⟩ : ∃ qb, btwB ts[k] nxs[k].Inv nxs[k].Gr = qb := ⟨_, rfl⟩
        simp only [hqb] at hri
        have HQ := Lib.hid hqb
        clear hqb
        have hk1 : Hid (qb = true → ∀ j (h1 : j < nxs.length) (h2 : j < ts.length), j < k + 1 → btwB ts[j] nxs[j].Inv nxs[j].Gr = true) := Lib.hid (fun hq j h1 h2 h => by
          by_cases hj : j < k
          · exact hall.out j h1 h2 hj
          · obtain rfl : j = k := by omega
            exact HQ.out.trans hq)
        have hk0 : Hid (qb = false → fitGo (fun x v => btwB v x.Inv x.Gr) nxs ts = false) := Lib.hid (fun hq => fitGo_here kn hlt (HQ.out.trans hq))
        clear hall HQ hNI hTI hRo
        generalize nxs[k] = x at *
        generalize ts[k] = t at *
        cases qb
        · have h2 := HV.out
          rw [if_pos (hk0.out rfl)] at h2
          simp only [Prod.mk.injEq] at h2
          obtain ⟨rfl, rfl⟩ := h2
          clear HV hk0 hk1
          go_wp2_with fail
          refine Calls.go hb (hri _) ?_
          rintro e wq rfl hbq' hbq
          go_wp2_with fail
          go_ret
          exact ⟨rfl, hbq⟩
        · go_wp2_with fail
          refine Calls.go hb (hri _) ?_
          rintro e wq rfl hbq' hbq
          clear e0 e1
          replace HN := Lib.hid (HN.out.mono hbq')
          obtain ⟨e0, e1⟩ := HN.out
          simp only [vSl] at e0 e1
          go_wp2_with fail
          go_roundw
          case measure => simp [intOf]; omega
          case rel => exact ⟨k + 1, by omega, by go_num, hbq, hbW.trans (hbq'.mono hbW.size), HN, Lib.hid (hk1.out trivial)⟩
      · have hfit : fitGo (fun x v => btwB v x.Inv x.Gr) nxs ts = true := fitGo_all _ _ (fun j h1 h2 => hall.out j h1 h2 (by omega))
        have h2 := HV.out
        rw [if_neg (by rw [hfit]; simp)] at h2
        simp only [Prod.mk.injEq] at h2
        obtain ⟨hVz, rfl⟩ := h2
        have HFT := Lib.hid hfit
        have HZ := Lib.hid hVz.symm
        have hzl : V.length = ts.length := by rw [hVz, List.length_zipWith]; have := HTN.out; omega
        clear HV hall hfit hVz
        obtain ⟨za, zc, ezv, zcap, zbig, zs⟩ := hvv.mono hbW
        cases ezv
        have q1 : (V.length != ts.length) = false := by simp [hzl]
        have q2 : ((V.length : Int) != (ts.length : Int)) = false := by simp [hzl]
        have HZL := Lib.hid hzl
        clear hzl hvv zcap zbig
        go_wp2_with fail
        generalize hWb : wr = WB at *
        clear hWb
        go_loopw [140] (fun s140 wr2 => ∃ k : Nat, k ≤ ts.length ∧ s140 = .int .i64 k ∧ Below w.heap.size w wr2 ∧ Below WB.heap.size WB wr2 ∧ Hid (NtBx wr2 w.heap.size ⟨⟨na, nc, nxs⟩, ⟨la, lc, lxs⟩⟩)) (fun i _ => ts.length - (intOf i).toNat)
        case atStart => exact ⟨0, Nat.zero_le _, rfl, hb, Below.refl _ _, HN⟩
        clear e0 e1 HN hb hbW
        case round =>
          as_aux_lemma =>
          obtain ⟨k, hk, rfl, hb, hbW, HN⟩ := hrel
          obtain ⟨e0, e1⟩ := HN.out
          simp only [vSl] at e0 e1
          by_cases hlt : k < ts.length
          · have kn : k < nxs.length := by have := HTN.out; omega
            have kz : k < V.length := by have := HZL.out; omega
            obtain ⟨b, off, rfl, c0, c1, c2, c3, c4, c5, c6, c7, c8⟩ := (hNI.mono hb).nd k kn
            obtain ⟨tb, tq, rfl, ct⟩ := (hTI.mono hb).int k hlt
            obtain ⟨zb, zo, rfl, cz⟩ := (zs.mono hbW).int k kz
            have i1 : (0 : Int) ≤ k := by omega
            have i2 : (k : Int) < ts.length := by omega
            have i3 : (k : Int) < nxs.length := by omega
            have i4 : (k : Int) < V.length := by omega
            have x1 : IntKind.i64.wrap ((k : Int) + 1) = k + 1 := IntWalk.i64_in _ (by have := H30.out; omega)
            have hrk := fun W (hW : Below w.heap.size w W) => hRo k kn hlt W hW (fitGo_at HFT.out k kn hlt)
            have hzk : V[k] = volV nxs[k] ts[k] := by simp only [← HZ.out, List.getElem_zipWith]
            rw [hzk] at cz
            clear hzk hNI hTI hRo zs
            generalize nxs[k] = x at *
            generalize ts[k] = t at *
            generalize volV x t = R at *
            have q3 : (R != R) = false := by simp
            go_wp2_with fail
            refine wp_region_more_lit (by kernel_rfl) (by kernel_rfl) ?_
            repeat (go_big_quiet_step ((exact Calls.more_of (hrk _ (hb.trans ((below_more _ _).mono hb.size))))))
            refine wpQuiet_nil ?_
            intro _ hwq
            obtain ⟨xq, hwq⟩ := hwq
            subst hwq
            have hbm := below_more wr xq
            go_wp2_with fail
            go_roundw
            case measure => simp [intOf]; omega
            case rel => exact ⟨k + 1, by omega, by go_num, hb.trans (hbm.mono hb.size), hbW.trans (hbm.mono hbW.size), HN.out.mono hbm⟩
          · go_wp2_with fail
            go_ret
            exact ⟨rfl, hb⟩
  case first =>
    clear HV hRo
    cases lq : (vs.length != nxs.length)
    rotate_left
    · have lq' : ((vs.length : Int) != (nxs.length : Int)) = true := by simp at lq ⊢; omega
      rw [if_pos (by simpa using lq)] at h1
      simp only [Prod.mk.injEq] at h1
      obtain ⟨rfl, rfl⟩ := h1
      clear HL HNB hRl hCo hnet hlv
      go_wp2_with fail
      go_meet
      case rel => exact ⟨hb6, HN, hvv⟩
    have lq' : ((vs.length : Int) != (nxs.length : Int)) = false := by simp at lq ⊢; omega
    have hvl : vs.length = nxs.length := by simpa using lq
    rw [if_neg (by simpa using lq)] at h1
    rw [fitGo_any _ _ hvl] at h1
    cases hany : vs.any fun v => !volB v
    rotate_left
    · rw [hany] at h1
      rw [if_pos (by rfl)] at h1
      simp only [Prod.mk.injEq] at h1
      obtain ⟨rfl, rfl⟩ := h1
      simp only [hany] at hCo
      clear HL HNB hRl hnet hlv hany hvl
      go_wp2_with fail
      refine Calls.go hb6 (hCo _ hb6) ?_
      rintro e w7 rfl hb7' hb7
      clear e0 e1
      replace HN := Lib.hid (HN.out.mono hb7')
      obtain ⟨e0, e1⟩ := HN.out
      simp only [vSl] at e0 e1
      replace hvv := hvv.mono hb7'
      clear hb7' hb6 hCo
      go_wp2_with fail
      go_meet
      case rel => exact ⟨hb7, HN, hvv⟩
    rw [hany] at h1
    rw [if_neg (by simp)] at h1
    simp only [Prod.mk.injEq] at h1
    obtain ⟨hLz, rfl⟩ := h1
    have HLZ := Lib.hid hLz
    clear hLz
    have hvall : ∀ v ∈ vs, volB v = true := fun v hv => by
      cases q : volB v
      · have := List.any_eq_false.1 hany v hv
        simp [q] at this
      · rfl
    have hRL := fun W hW => hRl W hW hnet hvl hvall
    simp only [hany] at hCo
    clear HL HNB hRl hnet hany hvall hvl
    go_wp2_with fail
    refine Calls.go hb6 (hCo _ hb6) ?_
    rintro e w7 rfl hb7' hb7
    clear e0 e1
    replace HN := Lib.hid (HN.out.mono hb7')
    obtain ⟨e0, e1⟩ := HN.out
    simp only [vSl] at e0 e1
    replace hvv := hvv.mono hb7'
    replace hlv := hlv.mono hb7'
    clear hb7' hb6 hCo
    go_wp2_with fail
    refine Calls.go hb7 (hRL _ hb7) ?_
    rintro e w8 ⟨rv, rfl, hrv⟩ hb8' hb8
    clear e0 e1
    replace HN := Lib.hid (HN.out.mono hb8')
    obtain ⟨e0, e1⟩ := HN.out
    simp only [vSl] at e0 e1
    replace hvv := hvv.mono hb8'
    replace hlv := hlv.mono hb8'
    clear hb8' hb7 hRL
    rw [← HLZ.out] at hrv
    have heq := eqInts _ _ _ _ _ hlv hrv
    rw [decide_eq_true rfl] at heq
    have ⟨rva, rvc, erv, _⟩ := hrv
    subst erv
    go_wp2_with fail
    refine Calls.go hb8 heq ?_
    rintro e w9 rfl hb9' hb9
    clear e0 e1
    replace HN := Lib.hid (HN.out.mono hb9')
    obtain ⟨e0, e1⟩ := HN.out
    simp only [vSl] at e0 e1
    replace hvv := hvv.mono hb9'
    clear hb9' hb8 heq hlv hrv
    go_wp2_with fail
    go_meet
    case rel => exact ⟨hb9, HN, hvv⟩

/-! ### The row -/
set_option maxRecDepth 100000 in
theorem lifted (os : Os) (started : os.Started) (H : Type) (enc : TypeId × Value → H) :
    ReturnsInHanded {} Tryz.checked os 4 .any (Rows.storageListsSpec.pre6 enc Tryz.prog Tryz.f4 Rows.storageListsRow.domain false) (Rows.storageListsSpec.post enc Tryz.prog Tryz.f4 false true false false) := by
  refine returnsInHanded_of_change (C := Tryz.checked) own started (by kernel_rfl) Tryz.func4
    (ChangeSpec.witness6 (enc := enc) (C := Tryz.checked) false ⟨#[], #[.agg #[.slice none 0 0, .slice none 0 0], .slice none 0 0, .slice none 0 0], []⟩ 8 (by kernel_rfl) (by kernel_rfl) (by kernel_rfl) (by kernel_rfl)) ?_
  intro W base args ds gs before hval0 hW hcnd _
  have hval : ∀ (j : Nat) t v, Tryz.f4.params[j]? = some t → args[j]? = some v → Value.okWide Tryz.prog W .any base t v := hval0
  have hW' := hW
  obtain ⟨p, q, hA0, hV, rfl, hfz, hnd⟩ := hW
  have hA : DataW.TrodAll enc Tryz.prog W 0 (fun _ => true) true Tryz.f4.params.toList args.toList ds p := hA0
  rw [Tryz.params4] at hA hval
  obtain ⟨v0, vs0, d0, ds0, p0, q0, hargs, rfl, rfl, h0, r0⟩ := trodAll_cons hA
  obtain ⟨v1, vs1, d1, ds1, p1, q1, rfl, rfl, rfl, h1, r1⟩ := trodAll_cons r0
  obtain ⟨v2, vs2, d2, ds2, p2, q2, rfl, rfl, rfl, h2, r2⟩ := trodAll_cons r1
  obtain ⟨rfl, rfl, rfl⟩ := trodAll_nil r2
  obtain rfl : args = #[v0, v1, v2] := by cases args; simp_all
  obtain ⟨rfl, rfl⟩ := trodVars_none hV
  have k0 := h0
  have lt0 : ∀ x ∈ p0, x.block < W.heap.size := by obtain ⟨m, hm⟩ := k0; exact DataW.trod_lt m _ _ _ hm
  obtain ⟨x0, w0⟩ := openNet (hval 0 42 v0 rfl rfl) h0
  have k1 := h1
  have lt1 : ∀ x ∈ p1, x.block < W.heap.size := by obtain ⟨m, hm⟩ := k1; exact DataW.trod_lt m _ _ _ hm
  obtain ⟨x1, w1⟩ := openInts (hval 1 43 v1 rfl rfl) h1
  have k2 := h2
  have lt2 : ∀ x ∈ p2, x.block < W.heap.size := by obtain ⟨m, hm⟩ := k2; exact DataW.trod_lt m _ _ _ hm
  obtain ⟨x2, w2⟩ := openInts (hval 2 43 v2 rfl rfl) h2
  clear hA0 hval0
  refine (walk v0 x0 v1 x1 v2 x2 W w0 w1 w2).mono fun e W' ⟨he, bel⟩ => ?_
  subst he
  exact ⟨_, rfl, _, _, _, [], _, [], hW', trodAll_mk1 (shut_bool Tryz.underlying4 _), (trodAll_cons_mk (Below.trod laidOut (by kernel_rfl) (of_decide_eq_true (by kernel_rfl)) k0 bel lt0) (trodAll_cons_mk (Below.trod laidOut (by kernel_rfl) (of_decide_eq_true (by kernel_rfl)) k1 bel lt1) (trodAll_cons_mk (Below.trod laidOut (by kernel_rfl) (of_decide_eq_true (by kernel_rfl)) k2 bel lt2) trodAll_mk0))), rfl, bel.frame _, fun h => by cases h⟩

theorem over : Rows.storageListsRow.holds Tryz.pinned (OpenSpec.ofChange Rows.storageListsSpec) :=
  OpenClaim.holds_of_wide 4 Tryz.f4 rfl rfl rfl rfl rfl rfl rfl ⟨rfl, rfl, rfl, rfl, rfl⟩ rfl rfl rfl rfl rfl (by kernel_rfl) Tryz.func4 (by kernel_rfl)
    (of_decide_eq_true (by kernel_rfl)) (by unfold Func.isWrapper; first | (rw [if_pos (by decide +kernel)]; kernel_rfl) | (rw [if_neg (by decide +kernel)]; exact ⟨rfl, rfl⟩))
    (fun os started H enc _ => lifted os started H enc)

end Go.Proofs.YtjgfgbiohbgcaaaGreat.storageLists
namespace Go.Proofs.YtjgfgbiohbgcaaaGreat
/-- The statement. -/
theorem storageLists_holds : Rows.StorageListsSaid := storageLists.over
#print axioms storageLists_holds
end Go.Proofs.YtjgfgbiohbgcaaaGreat
