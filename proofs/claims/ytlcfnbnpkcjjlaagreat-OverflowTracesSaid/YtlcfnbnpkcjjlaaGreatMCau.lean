/- Pairs and numbers sought in a list; the closures of Cause. Conditions: none. | has, Full, Next of the reference. Conditions: the network and the state read as data, the index is a node's. | The closures of Cause: whether a node is full; whether an edge begins at a node. Conditions: the boxes hold the network and the state, the node is right. | large: which networks and states the law leaves out. Conditions: network and state read as data. | large. Conditions: network and state read as data. -/
import Derived.Test.YtlcfnbnpkcjjlaaGreatNe
import Derived.Test.YtlcfnbnpkcjjlaaGreatPrs
import Derived.Test.YtlcfnbnpkcjjlaaGreatNw
namespace Go.Proofs.YtlcfnbnpkcjjlaaGreat
open Go.RowKit
set_option linter.unusedVariables false
set_option linter.unusedSimpArgs false

abbrev IsPrs (w : World) (v : Value) (xs : List (Int × Int)) : Prop := IsL ePr 2 w v xs

set_option maxHeartbeats 1000000 in
theorem indexPr (g : Nat) (lb : Array Value) (eg : ∀ args w, (callFunc g args).run Tryz.prog w = .ok (.enter g args) w) (p : (Int×Int) → Bool) (xs : List (Int×Int)) (v : Value) (w : World)
    (hv : IsPrs w v xs) (hp : PredOn Tryz.prog g lb vPr p xs w) :
    Calls Tryz.prog 28 #[v, .func (.func g) #[] lb] w fun e w' => e = .returned (.int .i64 (idxFrom p xs 0)) ∧ Below w.heap.size w w' := by
  obtain ⟨a, cap, rfl, hcap, hbig, hs⟩ := hv
  go_enter Tryz.func28, Tryz.ntmps28
  go_wp2
  go_loopw [5, 8] (fun _ s8 wr => ∃ k : Nat, k ≤ xs.length ∧ s8 = .int .i64 k ∧ Below w.heap.size w wr ∧ Hid (idxFrom p xs 0 = idxFrom p (xs.drop k) k)) (fun _ i _ => xs.length - (intOf i).toNat)
  case atStart => exact ⟨0, Nat.zero_le _, rfl, Below.refl _ _, rfl⟩
  case round =>
    obtain ⟨k, hk, rfl, hb, hm⟩ := hrel
    by_cases hlt : k < xs.length
    · obtain ⟨b, off, rfl, c0, c1⟩ := (hs.mono hb).prs k hlt
      have hx := hp wr hb xs[k] (List.getElem_mem hlt)
      have hstep : Hid (idxFrom p (xs.drop k) k = if p xs[k] then (k : Int) else idxFrom p (xs.drop (k + 1)) (k + 1)) := by
        rw [List.drop_eq_getElem_cons hlt]; rfl
      clear hs hp
      generalize xs[k] = y at *
      cases hpy : p y
      all_goals
        rw [hpy] at hx hstep
        clear hpy
        go_wp2_with fail
        refine (Calls.to hx ?_)
        rintro e w1 rfl hb1
        have hbb := hb.trans (hb1.mono hb.size)
        go_wp2_with fail
      · go_roundw
        case rel => exact ⟨k + 1, by omega, by go_num, by repeat' (first | exact Below.refl _ _ | assumption | refine Below.more ?_ ?_ _ | refine Below.alloc ?_ ?_ _ | refine Below.drew ?_ | refine below_drewN ?_ _ | refine Below.setCell ?_ ?_ _ | exact Below.size (by assumption) | (simp [go_sem, size_more]; done) | (simp [go_sem, size_more]; omega)), hm.out.trans (hstep.out.trans (by simp))⟩
        case measure => simp [intOf]; omega
      · go_ret
        exact ⟨ret_int (hm.out.trans (hstep.out.trans (by simp))).symm, by repeat' (first | exact Below.refl _ _ | assumption | refine Below.more ?_ ?_ _ | refine Below.alloc ?_ ?_ _ | refine Below.drew ?_ | refine below_drewN ?_ _ | refine Below.setCell ?_ ?_ _ | exact Below.size (by assumption) | (simp [go_sem, size_more]; done) | (simp [go_sem, size_more]; omega))⟩
    · go_wp2
      go_ret
      refine ⟨ret_int ?_, by repeat' (first | exact Below.refl _ _ | assumption | refine Below.more ?_ ?_ _ | refine Below.alloc ?_ ?_ _ | refine Below.drew ?_ | refine below_drewN ?_ _ | refine Below.setCell ?_ ?_ _ | exact Below.size (by assumption) | (simp [go_sem, size_more]; done) | (simp [go_sem, size_more]; omega))⟩
      rw [hm.out, List.drop_eq_nil_of_le (by omega)]; rfl


set_option maxHeartbeats 1000000 in
theorem indexI_any (xs : List Int) (y : Int) (v : Value) (w : World) (hv : IsInts w v xs) :
    Calls Tryz.prog 57 #[v, .int .i64 y] w fun e w' => e = .returned (.int .i64 (idxFrom (fun x => y == x) xs 0)) ∧ Below w.heap.size w w' := by
  obtain ⟨a, cap, rfl, hcap, hbig, hs⟩ := hv
  go_enter Tryz.func57, Tryz.ntmps57
  go_wp2
  go_loopw [5, 8] (fun _ s8 wr => ∃ k : Nat, k ≤ xs.length ∧ s8 = .int .i64 k ∧ Below w.heap.size w wr ∧ Hid (idxFrom (fun x => y == x) xs 0 = idxFrom (fun x => y == x) (xs.drop k) k)) (fun _ i _ => xs.length - (intOf i).toNat)
  case atStart => exact ⟨0, Nat.zero_le _, rfl, Below.refl _ _, rfl⟩
  case round =>
    obtain ⟨k, hk, rfl, hb, hm⟩ := hrel
    by_cases hlt : k < xs.length
    · obtain ⟨b, off, rfl, c0⟩ := (hs.mono hb).int k hlt
      have hd := Lib.hid (List.drop_eq_getElem_cons hlt)
      clear hs
      generalize xs[k] = x at *
      cases h : (y == x)
      · have HS := Lib.hid h
        go_wp2_with fail
        go_roundw
        case rel => exact ⟨k + 1, by omega, by go_num, by repeat' (first | exact Below.refl _ _ | assumption | refine Below.more ?_ ?_ _ | refine Below.alloc ?_ ?_ _ | refine Below.drew ?_ | refine below_drewN ?_ _ | refine Below.setCell ?_ ?_ _ | exact Below.size (by assumption) | (simp [go_sem, size_more]; done) | (simp [go_sem, size_more]; omega)), hm.out.trans (by rw [hd.out]; simp [idxFrom, HS.out])⟩
        case measure => simp [intOf]; omega
      · have HS := Lib.hid h
        go_wp2_with fail
        go_ret
        exact ⟨ret_int (by rw [hm.out, hd.out]; simp [idxFrom, HS.out]), by repeat' (first | exact Below.refl _ _ | assumption | refine Below.more ?_ ?_ _ | refine Below.alloc ?_ ?_ _ | refine Below.drew ?_ | refine below_drewN ?_ _ | refine Below.setCell ?_ ?_ _ | exact Below.size (by assumption) | (simp [go_sem, size_more]; done) | (simp [go_sem, size_more]; omega))⟩
    · go_wp2_with fail
      go_ret
      refine ⟨ret_int ?_, by repeat' (first | exact Below.refl _ _ | assumption | refine Below.more ?_ ?_ _ | refine Below.alloc ?_ ?_ _ | refine Below.drew ?_ | refine below_drewN ?_ _ | refine Below.setCell ?_ ?_ _ | exact Below.size (by assumption) | (simp [go_sem, size_more]; done) | (simp [go_sem, size_more]; omega))⟩
      rw [hm.out, List.drop_eq_nil_of_le (by omega)]; rfl

set_option maxHeartbeats 1000000 in
theorem containsI_any (xs : List Int) (y : Int) (v : Value) (w : World) (hv : IsInts w v xs) :
    Calls Tryz.prog 30 #[v, .int .i64 y] w fun e w' => e = .returned (.bool (xs.contains y)) ∧ Below w.heap.size w w' := by
  have HC : Hid (decide (0 ≤ idxFrom (fun x => y == x) xs 0) = xs.contains y) := by
    show _ = _
    rw [idxFrom_any, List.contains_eq_any_beq]
  rw [← HC.out]
  go_enter Tryz.func30, Tryz.ntmps30
  go_wp2_with fail
  refine Calls.to (indexI_any xs y v w hv) ?_
  rintro e w1 rfl hb
  go_wp2_with fail
  go_ret
  exact ⟨rfl, hb⟩

end Go.Proofs.YtlcfnbnpkcjjlaaGreat

namespace Go.Proofs.YtlcfnbnpkcjjlaaGreat
open Go.RowKit
set_option linter.unusedVariables false
set_option linter.unusedSimpArgs false

set_option maxRecDepth 100000 in
set_option maxHeartbeats 4000000 in
theorem r38next_any (n : Net) (i : Nat) (w : World) (hg : gNet w n) (hi : i < n.Ns.xs.length) :
    Calls Tryz.prog 12 #[vNet n, .int .i64 i] w fun e w' => e = .returned (.int .i64 (nextM n.Ns.xs n.Ns.xs[i].Name n.Ls.xs)) ∧ Below w.heap.size w w' := by
  obtain ⟨⟨na, nc, nxs⟩, ⟨la, lc, lxs⟩⟩ := n
  obtain ⟨hN, hL⟩ := hg
  simp only at hN hL hi
  have hsN := hN.2.2.1
  have hsL := hL.2.2.1
  have isN : IsNds w (vSl (⟨na, nc, nxs⟩ : Sl Nd)) nxs := hN.isL
  have hnx : nxs.length ≤ 9223372036854775807 := by
    have h1 : nxs.length ≤ nc := hN.1
    have h2 : nc ≤ 9223372036854775807 := hN.2.1
    omega
  have hlx : lxs.length ≤ 9223372036854775807 := by
    have h1 : lxs.length ≤ lc := hL.1
    have h2 : lc ≤ 9223372036854775807 := hL.2.1
    omega
  clear hN hL
  simp only at hsN hsL
  simp only [vNet, vSl]
  obtain ⟨nm0, hnm⟩ : ∃ m, nxs[i].Name = m := ⟨_, rfl⟩
  rw [hnm]
  have HNM := Lib.hid hnm
  clear hnm
  have j1 : (0 : Int) ≤ i := by omega
  have j2 : (i : Int) < nxs.length := by omega
  go_enter Tryz.func12, Tryz.ntmps12
  go_wp2_with fail
  go_loopw [5] (fun s5 wr => ∃ k : Nat, k ≤ lxs.length ∧ s5 = .int .i64 k ∧ Below (w.heap.size + 1) (w.alloc (.cells #[.slice na nxs.length nc, .slice la lxs.length lc] 25)) wr ∧ Hid (nextM nxs nm0 lxs = nextM nxs nm0 (lxs.drop k))) (fun i _ => lxs.length - (intOf i).toNat)
  case atStart => exact ⟨0, Nat.zero_le _, rfl, Below.refl _ _, rfl⟩
  case round =>
    obtain ⟨k, hk, rfl, hb, hm⟩ := hrel
    have hbw : Below w.heap.size w wr := ((Below.refl _ _).alloc (Nat.le_refl _) _).trans (hb.mono (by omega))
    obtain ⟨e0, e1⟩ := boxNet w wr 25 ⟨⟨na, nc, nxs⟩, ⟨la, lc, lxs⟩⟩ _ rfl _ rfl hb
    simp only [vSl] at e0 e1
    by_cases hlt : k < lxs.length
    · obtain ⟨b, off, rfl, c0, c1, c2, c3, c4, c5, c6, c7, c8, c9, c10⟩ := (hsL.mono hbw).lk k hlt
      obtain ⟨nb, no, rfl, d0, d1, d2, d3, d4, d5, d6, d7, d8⟩ := (hsN.mono hbw).nd i hi
      have hd := Lib.hid (List.drop_eq_getElem_cons hlt)
      have i1 : (0 : Int) ≤ k := by omega
      have i2 : (k : Int) < lxs.length := by omega
      clear hsN hsL c0 c3 c4 c5 c6 c7 c8 c9 c10 d1 d2 d3 d4 d5 d6 d7 d8
      generalize lxs[k] = x at *
      generalize nxs[i] = y at *
      cases h : (x.From.toList == y.Name.toList)
      · have HS : Hid (strB x.From nm0 = false) := by show _ = _; rw [← HNM.out]; exact h
        go_wp2_with fail
        go_quiet (fail)
        go_wp2_with fail
        go_roundw
        case rel => exact ⟨k + 1, by omega, by go_num, below_drewN hb _, hm.out.trans (by rw [hd.out]; simp only [nextM, HS.out]; rfl)⟩
        case measure => simp [intOf]; omega
      · have HS : Hid (strB x.From nm0 = true) := by show _ = _; rw [← HNM.out]; exact h
        have hfn := fun W (hW : Below w.heap.size w W) => r26findNode_any ⟨⟨some ⟨nb, no, none⟩, nc, nxs⟩, ⟨some ⟨b, off, none⟩, lc, lxs⟩⟩ x.To W (isN.mono hW)
        simp only [vNet, vSl] at hfn
        have HR : Hid (nextM nxs nm0 lxs = findNd nxs x.To) := by
          show _ = _
          rw [hm.out, hd.out]; simp only [nextM, HS.out, if_true]
        clear isN hm hd
        generalize findNd nxs x.To = f at *
        go_wp2_with fail
        go_quiet (fail)
        go_wp2_with fail
        refine wp_region_more_lit (by kernel_rfl) (by kernel_rfl) ?_
        repeat (go_big_quiet_step (((go_at_call 38; exact Calls.more_of (hfn _ (hbw.trans ((below_drewN (Below.refl _ _) _).trans ((below_more _ _).mono (by simp)) |>.mono hbw.size)))))))
        refine wpQuiet_nil ?_
        intro _ hwq
        obtain ⟨xq, hwq⟩ := hwq
        subst hwq
        go_wp2_with fail
        go_ret
        exact ⟨ret_int HR.out.symm, Below.more (below_drewN hbw _) (by simpa using hbw.size) _⟩
    · go_wp2_with fail
      go_ret
      refine ⟨ret_int ?_, hbw⟩
      rw [hm.out, List.drop_eq_nil_of_le (by omega)]; rfl

theorem rcap_lit' {x : Nd} {c : Int} (h : capB x = c) (w : World) (hg : gNd w x) (hok : x.Kind = 3 ∨ 1 ≤ x.Sh.xs.length) : Calls Tryz.prog 37 #[vNd x] w fun e w' => e = .returned (.int .i64 c) ∧ Below w.heap.size w w' := by
  rw [← h]; exact r29cap_any x w hg hok

theorem fullM_at {ns : List Nd} {V : List Int} {k : Nat} (h1 : k < ns.length) (h2 : k < V.length) : fullM ns V k = (!decide (ns[k].Kind = 3) && decide (V[k] = capB ns[k])) := by
  simp only [fullM, List.getD, List.getElem?_eq_getElem h1, List.getElem?_eq_getElem h2, Option.getD_some]

set_option maxRecDepth 100000 in
set_option maxHeartbeats 4000000 in
theorem r38full_any (n : Net) (s : St) (k : Nat) (w : World) (hg : gNet w n) (hgs : gSt w s) (hk : k < n.Ns.xs.length) (hv : k < s.V.xs.length) (hok : n.Ns.xs[k].Kind = 3 ∨ 1 ≤ n.Ns.xs[k].Sh.xs.length) :
    Calls Tryz.prog 11 #[vNet n, vSt s, .int .i64 k] w fun e w' => e = .returned (.bool (fullM n.Ns.xs s.V.xs k)) ∧ Below w.heap.size w w' := by
  obtain ⟨⟨na, nc, nxs⟩, ⟨la, lc, lxs⟩⟩ := n
  obtain ⟨⟨va, vc, vs⟩, ⟨pa, pc, ps⟩, ⟨ea, ec, ss⟩, ⟨oa, oc, os⟩⟩ := s
  obtain ⟨hV, hP, hE, hO⟩ := hgs
  obtain ⟨hN, hL⟩ := hg
  simp only at hN hL hk hv hok hV
  have HF := Lib.hid (fullM_at hk hv)
  obtain ⟨res, hres⟩ : ∃ r, fullM nxs vs k = r := ⟨_, rfl⟩
  have HR := Lib.hid (hres.symm.trans HF.out)
  rw [hres]
  clear hres HF
  obtain ⟨b, off, ea0, c0, c1, c2, c3, c4, c5, c6, c7, c8⟩ := hN.2.2.1.nd k hk
  obtain ⟨vb, vo, eb0, cv⟩ := hV.2.2.1.int k hv
  simp only at ea0 eb0 cv
  subst ea0; subst eb0
  have gx := hN.2.2.2 _ (List.getElem_mem hk)
  have i1 : (0 : Int) ≤ k := by omega
  have i2 : (k : Int) < nxs.length := by omega
  have i3 : (k : Int) < vs.length := by omega
  clear hN hL hV hP hE hO
  simp only [vNet, vSt, vSl]
  generalize nxs[k] = x at *
  generalize vs[k] = v at *
  obtain ⟨c, hc⟩ : ∃ c, capB x = c := ⟨_, rfl⟩
  rw [hc] at HR
  have HC := Lib.hid hc
  clear hc
  have hb0 : Below w.heap.size w ((w.alloc (.cells #[.slice (some ⟨b, off, none⟩) nxs.length nc, .slice la lxs.length lc] 25)).alloc (.cells #[.slice (some ⟨vb, vo, none⟩) vs.length vc, .slice pa ps.length pc, .slice ea ss.length ec, .slice oa os.length oc] 29)) := ((Below.refl _ _).alloc (Nat.le_refl _) _).alloc (by simp) _
  obtain ⟨f0, f1, f2, f3⟩ := boxSt (w.alloc (.cells #[.slice (some ⟨b, off, none⟩) nxs.length nc, .slice la lxs.length lc] 25)) ((w.alloc (.cells #[.slice (some ⟨b, off, none⟩) nxs.length nc, .slice la lxs.length lc] 25)).alloc (.cells #[.slice (some ⟨vb, vo, none⟩) vs.length vc, .slice pa ps.length pc, .slice ea ss.length ec, .slice oa os.length oc] 29)) 29 ⟨⟨some ⟨vb, vo, none⟩, vc, vs⟩, ⟨pa, pc, ps⟩, ⟨ea, ec, ss⟩, ⟨oa, oc, os⟩⟩ _ rfl (w.heap.size + 2) (by simp) (Below.refl _ _)
  obtain ⟨e0, e1⟩ := boxNet w ((w.alloc (.cells #[.slice (some ⟨b, off, none⟩) nxs.length nc, .slice la lxs.length lc] 25)).alloc (.cells #[.slice (some ⟨vb, vo, none⟩) vs.length vc, .slice pa ps.length pc, .slice ea ss.length ec, .slice oa os.length oc] 29)) 25 ⟨⟨some ⟨b, off, none⟩, nc, nxs⟩, ⟨la, lc, lxs⟩⟩ _ rfl _ rfl ((Below.refl _ _).alloc (by simp) _)
  rw [show (w.alloc (.cells #[.slice (some ⟨b, off, none⟩) nxs.length nc, .slice la lxs.length lc] 25)).heap.size = w.heap.size + 1 from by simp] at f0 f1 f2 f3
  simp only [vSl] at e0 e1 f0 f1 f2 f3
  have c0 := box_lt c0 hb0
  have c1 := box_lt c1 hb0
  have c2 := box_lt c2 hb0
  have c3 := box_lt c3 hb0
  have c4 := box_lt c4 hb0
  have c5 := box_lt c5 hb0
  have c6 := box_lt c6 hb0
  have c7 := box_lt c7 hb0
  have c8 := box_lt c8 hb0
  have cv := box_lt cv hb0
  have gx := rdNd.mono gx hb0
  have hz := hb0.size
  by_cases k3 : x.Kind = 3
  · have u := bneF k3
    have HK : Hid (res = false) := by show _ = _; rw [HR.out]; simp [k3]
    clear k3 HR
    go_enter Tryz.func11, Tryz.ntmps11
    go_wp2_with fail
    generalize ((w.alloc (.cells #[.slice (some ⟨b, off, none⟩) nxs.length nc, .slice la lxs.length lc] 25)).alloc (.cells #[.slice (some ⟨vb, vo, none⟩) vs.length vc, .slice pa ps.length pc, .slice ea ss.length ec, .slice oa os.length oc] 29)) = W at *
    refine wp_region_more_lit (by kernel_rfl) (by kernel_rfl) ?_
    repeat (go_big_quiet_step (fail))
    refine wpQuiet_nil ?_
    intro _ hwq
    obtain ⟨xq, hwq⟩ := hwq
    subst hwq
    go_wp2_with fail
    go_ret
    exact ⟨ret_bool HK.out.symm, Below.more hb0 hz _⟩
  · have u := bneT k3
    by_cases hvc : v = c
    · have u2 := beqT hvc
      have HK : Hid (res = true) := by show _ = _; rw [HR.out]; simp [k3, hvc]
      clear k3 HR hvc
      go_enter Tryz.func11, Tryz.ntmps11
      go_wp2_with fail
      generalize ((w.alloc (.cells #[.slice (some ⟨b, off, none⟩) nxs.length nc, .slice la lxs.length lc] 25)).alloc (.cells #[.slice (some ⟨vb, vo, none⟩) vs.length vc, .slice pa ps.length pc, .slice ea ss.length ec, .slice oa os.length oc] 29)) = W at *
      refine wp_region_more_lit (by kernel_rfl) (by kernel_rfl) ?_
      repeat (go_big_quiet_step (((go_at_call 37; exact Calls.more_of (rcap_lit' HC.out _ (rdNd.mono gx (below_more _ _)) hok)))))
      refine wpQuiet_nil ?_
      intro _ hwq
      obtain ⟨xq, hwq⟩ := hwq
      subst hwq
      go_wp2_with fail
      go_ret
      exact ⟨ret_bool HK.out.symm, Below.more hb0 hz _⟩
    · have u2 := beqF hvc
      have HK : Hid (res = false) := by show _ = _; rw [HR.out]; simp [k3, hvc]
      clear k3 HR hvc
      go_enter Tryz.func11, Tryz.ntmps11
      go_wp2_with fail
      generalize ((w.alloc (.cells #[.slice (some ⟨b, off, none⟩) nxs.length nc, .slice la lxs.length lc] 25)).alloc (.cells #[.slice (some ⟨vb, vo, none⟩) vs.length vc, .slice pa ps.length pc, .slice ea ss.length ec, .slice oa os.length oc] 29)) = W at *
      refine wp_region_more_lit (by kernel_rfl) (by kernel_rfl) ?_
      repeat (go_big_quiet_step (((go_at_call 37; exact Calls.more_of (rcap_lit' HC.out _ (rdNd.mono gx (below_more _ _)) hok)))))
      refine wpQuiet_nil ?_
      intro _ hwq
      obtain ⟨xq, hwq⟩ := hwq
      subst hwq
      go_wp2_with fail
      go_ret
      exact ⟨ret_bool HK.out.symm, Below.more hb0 hz _⟩

end Go.Proofs.YtlcfnbnpkcjjlaaGreat

namespace Go.Proofs.YtlcfnbnpkcjjlaaGreat
open Go.RowKit
set_option linter.unusedVariables false
set_option linter.unusedSimpArgs false

theorem ent29 : ∀ args w, (callFunc 29 args).run Tryz.prog w = .ok (.enter 29 args) w := by
  intro args w
  simp [go_sem]

set_option maxHeartbeats 1000000 in
theorem cause2_any (x : Int × Int) (i : Nat) (B : Nat) (w : World) (hc : w.cell? ⟨B, 0, none⟩ = some (.int .i64 i)) :
    Calls Tryz.prog 29 #[vPr x, .pointer (some ⟨B, 0, none⟩)] w fun e w' => e = .returned (.bool (decide (x.1 = (i : Int)))) ∧ Below w.heap.size w w' := by
  obtain ⟨a, b⟩ := x
  simp only [vPr]
  by_cases h : a = (i : Int)
  · have u := beqT h
    have HH : Hid (decide (a = (i : Int)) = true) := decide_eq_true h
    rw [HH.out]
    clear h HH
    go_enter Tryz.func29, Tryz.ntmps29
    go_wp2_with fail
    go_ret
    exact ⟨rfl, by repeat' (first | exact Below.refl _ _ | assumption | refine Below.more ?_ ?_ _ | refine Below.alloc ?_ ?_ _ | refine Below.drew ?_ | refine below_drewN ?_ _ | refine Below.setCell ?_ ?_ _ | exact Below.size (by assumption) | (simp [go_sem, size_more]; done) | (simp [go_sem, size_more]; omega))⟩
  · have u := beqF h
    have HH : Hid (decide (a = (i : Int)) = false) := decide_eq_false h
    rw [HH.out]
    clear h HH
    go_enter Tryz.func29, Tryz.ntmps29
    go_wp2_with fail
    go_ret
    exact ⟨rfl, by repeat' (first | exact Below.refl _ _ | assumption | refine Below.more ?_ ?_ _ | refine Below.alloc ?_ ?_ _ | refine Below.drew ?_ | refine below_drewN ?_ _ | refine Below.setCell ?_ ?_ _ | exact Below.size (by assumption) | (simp [go_sem, size_more]; done) | (simp [go_sem, size_more]; omega))⟩

set_option maxHeartbeats 2000000 in
theorem cause1_any (ns : Sl Nd) (V : Sl Int) (k B1 B2 : Nat) (w : World) (e0 : w.cell? ⟨B1, 0, none⟩ = some (vSl ns)) (f0 : w.cell? ⟨B2, 0, none⟩ = some (vSl V))
    (hs : IsC eNd 9 w ns.a ns.xs) (hv : IsC eInt 1 w V.a V.xs) (hk : k < ns.xs.length) (hkv : k < V.xs.length) (gx : gNd w ns.xs[k]) (hnd : ndB ns.xs[k] = true) :
    Calls Tryz.prog 26 #[.int .i64 k, .pointer (some ⟨B1, 0, none⟩), .pointer (some ⟨B2, 0, none⟩)] w fun e w' => e = .returned (.bool (fullM ns.xs V.xs k)) ∧ Below w.heap.size w w' := by
  obtain ⟨na, nc, nxs⟩ := ns
  obtain ⟨va, vc, vs⟩ := V
  simp only [vSl] at *
  have HF := Lib.hid (fullM_at hk hkv)
  obtain ⟨res, hres⟩ : ∃ r, fullM nxs vs k = r := ⟨_, rfl⟩
  have HR := Lib.hid (hres.symm.trans HF.out)
  rw [hres]
  clear hres HF
  obtain ⟨b, off, rfl, c0, c1, c2, c3, c4, c5, c6, c7, c8⟩ := hs.nd k hk
  obtain ⟨vb, vo, rfl, cv⟩ := hv.int k hkv
  have i1 : (0 : Int) ≤ k := by omega
  have i2 : (k : Int) < nxs.length := by have h : k < nxs.length := hk; omega
  have i3 : (k : Int) < vs.length := by have h : k < vs.length := hkv; omega
  clear hs hv
  generalize nxs[k] = x at *
  generalize vs[k] = v at *
  have HX : Hid (capXB x = (capB x, 0)) := by show _ = _; simp [capXB, hnd]
  have hcap := fun W h => scapX_any x W h
  rw [HX.out] at hcap
  generalize capB x = c at *
  clear hnd
  by_cases k3 : x.Kind = 3
  · have u := bneF k3
    have HK : Hid (res = false) := by show _ = _; rw [HR.out]; simp [k3]
    clear k3 HR
    go_enter Tryz.func26, Tryz.ntmps26
    go_wp2_with fail
    refine Calls.to (hcap _ gx) ?_
    rintro e w1 rfl hb1
    have e0 := box_lt e0 hb1
    have f0 := box_lt f0 hb1
    have c1 := box_lt c1 hb1
    have cv := box_lt cv hb1
    clear hcap
    go_wp2_with fail
    go_ret
    exact ⟨ret_bool HK.out.symm, hb1⟩
  · have u := bneT k3
    by_cases hvc : v = c
    · have u2 := beqT hvc
      have HK : Hid (res = true) := by show _ = _; rw [HR.out]; simp [k3, hvc]
      clear k3 HR hvc
      go_enter Tryz.func26, Tryz.ntmps26
      go_wp2_with fail
      refine Calls.to (hcap _ gx) ?_
      rintro e w1 rfl hb1
      have e0 := box_lt e0 hb1
      have f0 := box_lt f0 hb1
      have c1 := box_lt c1 hb1
      have cv := box_lt cv hb1
      clear hcap
      go_wp2_with fail
      go_ret
      exact ⟨ret_bool HK.out.symm, hb1⟩
    · have u2 := beqF hvc
      have HK : Hid (res = false) := by show _ = _; rw [HR.out]; simp [k3, hvc]
      clear k3 HR hvc
      go_enter Tryz.func26, Tryz.ntmps26
      go_wp2_with fail
      refine Calls.to (hcap _ gx) ?_
      rintro e w1 rfl hb1
      have e0 := box_lt e0 hb1
      have f0 := box_lt f0 hb1
      have c1 := box_lt c1 hb1
      have cv := box_lt cv hb1
      clear hcap
      go_wp2_with fail
      go_ret
      exact ⟨ret_bool HK.out.symm, hb1⟩

end Go.Proofs.YtlcfnbnpkcjjlaaGreat

namespace Go.Proofs.YtlcfnbnpkcjjlaaGreat
open Go.RowKit
set_option linter.unusedVariables false
set_option linter.unusedSimpArgs false

theorem ent20 : ∀ args w, (callFunc 20 args).run Tryz.prog w = .ok (.enter 20 args) w := by
  intro args w
  simp [go_sem]
theorem ent22 : ∀ args w, (callFunc 22 args).run Tryz.prog w = .ok (.enter 22 args) w := by
  intro args w
  simp [go_sem]
def lg1 (x : Nd) : Bool := decide ((110 : Int) < x.Sh.xs.length) || decide ((100 : Int) < x.Name.size)
def lg2 (x : Lk) : Bool := decide ((110 : Int) < x.Cu.xs.length) || decide ((100 : Int) < x.Name.size) || decide ((100 : Int) < x.From.size) || decide ((100 : Int) < x.To.size) || decide ((100 : Int) < x.Sec.size)

set_option maxHeartbeats 1000000 in
theorem large1_any (x : Nd) (w : World) : Calls Tryz.prog 20 #[vNd x] w fun e w' => e = .returned (.bool (lg1 x)) ∧ Below w.heap.size w w' := by
  obtain ⟨nm, kd, ax, ay, iv, gr, ⟨sa, scap, sxs⟩, pr, rs⟩ := x
  have H : Hid (lg1 ⟨nm, kd, ax, ay, iv, gr, ⟨sa, scap, sxs⟩, pr, rs⟩ = (decide ((110 : Int) < sxs.length) || decide ((100 : Int) < nm.size))) := rfl
  generalize lg1 ⟨nm, kd, ax, ay, iv, gr, ⟨sa, scap, sxs⟩, pr, rs⟩ = res at *
  simp only [vNd, vSl]
  cases h1 : decide ((110 : Int) < sxs.length)
  · cases h2 : decide ((100 : Int) < nm.size)
    · have HK := Lib.hid (H.out.trans (by rw [h1, h2]; rfl : _ = false))
      go_enter Tryz.func20, Tryz.ntmps20
      go_wp2_with fail
      go_ret
      exact ⟨ret_bool HK.out.symm, by repeat' (first | exact Below.refl _ _ | assumption | refine Below.more ?_ ?_ _ | refine Below.alloc ?_ ?_ _ | refine Below.drew ?_ | refine below_drewN ?_ _ | refine Below.setCell ?_ ?_ _ | exact Below.size (by assumption) | (simp [go_sem, size_more]; done) | (simp [go_sem, size_more]; omega))⟩
    · have HK := Lib.hid (H.out.trans (by rw [h1, h2]; rfl : _ = true))
      go_enter Tryz.func20, Tryz.ntmps20
      go_wp2_with fail
      go_ret
      exact ⟨ret_bool HK.out.symm, by repeat' (first | exact Below.refl _ _ | assumption | refine Below.more ?_ ?_ _ | refine Below.alloc ?_ ?_ _ | refine Below.drew ?_ | refine below_drewN ?_ _ | refine Below.setCell ?_ ?_ _ | exact Below.size (by assumption) | (simp [go_sem, size_more]; done) | (simp [go_sem, size_more]; omega))⟩
  · have HK := Lib.hid (H.out.trans (by rw [h1]; rfl : _ = true))
    go_enter Tryz.func20, Tryz.ntmps20
    go_wp2_with fail
    go_ret
    exact ⟨ret_bool HK.out.symm, by repeat' (first | exact Below.refl _ _ | assumption | refine Below.more ?_ ?_ _ | refine Below.alloc ?_ ?_ _ | refine Below.drew ?_ | refine below_drewN ?_ _ | refine Below.setCell ?_ ?_ _ | exact Below.size (by assumption) | (simp [go_sem, size_more]; done) | (simp [go_sem, size_more]; omega))⟩

set_option maxHeartbeats 1000000 in
theorem large2_any (x : Lk) (w : World) : Calls Tryz.prog 22 #[vLk x] w fun e w' => e = .returned (.bool (lg2 x)) ∧ Below w.heap.size w w' := by
  obtain ⟨nm, fr, tt, kd, ln, up, dn, sc, wi, he, ⟨sa, scap, sxs⟩⟩ := x
  have H : Hid (lg2 ⟨nm, fr, tt, kd, ln, up, dn, sc, wi, he, ⟨sa, scap, sxs⟩⟩ = (decide ((110 : Int) < sxs.length) || decide ((100 : Int) < nm.size) || decide ((100 : Int) < fr.size) || decide ((100 : Int) < tt.size) || decide ((100 : Int) < sc.size))) := rfl
  generalize lg2 ⟨nm, fr, tt, kd, ln, up, dn, sc, wi, he, ⟨sa, scap, sxs⟩⟩ = res at *
  simp only [vLk, vSl]
  cases h1 : decide ((110 : Int) < sxs.length)
  rotate_left
  · have HK := Lib.hid (H.out.trans (by rw [h1, Bool.true_or, Bool.true_or, Bool.true_or]; rfl : _ = true))
    go_enter Tryz.func22, Tryz.ntmps22
    go_wp2_with fail
    go_ret
    exact ⟨ret_bool HK.out.symm, by repeat' (first | exact Below.refl _ _ | assumption | refine Below.more ?_ ?_ _ | refine Below.alloc ?_ ?_ _ | refine Below.drew ?_ | refine below_drewN ?_ _ | refine Below.setCell ?_ ?_ _ | exact Below.size (by assumption) | (simp [go_sem, size_more]; done) | (simp [go_sem, size_more]; omega))⟩
  cases h2 : decide ((100 : Int) < nm.size)
  rotate_left
  · have HK := Lib.hid (H.out.trans (by rw [h1, h2, Bool.false_or, Bool.true_or, Bool.true_or]; rfl : _ = true))
    go_enter Tryz.func22, Tryz.ntmps22
    go_wp2_with fail
    go_ret
    exact ⟨ret_bool HK.out.symm, by repeat' (first | exact Below.refl _ _ | assumption | refine Below.more ?_ ?_ _ | refine Below.alloc ?_ ?_ _ | refine Below.drew ?_ | refine below_drewN ?_ _ | refine Below.setCell ?_ ?_ _ | exact Below.size (by assumption) | (simp [go_sem, size_more]; done) | (simp [go_sem, size_more]; omega))⟩
  cases h3 : decide ((100 : Int) < fr.size)
  rotate_left
  · have HK := Lib.hid (H.out.trans (by rw [h1, h2, h3, Bool.false_or, Bool.false_or, Bool.true_or]; rfl : _ = true))
    go_enter Tryz.func22, Tryz.ntmps22
    go_wp2_with fail
    go_ret
    exact ⟨ret_bool HK.out.symm, by repeat' (first | exact Below.refl _ _ | assumption | refine Below.more ?_ ?_ _ | refine Below.alloc ?_ ?_ _ | refine Below.drew ?_ | refine below_drewN ?_ _ | refine Below.setCell ?_ ?_ _ | exact Below.size (by assumption) | (simp [go_sem, size_more]; done) | (simp [go_sem, size_more]; omega))⟩
  cases h4 : decide ((100 : Int) < tt.size)
  rotate_left
  · have HK := Lib.hid (H.out.trans (by rw [h1, h2, h3, h4]; rfl : _ = true))
    go_enter Tryz.func22, Tryz.ntmps22
    go_wp2_with fail
    go_ret
    exact ⟨ret_bool HK.out.symm, by repeat' (first | exact Below.refl _ _ | assumption | refine Below.more ?_ ?_ _ | refine Below.alloc ?_ ?_ _ | refine Below.drew ?_ | refine below_drewN ?_ _ | refine Below.setCell ?_ ?_ _ | exact Below.size (by assumption) | (simp [go_sem, size_more]; done) | (simp [go_sem, size_more]; omega))⟩
  cases h5 : decide ((100 : Int) < sc.size)
  rotate_left
  · have HK := Lib.hid (H.out.trans (by rw [h1, h2, h3, h4, h5]; rfl : _ = true))
    go_enter Tryz.func22, Tryz.ntmps22
    go_wp2_with fail
    go_ret
    exact ⟨ret_bool HK.out.symm, by repeat' (first | exact Below.refl _ _ | assumption | refine Below.more ?_ ?_ _ | refine Below.alloc ?_ ?_ _ | refine Below.drew ?_ | refine below_drewN ?_ _ | refine Below.setCell ?_ ?_ _ | exact Below.size (by assumption) | (simp [go_sem, size_more]; done) | (simp [go_sem, size_more]; omega))⟩
  · have HK := Lib.hid (H.out.trans (by rw [h1, h2, h3, h4, h5]; rfl : _ = false))
    go_enter Tryz.func22, Tryz.ntmps22
    go_wp2_with fail
    go_ret
    exact ⟨ret_bool HK.out.symm, by repeat' (first | exact Below.refl _ _ | assumption | refine Below.more ?_ ?_ _ | refine Below.alloc ?_ ?_ _ | refine Below.drew ?_ | refine below_drewN ?_ _ | refine Below.setCell ?_ ?_ _ | exact Below.size (by assumption) | (simp [go_sem, size_more]; done) | (simp [go_sem, size_more]; omega))⟩

end Go.Proofs.YtlcfnbnpkcjjlaaGreat

namespace Go.Proofs.YtlcfnbnpkcjjlaaGreat
open Go.RowKit
set_option linter.unusedVariables false
set_option linter.unusedSimpArgs false

def largeB (n : Net) (s : St) : Bool :=
  decide ((12 : Int) < n.Ns.xs.length) || decide ((20 : Int) < n.Ls.xs.length) || decide ((25 : Int) < s.V.xs.length) || decide ((25 : Int) < s.P.xs.length) || decide ((25 : Int) < s.S.xs.length) || decide ((25 : Int) < s.O.xs.length) || (n.Ns.xs.any lg1 || n.Ls.xs.any lg2)

set_option maxHeartbeats 4000000 in
theorem large_any (n : Net) (s : St) (w : World) (hg : gNet w n) : Calls Tryz.prog 5 #[vNet n, vSt s] w fun e w' => e = .returned (.bool (largeB n s)) ∧ Below w.heap.size w w' := by
  obtain ⟨⟨na, nc, nxs⟩, ⟨la, lc, lxs⟩⟩ := n
  obtain ⟨⟨va, vc, vs⟩, ⟨pa, pc, ps⟩, ⟨ea, ec, ss⟩, ⟨oa, oc, os⟩⟩ := s
  have isN : IsNds w (.slice na nxs.length nc) nxs := hg.1.isL
  have isL : IsLks w (.slice la lxs.length lc) lxs := hg.2.isL
  clear hg
  have H : Hid (largeB ⟨⟨na, nc, nxs⟩, ⟨la, lc, lxs⟩⟩ ⟨⟨va, vc, vs⟩, ⟨pa, pc, ps⟩, ⟨ea, ec, ss⟩, ⟨oa, oc, os⟩⟩ = (decide ((12 : Int) < nxs.length) || decide ((20 : Int) < lxs.length) || decide ((25 : Int) < vs.length) || decide ((25 : Int) < ps.length) || decide ((25 : Int) < ss.length) || decide ((25 : Int) < os.length) || (nxs.any lg1 || lxs.any lg2))) := rfl
  generalize largeB ⟨⟨na, nc, nxs⟩, ⟨la, lc, lxs⟩⟩ ⟨⟨va, vc, vs⟩, ⟨pa, pc, ps⟩, ⟨ea, ec, ss⟩, ⟨oa, oc, os⟩⟩ = res at *
  simp only [vNet, vSt, vSl]
  cases h1 : decide ((12 : Int) < nxs.length)
  rotate_left
  · have HK := Lib.hid (H.out.trans (by rw [h1, Bool.true_or, Bool.true_or, Bool.true_or, Bool.true_or, Bool.true_or]; rfl : _ = true))
    go_enter Tryz.func5, Tryz.ntmps5
    go_wp2_with fail
    go_ret
    exact ⟨ret_bool HK.out.symm, by repeat' (first | exact Below.refl _ _ | assumption | refine Below.more ?_ ?_ _ | refine Below.alloc ?_ ?_ _ | refine Below.drew ?_ | refine below_drewN ?_ _ | refine Below.setCell ?_ ?_ _ | exact Below.size (by assumption) | (simp [go_sem, size_more]; done) | (simp [go_sem, size_more]; omega))⟩
  cases h2 : decide ((20 : Int) < lxs.length)
  rotate_left
  · have HK := Lib.hid (H.out.trans (by rw [h1, h2, Bool.false_or, Bool.true_or, Bool.true_or, Bool.true_or, Bool.true_or]; rfl : _ = true))
    go_enter Tryz.func5, Tryz.ntmps5
    go_wp2_with fail
    go_ret
    exact ⟨ret_bool HK.out.symm, by repeat' (first | exact Below.refl _ _ | assumption | refine Below.more ?_ ?_ _ | refine Below.alloc ?_ ?_ _ | refine Below.drew ?_ | refine below_drewN ?_ _ | refine Below.setCell ?_ ?_ _ | exact Below.size (by assumption) | (simp [go_sem, size_more]; done) | (simp [go_sem, size_more]; omega))⟩
  cases h3 : decide ((25 : Int) < vs.length)
  rotate_left
  · have HK := Lib.hid (H.out.trans (by rw [h1, h2, h3, Bool.false_or, Bool.false_or, Bool.true_or, Bool.true_or, Bool.true_or]; rfl : _ = true))
    go_enter Tryz.func5, Tryz.ntmps5
    go_wp2_with fail
    go_ret
    exact ⟨ret_bool HK.out.symm, by repeat' (first | exact Below.refl _ _ | assumption | refine Below.more ?_ ?_ _ | refine Below.alloc ?_ ?_ _ | refine Below.drew ?_ | refine below_drewN ?_ _ | refine Below.setCell ?_ ?_ _ | exact Below.size (by assumption) | (simp [go_sem, size_more]; done) | (simp [go_sem, size_more]; omega))⟩
  cases h4 : decide ((25 : Int) < ps.length)
  rotate_left
  · have HK := Lib.hid (H.out.trans (by rw [h1, h2, h3, h4, Bool.false_or, Bool.false_or, Bool.false_or, Bool.true_or, Bool.true_or]; rfl : _ = true))
    go_enter Tryz.func5, Tryz.ntmps5
    go_wp2_with fail
    go_ret
    exact ⟨ret_bool HK.out.symm, by repeat' (first | exact Below.refl _ _ | assumption | refine Below.more ?_ ?_ _ | refine Below.alloc ?_ ?_ _ | refine Below.drew ?_ | refine below_drewN ?_ _ | refine Below.setCell ?_ ?_ _ | exact Below.size (by assumption) | (simp [go_sem, size_more]; done) | (simp [go_sem, size_more]; omega))⟩
  cases h5 : decide ((25 : Int) < ss.length)
  rotate_left
  · have HK := Lib.hid (H.out.trans (by rw [h1, h2, h3, h4, h5, Bool.false_or, Bool.false_or, Bool.false_or, Bool.false_or, Bool.true_or]; rfl : _ = true))
    go_enter Tryz.func5, Tryz.ntmps5
    go_wp2_with fail
    go_ret
    exact ⟨ret_bool HK.out.symm, by repeat' (first | exact Below.refl _ _ | assumption | refine Below.more ?_ ?_ _ | refine Below.alloc ?_ ?_ _ | refine Below.drew ?_ | refine below_drewN ?_ _ | refine Below.setCell ?_ ?_ _ | exact Below.size (by assumption) | (simp [go_sem, size_more]; done) | (simp [go_sem, size_more]; omega))⟩
  cases h6 : decide ((25 : Int) < os.length)
  rotate_left
  · have HK := Lib.hid (H.out.trans (by rw [h1, h2, h3, h4, h5, h6]; rfl : _ = true))
    go_enter Tryz.func5, Tryz.ntmps5
    go_wp2_with fail
    go_ret
    exact ⟨ret_bool HK.out.symm, by repeat' (first | exact Below.refl _ _ | assumption | refine Below.more ?_ ?_ _ | refine Below.alloc ?_ ?_ _ | refine Below.drew ?_ | refine below_drewN ?_ _ | refine Below.setCell ?_ ?_ _ | exact Below.size (by assumption) | (simp [go_sem, size_more]; done) | (simp [go_sem, size_more]; omega))⟩
  have HK0 := Lib.hid (H.out.trans (by rw [h1, h2, h3, h4, h5, h6]; rfl : _ = (nxs.any lg1 || lxs.any lg2)))
  have hb0 : Below w.heap.size w ((w.alloc (.cells #[.slice na nxs.length nc, .slice la lxs.length lc] 25)).alloc (.cells #[.slice va vs.length vc, .slice pa ps.length pc, .slice ea ss.length ec, .slice oa os.length oc] 29)) := ((Below.refl _ _).alloc (Nat.le_refl _) _).alloc (by simp) _
  go_enter Tryz.func5, Tryz.ntmps5
  go_wp2_with fail
  refine Calls.to (containsNd 20 #[] ent20 lg1 nxs _ _ (isN.mono hb0) (fun W _ x _ => large1_any x W)) ?_
  rintro e w1 rfl hb1
  have hbb := hb0.trans (hb1.mono hb0.size)
  obtain ⟨e0, e1⟩ := boxNet w w1 25 ⟨⟨na, nc, nxs⟩, ⟨la, lc, lxs⟩⟩ _ rfl _ rfl (((Below.refl _ _).alloc (by simp) _).trans (hb1.mono (by simp)))
  simp only [vSl] at e0 e1
  cases t1 : nxs.any lg1
  rotate_left
  · have HK := Lib.hid (HK0.out.trans (by rw [t1]; rfl : _ = true))
    go_wp2_with fail
    go_ret
    exact ⟨ret_bool HK.out.symm, hbb⟩
  have HK := Lib.hid (HK0.out.trans (by rw [t1]; rfl : _ = lxs.any lg2))
  have isL1 := isL.mono hbb
  clear hb1 hb0 isL isN HK0 H
  go_wp2_with fail
  refine Calls.to (containsLk 22 #[] ent22 lg2 lxs _ _ isL1 (fun W _ x _ => large2_any x W)) ?_
  rintro e w2 rfl hb2
  have hbb2 := hbb.trans (hb2.mono hbb.size)
  clear hb2 hbb
  go_wp2_with fail
  go_ret
  exact ⟨ret_bool HK.out.symm, hbb2⟩

end Go.Proofs.YtlcfnbnpkcjjlaaGreat
