/- planner's Cost. Conditions: the plan and the list read as data. -/
import Derived.Test.YtoiakijmbghhlaaGreatYph
namespace Go.Proofs.YtoiakijmbghhlaaGreat
open Go.RowKit
set_option linter.unusedVariables false
set_option linter.unusedSimpArgs false

set_option maxHeartbeats 1000000 in
theorem tindexI (xs : List Int) (y : Int) (v : Value) (w : World) (hv : IsInts w v xs) :
    Calls Tryz.prog 80 #[v, .int .i64 y] w fun e w' => e = .returned (.int .i64 (idxFrom (fun x => y == x) xs 0)) ∧ Below w.heap.size w w' := by
  obtain ⟨a, cap, rfl, hcap, hbig, hs⟩ := hv
  go_enter Tryz.func80, Tryz.ntmps80
  go_wp2
  go_loopw [5, 8] (fun _ s8 wr => ∃ k : Nat, k ≤ xs.length ∧ s8 = .int .i64 k ∧ Below w.heap.size w wr ∧ Hid (idxFrom (fun x => y == x) xs 0 = idxFrom (fun x => y == x) (xs.drop k) k)) (fun _ i _ => xs.length - (RowKit.intOf i).toNat)
  case atStart => exact ⟨0, Nat.zero_le _, rfl, Below.refl _ _, rfl⟩
  case round =>
    obtain ⟨k, hk, rfl, hb, hm⟩ := hrel
    by_cases hlt : k < xs.length
    · obtain ⟨b, off, rfl, c0⟩ := (hs.mono hb).int k hlt
      have hd := Lib.hid (List.drop_eq_getElem_cons hlt)
      clear hs
      generalize xs[k] = x at *
      cases h : (y == x)
      · have HS := Lib.hid h
        go_wp2_with fail
        go_roundw
        case rel => exact ⟨k + 1, by omega, by go_num, by repeat' (first | exact Below.refl _ _ | assumption | refine Below.more ?_ ?_ _ | refine Below.alloc ?_ ?_ _ | refine Below.drew ?_ | refine below_drewN ?_ _ | refine Below.setCell ?_ ?_ _ | exact Below.size (by assumption) | (simp [go_sem, size_more]; done) | (simp [go_sem, size_more]; omega)), hm.out.trans (by rw [hd.out]; simp [idxFrom, HS.out])⟩
        case measure => simp [RowKit.intOf]; omega
      · have HS := Lib.hid h
        go_wp2_with fail
        go_ret
        exact ⟨ret_int (by rw [hm.out, hd.out]; simp [idxFrom, HS.out]), by repeat' (first | exact Below.refl _ _ | assumption | refine Below.more ?_ ?_ _ | refine Below.alloc ?_ ?_ _ | refine Below.drew ?_ | refine below_drewN ?_ _ | refine Below.setCell ?_ ?_ _ | exact Below.size (by assumption) | (simp [go_sem, size_more]; done) | (simp [go_sem, size_more]; omega))⟩
    · go_wp2_with fail
      go_ret
      refine ⟨ret_int ?_, by repeat' (first | exact Below.refl _ _ | assumption | refine Below.more ?_ ?_ _ | refine Below.alloc ?_ ?_ _ | refine Below.drew ?_ | refine below_drewN ?_ _ | refine Below.setCell ?_ ?_ _ | exact Below.size (by assumption) | (simp [go_sem, size_more]; done) | (simp [go_sem, size_more]; omega))⟩
      rw [hm.out, List.drop_eq_nil_of_le (by omega)]; rfl

set_option maxHeartbeats 1000000 in
theorem tcontI (xs : List Int) (y : Int) (v : Value) (w : World) (hv : IsInts w v xs) :
    Calls Tryz.prog 79 #[v, .int .i64 y] w fun e w' => e = .returned (.bool (xs.contains y)) ∧ Below w.heap.size w w' := by
  have HC : Hid (decide (0 ≤ idxFrom (fun x => y == x) xs 0) = xs.contains y) := by
    show _ = _
    rw [idxFrom_any, List.contains_eq_any_beq]
  rw [← HC.out]
  go_enter Tryz.func79, Tryz.ntmps79
  go_wp2_with fail
  refine Calls.to (tindexI xs y v w hv) ?_
  rintro e w1 rfl hb
  go_wp2_with fail
  go_ret
  exact ⟨rfl, hb⟩


theorem ix_ex : ∀ (L : List Int) (r : Int) (i : Nat), r ∈ L → ∃ k, k < L.length ∧ L.getD k 0 = r ∧ idxFrom (fun x => r == x) L i = ((i + k : Nat) : Int)
  | x :: L, r, i, h => by
    by_cases hx : r = x
    · subst hx
      exact ⟨0, by simp, rfl, by simp [idxFrom]⟩
    · rcases List.mem_cons.1 h with h | h
      · exact absurd h hx
      · obtain ⟨k, h1, h2, h3⟩ := ix_ex L r (i + 1) h
        refine ⟨k + 1, by simpa using h1, by simpa using h2, ?_⟩
        have hb : (r == x) = false := by rw [beq_eq_false_iff_ne]; exact hx
        simp only [idxFrom, hb]
        rw [h3]
        simp; omega
/-- The index of a release. -/
def ixL (L : List Int) (r : Int) : Nat := (idxFrom (fun x => r == x) L 0).toNat
theorem ixL_mem {L : List Int} {r : Int} (h : r ∈ L) : ixL L r < L.length ∧ L.getD (ixL L r) 0 = r ∧ idxFrom (fun x => r == x) L 0 = (ixL L r : Int) := by
  obtain ⟨k, h1, h2, h3⟩ := ix_ex L r 0 h
  rw [Nat.zero_add] at h3
  have e : ixL L r = k := by unfold ixL; rw [h3]; simp
  rw [e]
  exact ⟨h1, h2, h3⟩
theorem ixL_at {p : PlD} (hp : PlOk p) {k : Nat} (hk : k < p.L.xs.length) : ixL p.L.xs (p.L.xs.getD k 0) = k := by
  have hm : p.L.xs.getD k 0 ∈ p.L.xs := by rw [List.getD, List.getElem?_eq_getElem hk, Option.getD_some]; exact List.getElem_mem hk
  obtain ⟨h1, h2, _⟩ := ixL_mem hm
  have hasc : ∀ (d i : Nat) (h : i + d + 1 < p.L.xs.length), p.L.xs[i] < p.L.xs[i + d + 1] := by
    intro d
    induction d with
    | zero => exact fun i h => hp.asc i h
    | succ d ih => exact fun i h => Int.lt_trans (ih i (by omega)) (hp.asc (i + d + 1) h)
  obtain ⟨x, hx⟩ : ∃ x, x = ixL p.L.xs (p.L.xs.getD k 0) := ⟨_, rfl⟩
  rw [← hx] at h1 h2 ⊢
  rw [show p.L.xs.getD x 0 = p.L.xs[x] from by simp [List.getD, List.getElem?_eq_getElem h1], show p.L.xs.getD k 0 = p.L.xs[k] from by simp [List.getD, List.getElem?_eq_getElem hk]] at h2
  rcases Nat.lt_trichotomy x k with h | h | h
  · have := hasc (k - x - 1) x (by omega)
    simp only [show x + (k - x - 1) + 1 = k from by omega] at this
    omega
  · exact h
  · have := hasc (x - k - 1) k (by omega)
    simp only [show k + (x - k - 1) + 1 = x from by omega] at this
    omega

inductive CostR (p : PlD) (rs : List Int) (w : World) : Value → Prop
  | bad : planB p = false → CostR p rs w (.tuple #[.int .i64 0, .slice none 0 0, .int .i64 1])
  | size : planB p = true → rs.length ≠ p.I.xs.length → CostR p rs w (.tuple #[.int .i64 0, .slice none 0 0, .int .i64 3])
  | range : planB p = true → (∃ r ∈ rs, r ∉ p.L.xs) → CostR p rs w (.tuple #[.int .i64 0, .slice none 0 0, .int .i64 2])
  | dry : planB p = true → rs.length = p.I.xs.length → (∀ r ∈ rs, r ∈ p.L.xs) → Pn.costK (plOf p) p.I.xs (rs.map (ixL p.L.xs)) p.St = none → CostR p rs w (.tuple #[.int .i64 0, .slice none 0 0, .int .i64 27])
  | ok (m : Int) (u : Value) (vs : List Int) : planB p = true → rs.length = p.I.xs.length → (∀ r ∈ rs, r ∈ p.L.xs) → Pn.costK (plOf p) p.I.xs (rs.map (ixL p.L.xs)) p.St = some (m, vs) → IsInts w u vs → CostR p rs w (.tuple #[.int .i64 m, u, .int .i64 0])

set_option maxHeartbeats 1000000 in
theorem pcost1_any (p : PlD) (r : Int) (B : Nat) (w : World) (hc : w.cell? ⟨B, 4, none⟩ = some (.slice p.L.a p.L.xs.length p.L.cap)) (hL : gInts w p.L) :
    Calls Tryz.prog 78 #[.int .i64 r, .pointer (some ⟨B, 0, none⟩)] w fun e w' => e = .returned (.bool (!p.L.xs.contains r)) ∧ Below w.heap.size w w' := by
  have hcon := tcontI p.L.xs r _ w hL.isL
  obtain ⟨b, hb0⟩ : ∃ b, p.L.xs.contains r = b := ⟨_, rfl⟩
  rw [hb0] at hcon ⊢
  clear hb0
  go_enter Tryz.func78, Tryz.ntmps78
  go_wp2_with fail
  refine Calls.to hcon ?_
  rintro e w1 rfl hb
  cases b
  · go_wp2_with fail
    go_ret
    exact ⟨rfl, hb⟩
  · go_wp2_with fail
    go_ret
    exact ⟨rfl, hb⟩

set_option maxRecDepth 100000 in
set_option maxHeartbeats 16000000 in
theorem pcost_any (p : PlD) (rs : List Int) (rv : Value) (w : World) (hg : gPl w p) (hrs : IsInts w rv rs) : Calls Tryz.prog 23 #[vPl p, rv] w fun e w' => (∃ v, e = .returned v ∧ CostR p rs w' v) ∧ Below w.heap.size w w' := by
  have hb0 : Below w.heap.size w (w.alloc (.cells (ePl p).toArray 68)) := (Below.refl _ _).alloc (Nat.le_refl _) _
  have hrs0 := hrs
  obtain ⟨ra, rc, rfl, hrl, hrb, hrC⟩ := hrs
  cases hP : planB p
  · have ht := tankOf_bad p _ (rdPl.mono hg hb0) hP
    have HP := Lib.hid hP
    clear hP
    go_enter Tryz.func23, Tryz.ntmps23
    go_wp2_with fail
    refine Calls.to ht ?_
    rintro e w1 rfl hb1
    have hbw := hb0.trans (hb1.mono hb0.size)
    go_wp2_with fail
    go_ret3
    exact ⟨⟨_, rfl, .bad HP.out⟩, hbw⟩
  have hp := planB_ok hP
  have ht := tankOf_ok p _ (rdPl.mono hg hb0) hP hp.tab hp.ll.2
  have HP := Lib.hid hP
  have HG := Lib.hid hg
  have HRS := Lib.hid hrs0
  have HRC := Lib.hid hrC
  clear hP hg hrs0 hrC
  obtain ⟨n, hn⟩ : ∃ n, n = p.I.xs.length := ⟨_, rfl⟩
  obtain ⟨q, hq⟩ : ∃ q, q = rs.length := ⟨_, rfl⟩
  have HN := Lib.hid hn
  have HQ := Lib.hid hq
  have hn2 : n ≤ 200 := by rw [hn]; exact hp.il
  rw [← hq]
  clear hrl
  go_enter Tryz.func23, Tryz.ntmps23
  go_wp2_with fail
  refine Calls.to ht ?_
  rintro e w1 ⟨g, rfl, hT⟩ hb1
  have hbw := hb0.trans (hb1.mono hb0.size)
  obtain ⟨c0, _, _, c3, c4, _, _⟩ := boxPl w w1 68 p _ rfl _ rfl (hb1.mono (by simp))
  rw [← hn] at c3
  clear hb1 hb0 ht hn hq
  by_cases hqn : q = n
  rotate_left
  · have j1 : ((q : Int) != (n : Int)) = true := by rw [bne_iff_ne]; omega
    have j2 : (q != n) = true := by rw [bne_iff_ne]; exact hqn
    have HNE : Hid (rs.length ≠ p.I.xs.length) := Lib.hid (by rw [← HN.out, ← HQ.out]; exact hqn)
    clear hqn
    go_wp2_with fail
    go_ret3
    exact ⟨⟨_, rfl, .size HP.out HNE.out⟩, hbw⟩
  subst hqn
  have hcont := containsInts 78 #[.pointer (some ⟨w.heap.size, 0, none⟩)] (fun _ _ => by kernel_rfl) (fun r => !p.L.xs.contains r) rs _ w1 (HRS.out.mono hbw) (fun X hX r hr => pcost1_any p r w.heap.size X (cel_lt c4 hX) (rdInts.mono (rdInts.mono HG.out.l hbw) hX))
  rw [← HQ.out] at hcont
  cases hany : rs.any (fun r => !p.L.xs.contains r)
  rotate_left
  · rw [hany] at hcont
    have HR : Hid (∃ r ∈ rs, r ∉ p.L.xs) := Lib.hid (by
      obtain ⟨r, h1, h2⟩ := List.any_eq_true.1 hany
      exact ⟨r, h1, by simpa using h2⟩)
    clear hany
    go_wp2_with fail
    refine Calls.to hcont ?_
    rintro e w2 rfl hb2
    have hbw2 := hbw.trans (hb2.mono hbw.size)
    go_wp2_with fail
    go_ret3
    exact ⟨⟨_, rfl, .range HP.out HR.out⟩, hbw2⟩
  rw [hany] at hcont
  have HA : Hid (∀ r ∈ rs, r ∈ p.L.xs) := Lib.hid (fun r hr => by
    have := List.any_eq_false.1 hany r hr
    simpa using this)
  clear hany
  go_wp2_with fail
  refine Calls.to hcont ?_
  rintro e w2 rfl hb2
  have hbw2 := hbw.trans (hb2.mono hbw.size)
  have c0 := cel_lt c0 hb2
  have c4 := cel_lt c4 hb2
  have hT2 := hT.mono hb2
  clear hb2 hT hcont c3
  go_wp2_with fail
  go_quiet (fail)
  have hbW : Below w2.heap.size w2 (w2.drewN nq) := below_drewN (Below.refl _ _) nq
  have hbw4 := hbw2.trans (hbW.mono hbw2.size)
  have c4 := cel_lt c4 hbW
  have HTW := Lib.hid (hT2.mono hbW)
  clear c0 hT2 hbW
  generalize w2.drewN nq = W at *
  go_wp2_with fail
  go_loopw [9, 10, 11, 40] (fun s9 s10 s11 s40 wr => ∃ (i : Nat) (sum vol : Int) (vs : List Int), i ≤ q ∧ s40 = .int .i64 i ∧ s9 = .int .i64 sum ∧ s10 = .int .i64 vol ∧ Below W.heap.size W wr ∧ Own W.heap.size 3 eInt 1 wr s11 vs ∧
      Hid (Pn.costK (plOf p) p.I.xs (rs.map (ixL p.L.xs)) p.St = (Pn.costK (plOf p) (p.I.xs.drop i) ((rs.map (ixL p.L.xs)).drop i) vol).map fun x => (sum + x.1, vs ++ x.2)) ∧ Hid (p.Rs ≤ vol ∧ vol ≤ p.Cp) ∧ Hid (0 ≤ sum ∧ sum ≤ i * 1100611139403776) ∧ Hid (vs.length = i)) (fun _ _ _ s40 _ => q - (RowKit.intOf s40).toNat)
  case atStart => exact ⟨0, 0, p.St, [], Nat.zero_le _, rfl, rfl, rfl, Below.refl _ _, World.ownsRow_nil _ _ _ _, Lib.hid (by rw [List.drop_zero, List.drop_zero]; cases Pn.costK (plOf p) p.I.xs (rs.map (ixL p.L.xs)) p.St <;> simp), Lib.hid hp.st, Lib.hid (by omega), Lib.hid rfl⟩
  case round =>
    obtain ⟨i, sum, vol, vs, hi, rfl, rfl, rfl, hb, hown, hco, hvb, hsm, hvl⟩ := hrel
    have hbr := hbw4.trans (hb.mono hbw4.size)
    obtain ⟨oa, oc, hoe⟩ := hown.isSlice
    have hyl : vs.length < 2147483648 := by have := hvl.out; omega
    obtain ⟨vl, hvlen⟩ : ∃ vl, vl = vs.length := ⟨_, rfl⟩
    rw [← hvlen] at hoe
    subst hoe
    have HVL := Lib.hid hvlen
    clear hvlen
    by_cases hin : i < q
    · have hir : i < rs.length := by rw [← HQ.out]; exact hin
      have hiI : i < p.I.xs.length := by rw [← HN.out]; exact hin
      obtain ⟨rb, ro, rfl, dr⟩ := (HRC.out.mono hbr).int i hir
      have hrL := HA.out _ (List.getElem_mem hir)
      obtain ⟨hx1, hx2, hx3⟩ := ixL_mem hrL
      have hkd : (rs.map (ixL p.L.xs)).drop i = ixL p.L.xs rs[i] :: (rs.map (ixL p.L.xs)).drop (i + 1) := by
        rw [List.drop_eq_getElem_cons (by simpa using hir)]; simp
      have hId := List.drop_eq_getElem_cons hiI
      have hcs := hco.out
      rw [hId, hkd, Pn.costK] at hcs
      obtain ⟨r, hr⟩ : ∃ r, r = rs[i] := ⟨_, rfl⟩
      rw [← hr] at dr hx1 hx3 hcs
      obtain ⟨k, hkk⟩ : ∃ k, k = ixL p.L.xs r := ⟨_, rfl⟩
      rw [← hkk] at hx1 hx3 hcs
      have hidx := tindexI p.L.xs r _ wr (rdInts.mono HG.out.l hbr).isL
      rw [hx3] at hidx
      have hstep := fun W' (h : Below wr.heap.size wr W') => pstep_any p g vol i k W' ((HTW.out.mono hb).mono h) hp hvb.out hiI hx1
      have c4r := cel_lt c4 hb
      have i1 : decide (i < q) = true := decide_eq_true hin
      have x7 : IntKind.i64.wrap ((i : Int) + 1) = i + 1 := IntWalk.i64_in _ (by omega)
      clear hr hkk hx2 hx3 hkd hId hrL
      cases hs : Pn.stepP (plOf p) vol p.I.xs[i] k with
      | none =>
        rw [hs] at hcs
        simp only [Option.map_none] at hcs
        simp only [hs, stV] at hstep
        have HCS := Lib.hid hcs
        clear hcs hs
        go_wp2_with fail
        refine Calls.to hidx ?_
        rintro e w5 rfl hb5
        have hst5 := hstep w5 hb5
        go_wp2_with fail
        refine Calls.to hst5 ?_
        rintro e w6 rfl hb6
        have hb6' := hbr.trans ((hb5.trans (hb6.mono hb5.size)).mono hbr.size)
        clear hstep hst5 hidx
        go_wp2_with fail
        go_ret3
        exact ⟨⟨_, rfl, .dry HP.out (by rw [← HQ.out, ← HN.out]) HA.out HCS.out⟩, hb6'⟩
      | some z =>
        obtain ⟨w0, c0⟩ := z
        have hw0 := Pn.step_bd hp.pn.rc hs
        have hc0 := Pn.step_cost hp.pn hvb.out.2 (hp.inf _ (List.getElem_mem hiI)) (show k < (plOf p).L.length from hx1) hs
        have hc1 : 0 ≤ c0 ∧ c0 ≤ 1100611139403776 := by unfold Pn.K at hc0; omega
        rw [hs] at hcs
        simp only [Option.map_map] at hcs
        simp only [hs, stV] at hstep
        have hcs2 : Pn.costK (plOf p) p.I.xs (rs.map (ixL p.L.xs)) p.St = (Pn.costK (plOf p) (p.I.xs.drop (i + 1)) ((rs.map (ixL p.L.xs)).drop (i + 1)) w0).map fun x => (sum + c0 + x.1, (vs ++ [w0]) ++ x.2) := by
          rw [hcs]
          congr 1
          funext x
          simp [Int.add_assoc]
        have HCS := Lib.hid hcs2
        have HW0 := Lib.hid hw0
        have hsb := hsm.out
        have hsb2 : 0 ≤ sum + c0 ∧ sum + c0 ≤ ((i + 1 : Nat) : Int) * 1100611139403776 := by
          have : ((i + 1 : Nat) : Int) * 1100611139403776 = i * 1100611139403776 + 1100611139403776 := by rw [Int.natCast_add, Int.add_mul]; simp
          omega
        have HSB := Lib.hid hsb2
        have x9 : IntKind.i64.wrap (sum + c0) = sum + c0 := IntWalk.i64_in _ (by omega)
        clear hcs hs hcs2 hw0 hc0 hsb hsb2
        go_wp2_with fail
        refine Calls.to hidx ?_
        rintro e w5 rfl hb5
        have hst5 := hstep w5 hb5
        go_wp2_with fail
        refine Calls.to hst5 ?_
        rintro e w6 rfl hb6
        have hb6' := hb.trans ((hb5.trans (hb6.mono hb5.size)).mono hb.size)
        have hown6 := (hown.below hb5).below hb6
        have h1c : ∀ u ∈ eInt w0, u.oneCell' = true := by simp [Value.oneCell']
        have hs6 : W.heap.size ≤ w6.heap.size := hb6'.size
        clear hstep hst5 hidx hown c4r
        go_wp2_with (at_builtin; go_must (refine wpList_pushR rfl _ _ 28 rfl 3 _ 1 8 undInts infInt rfl (by decide) w0 (fun _ => rfl) h1c _ vs rfl hown6 w6.heap.size rfl rfl hyl (by decide) hs6 _ rfl ?_); intro g7 k7 w7 hR7)
        have hb7 := hb6'.trans (hR7.below hown6 hs6)
        have hown7 := hR7.own
        clear hR7 hown6
        go_wp2_with fail
        go_roundw
        case measure => simp [RowKit.intOf, x7]; omega
        case rel => exact ⟨i + 1, sum + c0, w0, vs ++ [w0], by omega, by go_num, rfl, rfl, hb7, hown7, HCS, HW0, HSB, Lib.hid (by rw [List.length_append, hvl.out]; rfl)⟩
    · have i1 : decide (i < q) = false := decide_eq_false hin
      have hiq : i = q := by omega
      have hcs := hco.out
      rw [List.drop_eq_nil_of_le (by rw [← HN.out]; omega), List.drop_eq_nil_of_le (by rw [List.length_map, ← HQ.out]; omega)] at hcs
      simp only [Pn.costK, Option.map_some, Int.add_zero, List.append_nil] at hcs
      have HCS := Lib.hid hcs
      have hI := hown.isL (fun _ => rfl)
      clear hcs hown hiq
      go_wp2_with fail
      go_ret3
      exact ⟨⟨_, rfl, .ok sum _ vs HP.out (by rw [← HQ.out, ← HN.out]) HA.out HCS.out hI⟩, hbr⟩

end Go.Proofs.YtoiakijmbghhlaaGreat
