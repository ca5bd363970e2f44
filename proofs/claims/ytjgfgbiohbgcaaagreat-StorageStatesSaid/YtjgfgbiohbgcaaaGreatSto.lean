/- Capacity and Volume of a node, the program's side. Conditions: the node reads as data. -/
import Derived.Test.YtjgfgbiohbgcaaaGreatTfo
import Derived.Test.YtjgfgbiohbgcaaaGreatMLnk
import Derived.Test.YtjgfgbiohbgcaaaGreatMnz
import Derived.Test.YtjgfgbiohbgcaaaGreatNv
namespace Go.Proofs.YtjgfgbiohbgcaaaGreat
open Go.RowKit
set_option linter.unusedVariables false
set_option linter.unusedSimpArgs false

theorem ndB_kn {x : Nd} (h : ndB x = true) : x.Kind = 3 ∨ 1 ≤ x.Sh.xs.length := by
  by_cases k : x.Kind = 1 ∨ x.Kind = 2
  · right
    simp only [ndB, Bool.and_eq_true, kindNdB, if_pos k, shapeB] at h
    exact (tabB_len h.2.1.1.2.1.1.1).1
  · left
    simp only [ndB, Bool.and_eq_true, kindNdB, if_neg k] at h
    by_cases k3 : x.Kind = 3
    · exact k3
    · rw [if_neg k3] at h; simp at h
theorem ndB_lv {x : Nd} (h : ndB x = true) : (-4194304 ≤ x.Inv ∧ x.Inv ≤ 4194304) ∧ (-4194304 ≤ x.Gr ∧ x.Gr ≤ 4194304) := by
  simp only [ndB, Bool.and_eq_true, lvlB, decide_eq_true_eq] at h
  exact ⟨h.1.1.2, h.1.2⟩


theorem netB_one (x : Nd) (a b : Option Addr) (c d : Nat) : netB ⟨⟨a, c, [x]⟩, ⟨b, d, []⟩⟩ = ndB x := by
  have h1 : allFrom (okNd [x]) 0 1 = ndB x := by
    rw [allFrom_step _ (by omega), allFrom_end _ (by omega), Bool.and_true]
    simp [okNd, findNd, idxFrom, strB_self]
  have h2 : allFrom (okLk [x] []) 0 0 = true := allFrom_end _ (by omega)
  simp only [netB, List.length_singleton, List.length_nil, h1, h2]
  simp

set_option maxHeartbeats 2000000 in
theorem sright_any (x : Nd) (w : World) (hg : gNd w x) : Calls Tryz.prog 38 #[vNd x] w fun e w' => e = .returned (.bool (ndB x)) ∧ Below w.heap.size w w' := by
  have HB := Lib.hid (fun a c => netB_one x a none c 0)
  have hb0 : Below w.heap.size w ((w.alloc (.cells (eNd x).toArray 27)).alloc (.cells (eNd x).toArray 27)) := ((Below.refl _ _).alloc (Nat.le_refl _) _).alloc (by simp) _
  have hC : IsC eNd 9 ((w.alloc (.cells (eNd x).toArray 27)).alloc (.cells (eNd x).toArray 27)) (some ⟨w.heap.size + 1, 0, none⟩) [x] := by
    have := boxC eNd_len (w.alloc (.cells (eNd x).toArray 27)) 27 x _ rfl
    simpa using this
  have hG : gNet ((w.alloc (.cells (eNd x).toArray 27)).alloc (.cells (eNd x).toArray 27)) ⟨⟨some ⟨w.heap.size + 1, 0, none⟩, 1, [x]⟩, ⟨none, 0, []⟩⟩ :=
    ⟨⟨by simp, by simp, hC, by intro y hy; simp at hy; subst hy; exact rdNd.mono hg hb0⟩, ⟨by simp, by simp, fun i hi => absurd hi (Nat.not_lt_zero _), by simp⟩⟩
  go_enter Tryz.func38, Tryz.ntmps38
  go_wp2_with fail
  refine Calls.to (nvalid_any ⟨⟨some ⟨w.heap.size + 1, 0, none⟩, 1, [x]⟩, ⟨none, 0, []⟩⟩ _ hG) ?_
  rintro e w1 rfl hb1
  rw [HB.out]
  have hbb := hb0.trans (hb1.mono hb0.size)
  clear hb0 hb1 hC hG
  go_wp2_with fail
  go_ret
  exact ⟨rfl, hbb⟩

def capXB (x : Nd) : Int × Int := if ndB x then (capB x, 0) else (0, 1)
set_option maxHeartbeats 2000000 in
theorem scapX_any (x : Nd) (w : World) (hg : gNd w x) : Calls Tryz.prog 7 #[vNd x] w fun e w' => e = .returned (.tuple #[.int .i64 (capXB x).1, .int .i64 (capXB x).2]) ∧ Below w.heap.size w w' := by
  have hb0 : Below w.heap.size w (w.alloc (.cells (eNd x).toArray 27)) := (Below.refl _ _).alloc (Nat.le_refl _) _
  cases hx : ndB x
  · have HC : Hid (capXB x = (0, 1)) := by show _ = _; simp [capXB, hx]
    have HX := Lib.hid hx
    clear hx
    rw [HC.out]
    go_enter Tryz.func7, Tryz.ntmps7
    go_wp2_with fail
    refine Calls.to (sright_any x _ (rdNd.mono hg hb0)) ?_
    rintro e w1 rfl hb1
    rw [HX.out]
    have hbb := hb0.trans (hb1.mono hb0.size)
    clear hb0 hb1
    go_wp2_with fail
    go_ret2
    exact ⟨rfl, hbb⟩
  · have HC : Hid (capXB x = (capB x, 0)) := by show _ = _; simp [capXB, hx]
    have hk := ndB_kn hx
    have HX := Lib.hid hx
    clear hx
    rw [HC.out]
    go_enter Tryz.func7, Tryz.ntmps7
    go_wp2_with fail
    refine Calls.to (sright_any x _ (rdNd.mono hg hb0)) ?_
    rintro e w1 rfl hb1
    rw [HX.out]
    have hbb := hb0.trans (hb1.mono hb0.size)
    obtain ⟨d0, d1, d2, d3, d4, d5, d6, d7, d8⟩ := boxNd w w1 27 x _ rfl _ rfl (by simpa using hb1)
    have hg1 := rdNd.mono hg hbb
    clear hb0 hb1
    go_wp2_with fail
    refine Calls.to (scap_any x _ hg1 hk) ?_
    rintro e w2 rfl hb2
    have hbb2 := hbb.trans (hb2.mono hbb.size)
    clear hb2 hbb hg1
    go_wp2_with fail
    go_ret2
    exact ⟨rfl, hbb2⟩


/-- A block that holds a node. -/
structure NdBx (w : World) (B : Nat) (x : Nd) : Prop where
  c0 : w.cell? ⟨B, 0, none⟩ = some (.string x.Name)
  c1 : w.cell? ⟨B, 1, none⟩ = some (.int .i64 x.Kind)
  c2 : w.cell? ⟨B, 2, none⟩ = some (.int .i64 x.AX)
  c3 : w.cell? ⟨B, 3, none⟩ = some (.int .i64 x.AY)
  c4 : w.cell? ⟨B, 4, none⟩ = some (.int .i64 x.Inv)
  c5 : w.cell? ⟨B, 5, none⟩ = some (.int .i64 x.Gr)
  c6 : w.cell? ⟨B, 6, none⟩ = some (vSl x.Sh)
  c7 : w.cell? ⟨B, 7, none⟩ = some (.bool x.Pro)
  c8 : w.cell? ⟨B, 8, none⟩ = some (.int .i64 x.Res)
theorem NdBx.mono {w w' : World} {B : Nat} {x : Nd} (h : NdBx w B x) (hb : Below w.heap.size w w') : NdBx w' B x :=
  ⟨box_lt h.c0 hb, box_lt h.c1 hb, box_lt h.c2 hb, box_lt h.c3 hb, box_lt h.c4 hb, box_lt h.c5 hb, box_lt h.c6 hb, box_lt h.c7 hb, box_lt h.c8 hb⟩
theorem NdBx.lt {w : World} {B : Nat} {x : Nd} (h : NdBx w B x) : B < w.heap.size := lt_of_isSome (a := ⟨B, 0, none⟩) (by rw [h.c0]; rfl)
theorem NdBx.new (w : World) (x : Nd) (T : TypeId) : NdBx (w.alloc (.cells (eNd x).toArray T)) w.heap.size x := by
  refine ⟨?_, ?_, ?_, ?_, ?_, ?_, ?_, ?_, ?_⟩ <;> simp [go_sem]

theorem ndB_shape {x : Nd} (h : ndB x = true) (hk : x.Kind ≠ 3) : x.Inv < x.Gr ∧ shapeB x.Sh.xs (x.Gr - x.Inv) = true := by
  simp only [ndB, Bool.and_eq_true, kindNdB] at h
  have h2 := h.2
  split at h2
  · simp only [Bool.and_eq_true, decide_eq_true_eq] at h2
    exact ⟨h2.1.1.1, h2.1.1.2⟩
  · cases h2
/-- A shape's values lie between 0 and its last one. -/
theorem shapeB_bd {xs : List Kn} {d : Int} (h : shapeB xs d = true) (x : Int) : tabB xs = true ∧ 0 ≤ tabV xs x ∧ tabV xs x ≤ (lastK xs).Y ∧ (lastK xs).Y ≤ 1125899906842624 := by
  simp only [shapeB, Bool.and_eq_true, decide_eq_true_eq] at h
  obtain ⟨⟨⟨ht, h0⟩, _⟩, hl⟩ := h
  have hn := tabB_len ht
  obtain ⟨b1, b2⟩ := tabV_bd ht x
  have e0 : (xs[0]'(by omega)).Y = 0 := by
    have := h0.2
    rwa [List.getD_eq_getElem?_getD, List.getElem?_eq_getElem (show 0 < xs.length by omega)] at this
  rw [lastK_eq hn.1] at hl ⊢
  exact ⟨ht, by omega, b2, hl⟩

/-- The volume of a right node at a level. -/
def volV (x : Nd) (n : Int) : Int := if x.Kind = 3 then 0 else tabV x.Sh.xs (n - x.Inv)
def volXM (x : Nd) (n : Int) : Int × Int := if ndB x = false then (0, 1) else if btwB n x.Inv x.Gr = false then (0, 2) else (volV x n, 0)

set_option maxRecDepth 100000 in
set_option maxHeartbeats 1000000 in
theorem sreach_any (x : Nd) (n : Int) (w : World) : Calls Tryz.prog 42 #[vNd x, .int .i64 n] w fun e w' => e = .returned (.bool (btwB n x.Inv x.Gr)) ∧ Below w.heap.size w w' := by
  have hw := fun W => swithin_any n x.Inv x.Gr W
  have hb0 := alloc_below w (.cells (eNd x).toArray 27)
  generalize hB : btwB n x.Inv x.Gr = b at *
  clear hB
  obtain ⟨nm, kd, ax, ay, iv, gr, sh, pr, rs⟩ := x
  go_enter Tryz.func42, Tryz.ntmps42
  go_wp2_with fail
  refine (hw _).mono ?_
  rintro _ _ ⟨rfl, rfl⟩
  go_wp2_with fail
  go_ret
  exact ⟨rfl, hb0⟩

set_option maxRecDepth 100000 in
set_option maxHeartbeats 1000000 in
theorem svol0_any (x : Nd) (n : Int) (w : World) (hg : gNd w x) (h : ndB x = true) (hn : btwB n x.Inv x.Gr = true) : Calls Tryz.prog 43 #[vNd x, .int .i64 n] w fun e w' => e = .returned (.tuple #[.int .i64 (volV x n), .int .i64 0]) ∧ Below w.heap.size w w' := by
  have hb0 := alloc_below w (.cells (eNd x).toArray 27)
  by_cases hk : x.Kind = 3
  · have HV : Hid (volV x n = 0) := by show _ = _; simp [volV, hk]
    rw [HV.out]
    have u : (x.Kind == 3) = true := beqT hk
    clear hg h hn
    obtain ⟨nm, kd, ax, ay, iv, gr, sh, pr, rs⟩ := x
    simp only at hk
    subst hk
    go_enter Tryz.func43, Tryz.ntmps43
    go_wp2_with fail
    go_ret2
    exact ⟨rfl, hb0⟩
  · have HV : Hid (volV x n = tabV x.Sh.xs (n - x.Inv)) := by show _ = _; simp [volV, hk]
    rw [HV.out]
    have u : (x.Kind == 3) = false := beqF hk
    obtain ⟨hlt, hs⟩ := ndB_shape h hk
    have hb := ndB_lv h
    simp only [btwB, Bool.and_eq_true, decide_eq_true_eq] at hn
    have x1 : IntKind.i64.wrap (n - x.Inv) = n - x.Inv := IntWalk.i64_in _ (by omega)
    have hf := tfloor_any x.Sh.xs (n - x.Inv) (vSl x.Sh) _ ((rdNd.mono hg hb0).sh.isL) (shapeB_bd hs 0).1
    clear hg h hn hlt hs hb hk
    obtain ⟨nm, kd, ax, ay, iv, gr, ⟨ca, cc, cxs⟩, pr, rs⟩ := x
    simp only at hf x1 ⊢
    generalize tabV cxs (n - iv) = R at *
    go_enter Tryz.func43, Tryz.ntmps43
    go_wp2_with fail
    refine Calls.go hb0 hf ?_
    rintro e w1 rfl _ hb1
    go_wp2_with fail
    go_ret2
    exact ⟨rfl, hb1⟩

set_option maxRecDepth 100000 in
set_option maxHeartbeats 1000000 in
theorem svol_any (x : Nd) (n : Int) (w : World) (hg : gNd w x) : Calls Tryz.prog 9 #[vNd x, .int .i64 n] w fun e w' => e = .returned (.tuple #[.int .i64 (volXM x n).1, .int .i64 (volXM x n).2]) ∧ Below w.heap.size w w' := by
  have hb0 := alloc_below w (.cells (eNd x).toArray 27)
  have HG := Lib.hid (rdNd.mono hg hb0)
  have HBX := Lib.hid (NdBx.new w x 27)
  have hr := sright_any x _ (rdNd.mono hg hb0)
  have hre := fun W => sreach_any x n W
  have hv := fun W (hW : gNd W x) h1 h2 => svol0_any x n W hW h1 h2
  obtain ⟨⟨R, E⟩, hres⟩ : ∃ r, volXM x n = r := ⟨_, rfl⟩
  have HRES := Lib.hid hres
  rw [hres]
  clear hg hres
  cases h1 : ndB x
  · have h2 := HRES.out.symm.trans (show volXM x n = (0, 1) from by simp only [volXM, h1, if_true])
    simp only [Prod.mk.injEq] at h2
    obtain ⟨rfl, rfl⟩ := h2
    rw [h1] at hr
    clear hv hre h1 HRES
    obtain ⟨nm, kd, ax, ay, iv, gr, sh, pr, rs⟩ := x
    obtain ⟨c0, c1, c2, c3, c4, c5, c6, c7, c8⟩ := HBX.out
    simp only at c0 c1 c2 c3 c4 c5 c6 c7 c8
    go_enter Tryz.func9, Tryz.ntmps9
    go_wp2_with fail
    refine Calls.go hb0 hr ?_
    rintro e w1 rfl _ hb1
    go_wp2_with fail
    go_ret2
    exact ⟨rfl, hb1⟩
  rw [h1] at hr
  cases h2 : btwB n x.Inv x.Gr
  · have h3 := HRES.out.symm.trans (show volXM x n = (0, 2) from by simp only [volXM, h1, h2]; rfl)
    simp only [Prod.mk.injEq] at h3
    obtain ⟨rfl, rfl⟩ := h3
    rw [h2] at hre
    clear hv h1 h2 HRES
    obtain ⟨nm, kd, ax, ay, iv, gr, sh, pr, rs⟩ := x
    obtain ⟨c0, c1, c2, c3, c4, c5, c6, c7, c8⟩ := HBX.out
    simp only at c0 c1 c2 c3 c4 c5 c6 c7 c8
    go_enter Tryz.func9, Tryz.ntmps9
    go_wp2_with fail
    refine Calls.go hb0 hr ?_
    rintro e w1 rfl hb1' hb1
    have HBX := Lib.hid (HBX.out.mono hb1')
    clear hb1' c0 c1 c2 c3 c4 c5 c6 c7 c8
    obtain ⟨c0, c1, c2, c3, c4, c5, c6, c7, c8⟩ := HBX.out
    simp only at c0 c1 c2 c3 c4 c5 c6 c7 c8
    go_wp2_with fail
    refine Calls.go hb1 (hre _) ?_
    rintro e w2 rfl _ hb2
    go_wp2_with fail
    go_ret2
    exact ⟨rfl, hb2⟩
  have h3 := HRES.out.symm.trans (show volXM x n = (volV x n, 0) from by simp only [volXM, h1, h2]; rfl)
  simp only [Prod.mk.injEq] at h3
  obtain ⟨rfl, rfl⟩ := h3
  rw [h2] at hre
  have hv := fun W hW => hv W hW h1 h2
  clear h1 h2 HRES
  generalize volV x n = R at *
  obtain ⟨nm, kd, ax, ay, iv, gr, sh, pr, rs⟩ := x
  obtain ⟨c0, c1, c2, c3, c4, c5, c6, c7, c8⟩ := HBX.out
  simp only at c0 c1 c2 c3 c4 c5 c6 c7 c8
  go_enter Tryz.func9, Tryz.ntmps9
  go_wp2_with fail
  refine Calls.go hb0 hr ?_
  rintro e w1 rfl hb1' hb1
  have HBX := Lib.hid (HBX.out.mono hb1')
  have HG := Lib.hid (rdNd.mono HG.out hb1')
  clear hb1' c0 c1 c2 c3 c4 c5 c6 c7 c8
  obtain ⟨c0, c1, c2, c3, c4, c5, c6, c7, c8⟩ := HBX.out
  simp only at c0 c1 c2 c3 c4 c5 c6 c7 c8
  go_wp2_with fail
  refine Calls.go hb1 (hre _) ?_
  rintro e w2 rfl hb2' hb2
  have HBX := Lib.hid (HBX.out.mono hb2')
  have HG := Lib.hid (rdNd.mono HG.out hb2')
  clear hb2' c0 c1 c2 c3 c4 c5 c6 c7 c8
  obtain ⟨c0, c1, c2, c3, c4, c5, c6, c7, c8⟩ := HBX.out
  simp only at c0 c1 c2 c3 c4 c5 c6 c7 c8
  go_wp2_with fail
  refine Calls.go hb2 (hv _ HG.out) ?_
  rintro e w3 rfl _ hb3
  go_wp2_with fail
  go_ret2
  exact ⟨rfl, hb3⟩

end Go.Proofs.YtjgfgbiohbgcaaaGreat
