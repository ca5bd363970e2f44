/- A box of four rows of the call's own, each of which may grow. No function of the program is named. Conditions: none. | The empty state of a network: the reference's Empty. Conditions: the argument reads as data; at most 300 nodes and 400 links. -/
import Derived.Test.YtjgfgbiohbgcaaaGreatOrw
import Derived.Test.YtjgfgbiohbgcaaaGreatMsem
namespace Go.Proofs.YtjgfgbiohbgcaaaGreat
open Go.RowKit
set_option linter.unusedVariables false
set_option linter.unusedSimpArgs false

def apartB (u v : Value) : Prop := ∀ g, u.ownBlock = some g → v.ownBlock ≠ some g
theorem apartB.symm {u v : Value} (h : apartB u v) : apartB v u := fun g h1 h2 => h g h2 h1
/-- The box lies below n0, its rows from n0 on, no two in one block. -/
structure Row4 (n0 B : Nat) (W : World) (uV uP uS uO : Value) (vs ps ss : List Int) (os : List Bool) : Prop where
  V : Own n0 3 eInt 1 W uV vs
  P : Own n0 3 eInt 1 W uP ps
  S : Own n0 3 eInt 1 W uS ss
  O : Own n0 4 eBool 1 W uO os
  VP : apartB uV uP
  VS : apartB uV uS
  VO : apartB uV uO
  PS : apartB uP uS
  PO : apartB uP uO
  SO : apartB uS uO
  c0 : W.cell? ⟨B, 0, none⟩ = some uV
  c1 : W.cell? ⟨B, 1, none⟩ = some uP
  c2 : W.cell? ⟨B, 2, none⟩ = some uS
  c3 : W.cell? ⟨B, 3, none⟩ = some uO
  free : ∀ j, W.frozen? ⟨B, j, none⟩ = false
  lo : B < n0
theorem nil_apart (v : Value) : apartB (.slice none 0 0) v := fun g h => by simp [Value.ownBlock] at h
theorem Row4.new {n0 B : Nat} {W : World} (h : OutBx W B nilSt) (hB : B < n0) : Row4 n0 B W (.slice none 0 0) (.slice none 0 0) (.slice none 0 0) (.slice none 0 0) [] [] [] [] :=
  ⟨World.ownsRow_nil _ _ _ _, World.ownsRow_nil _ _ _ _, World.ownsRow_nil _ _ _ _, World.ownsRow_nil _ _ _ _, nil_apart _, nil_apart _, nil_apart _, nil_apart _, nil_apart _, nil_apart _, h.cells.c0, h.cells.c1, h.cells.c2, h.cells.c3, h.free, hB⟩
section
variable {n0 B : Nat} {W W' : World} {uV uP uS uO u : Value} {vs ps ss xs : List Int} {os bs : List Bool}
theorem own_box {α : Type} {e : TypeId} {enc : α → List Value} {k : Nat} {v x : Value} {ys : List α} (h : Own n0 e enc k W v ys) (hB : B < n0) (j : Nat) : Own n0 e enc k (W.setCell ⟨B, j, none⟩ x) v ys :=
  h.set' _ _ (fun e => by have := (h.lt _ e).1; simp at this; omega)
theorem low_cell (hb : Below n0 W W') (hB : B < n0) {j : Nat} {v : Value} (h : W.cell? ⟨B, j, none⟩ = some v) : W'.cell? ⟨B, j, none⟩ = some v := (hb.cell (p := ⟨B, j, none⟩) hB).trans h
theorem Row4.putV (h : Row4 n0 B W uV uP uS uO vs ps ss os) (hn : n0 ≤ W.heap.size) (hR : RowStep n0 3 eInt 1 W W' uV u xs) : Row4 n0 B (W'.setCell ⟨B, 0, none⟩ u) u uP uS uO xs ps ss os := by
  have hb := hR.below h.V hn
  have d0 := low_cell hb h.lo h.c0
  have d1 := low_cell hb h.lo h.c1
  have d2 := low_cell hb h.lo h.c2
  have d3 := low_cell hb h.lo h.c3
  exact ⟨own_box hR.own h.lo 0, own_box (hR.other h.P h.VP.symm) h.lo 0, own_box (hR.other h.S h.VS.symm) h.lo 0, own_box (hR.other h.O h.VO.symm) h.lo 0,
    apartB.symm (hR.apart h.P h.VP.symm), apartB.symm (hR.apart h.S h.VS.symm), apartB.symm (hR.apart h.O h.VO.symm), h.PS, h.PO, h.SO, by simp [go_sem, d0], by simp [go_sem, d1], by simp [go_sem, d2], by simp [go_sem, d3],
    fun j => by rw [World.frozen?_setCell, hb.frozen (p := ⟨B, j, none⟩) h.lo]; exact h.free j, h.lo⟩
theorem Row4.putP (h : Row4 n0 B W uV uP uS uO vs ps ss os) (hn : n0 ≤ W.heap.size) (hR : RowStep n0 3 eInt 1 W W' uP u xs) : Row4 n0 B (W'.setCell ⟨B, 1, none⟩ u) uV u uS uO vs xs ss os := by
  have hb := hR.below h.P hn
  have d0 := low_cell hb h.lo h.c0
  have d1 := low_cell hb h.lo h.c1
  have d2 := low_cell hb h.lo h.c2
  have d3 := low_cell hb h.lo h.c3
  exact ⟨own_box (hR.other h.V h.VP) h.lo 1, own_box hR.own h.lo 1, own_box (hR.other h.S h.PS.symm) h.lo 1, own_box (hR.other h.O h.PO.symm) h.lo 1,
    hR.apart h.V h.VP, h.VS, h.VO, apartB.symm (hR.apart h.S h.PS.symm), apartB.symm (hR.apart h.O h.PO.symm), h.SO, by simp [go_sem, d0], by simp [go_sem, d1], by simp [go_sem, d2], by simp [go_sem, d3],
    fun j => by rw [World.frozen?_setCell, hb.frozen (p := ⟨B, j, none⟩) h.lo]; exact h.free j, h.lo⟩
theorem Row4.putS (h : Row4 n0 B W uV uP uS uO vs ps ss os) (hn : n0 ≤ W.heap.size) (hR : RowStep n0 3 eInt 1 W W' uS u xs) : Row4 n0 B (W'.setCell ⟨B, 2, none⟩ u) uV uP u uO vs ps xs os := by
  have hb := hR.below h.S hn
  have d0 := low_cell hb h.lo h.c0
  have d1 := low_cell hb h.lo h.c1
  have d2 := low_cell hb h.lo h.c2
  have d3 := low_cell hb h.lo h.c3
  exact ⟨own_box (hR.other h.V h.VS) h.lo 2, own_box (hR.other h.P h.PS) h.lo 2, own_box hR.own h.lo 2, own_box (hR.other h.O h.SO.symm) h.lo 2,
    h.VP, hR.apart h.V h.VS, h.VO, hR.apart h.P h.PS, h.PO, apartB.symm (hR.apart h.O h.SO.symm), by simp [go_sem, d0], by simp [go_sem, d1], by simp [go_sem, d2], by simp [go_sem, d3],
    fun j => by rw [World.frozen?_setCell, hb.frozen (p := ⟨B, j, none⟩) h.lo]; exact h.free j, h.lo⟩
theorem Row4.putO (h : Row4 n0 B W uV uP uS uO vs ps ss os) (hn : n0 ≤ W.heap.size) (hR : RowStep n0 4 eBool 1 W W' uO u bs) : Row4 n0 B (W'.setCell ⟨B, 3, none⟩ u) uV uP uS u vs ps ss bs := by
  have hb := hR.below h.O hn
  have d0 := low_cell hb h.lo h.c0
  have d1 := low_cell hb h.lo h.c1
  have d2 := low_cell hb h.lo h.c2
  have d3 := low_cell hb h.lo h.c3
  exact ⟨own_box (hR.other h.V h.VO) h.lo 3, own_box (hR.other h.P h.PO) h.lo 3, own_box (hR.other h.S h.SO) h.lo 3, own_box hR.own h.lo 3,
    h.VP, h.VS, hR.apart h.V h.VO, h.PS, hR.apart h.P h.PO, hR.apart h.S h.SO, by simp [go_sem, d0], by simp [go_sem, d1], by simp [go_sem, d2], by simp [go_sem, d3],
    fun j => by rw [World.frozen?_setCell, hb.frozen (p := ⟨B, j, none⟩) h.lo]; exact h.free j, h.lo⟩
end

end Go.Proofs.YtjgfgbiohbgcaaaGreat

namespace Go.Proofs.YtjgfgbiohbgcaaaGreat
open Go.RowKit
set_option linter.unusedVariables false
set_option linter.unusedSimpArgs false

set_option maxRecDepth 100000 in
set_option maxHeartbeats 16000000 in
theorem r29empty_any (n : Net) (w : World) (hln : n.Ns.xs.length ≤ 300) (hll : n.Ls.xs.length ≤ 400) : Calls Tryz.prog 32 #[vNet n] w fun e w' =>
    (∃ s', e = .returned (vSt s') ∧ gSt w' s' ∧ stL s' = emptyL n) ∧ Below w.heap.size w w' := by
  obtain ⟨⟨na, nc, nxs⟩, ⟨la, lc, lxs⟩⟩ := n
  simp only at hln hll
  simp only [emptyL, vNet, vSl, vSt]
  have HLN := Lib.hid hln
  have HLL := Lib.hid hll
  have hb0 : Below w.heap.size w (((w.alloc (.cells #[.slice na nxs.length nc, .slice la lxs.length lc] 42)).alloc (.cells #[.slice none 0 0, .slice none 0 0, .slice none 0 0, .slice none 0 0] 54)).alloc (.cells #[.slice none 0 0, .slice none 0 0, .slice none 0 0, .slice none 0 0] 54)) := (((Below.refl _ _).alloc (Nat.le_refl _) _).alloc (by simp) _).alloc (by simp; omega) _
  have hA1 := alloc_below ((w.alloc (.cells #[.slice na nxs.length nc, .slice la lxs.length lc] 42)).alloc (.cells #[.slice none 0 0, .slice none 0 0, .slice none 0 0, .slice none 0 0] 54)) (.cells #[.slice none 0 0, .slice none 0 0, .slice none 0 0, .slice none 0 0] 54)
  have HO : Hid (OutBx (((w.alloc (.cells #[.slice na nxs.length nc, .slice la lxs.length lc] 42)).alloc (.cells #[.slice none 0 0, .slice none 0 0, .slice none 0 0, .slice none 0 0] 54)).alloc (.cells #[.slice none 0 0, .slice none 0 0, .slice none 0 0, .slice none 0 0] 54)) (w.heap.size + 1) nilSt) := by
    have h := OutBx.new (w.alloc (.cells #[.slice na nxs.length nc, .slice la lxs.length lc] 42)) nilSt 54
    rw [show (w.alloc (.cells #[.slice na nxs.length nc, .slice la lxs.length lc] 42)).heap.size = w.heap.size + 1 from by simp] at h
    exact Lib.hid (h.mono hA1)
  have HR : Hid (Row4 (w.heap.size + 1 + 1 + 1) (w.heap.size + 1 + 1) (((w.alloc (.cells #[.slice na nxs.length nc, .slice la lxs.length lc] 42)).alloc (.cells #[.slice none 0 0, .slice none 0 0, .slice none 0 0, .slice none 0 0] 54)).alloc (.cells #[.slice none 0 0, .slice none 0 0, .slice none 0 0, .slice none 0 0] 54)) (.slice none 0 0) (.slice none 0 0) (.slice none 0 0) (.slice none 0 0) [] [] [] []) := by
    have h := OutBx.new ((w.alloc (.cells #[.slice na nxs.length nc, .slice la lxs.length lc] 42)).alloc (.cells #[.slice none 0 0, .slice none 0 0, .slice none 0 0, .slice none 0 0] 54)) nilSt 54
    rw [show ((w.alloc (.cells #[.slice na nxs.length nc, .slice la lxs.length lc] 42)).alloc (.cells #[.slice none 0 0, .slice none 0 0, .slice none 0 0, .slice none 0 0] 54)).heap.size = w.heap.size + 1 + 1 from by simp] at h
    exact Lib.hid (Row4.new h (by omega))
  have HE := Lib.hid (boxNet w · 42 ⟨⟨na, nc, nxs⟩, ⟨la, lc, lxs⟩⟩ _ rfl _ rfl)
  have hN : ∀ W, Below (w.heap.size + 1 + 1) (((w.alloc (.cells #[.slice na nxs.length nc, .slice la lxs.length lc] 42)).alloc (.cells #[.slice none 0 0, .slice none 0 0, .slice none 0 0, .slice none 0 0] 54)).alloc (.cells #[.slice none 0 0, .slice none 0 0, .slice none 0 0, .slice none 0 0] 54)) W → W.cell? ⟨w.heap.size, 0, none⟩ = some (.slice na nxs.length nc) ∧ W.cell? ⟨w.heap.size, 1, none⟩ = some (.slice la lxs.length lc) := by
    intro W hW
    have := HE.out W ((((Below.refl _ _).alloc (by simp) _).alloc (by simp) _).trans (hW.mono (by omega)))
    simpa only [vSl] using this
  clear HE hA1
  have HNN := Lib.hid hN
  clear hN
  have hz0 : (((w.alloc (.cells #[.slice na nxs.length nc, .slice la lxs.length lc] 42)).alloc (.cells #[.slice none 0 0, .slice none 0 0, .slice none 0 0, .slice none 0 0] 54)).alloc (.cells #[.slice none 0 0, .slice none 0 0, .slice none 0 0, .slice none 0 0] 54)).heap.size = w.heap.size + 1 + 1 + 1 := by simp
  go_enter Tryz.func32, Tryz.ntmps32
  go_wp2_with fail
  obtain ⟨n0, hn0⟩ : ∃ n0, n0 = w.heap.size + 1 + 1 + 1 := ⟨_, rfl⟩
  rw [← hn0] at HR hz0
  generalize (((w.alloc (.cells #[.slice na nxs.length nc, .slice la lxs.length lc] 42)).alloc (.cells #[.slice none 0 0, .slice none 0 0, .slice none 0 0, .slice none 0 0] 54)).alloc (.cells #[.slice none 0 0, .slice none 0 0, .slice none 0 0, .slice none 0 0] 54)) = wb at *
  go_loopw [4] (fun s4 wr => ∃ (k : Nat) (aV aP : Option Addr) (cV cP : Nat), k ≤ nxs.length ∧ s4 = .int .i64 k ∧ Below w.heap.size w wr ∧ Below (w.heap.size + 1 + 1) wb wr ∧ n0 ≤ wr.heap.size ∧ Hid (Row4 n0 (w.heap.size + 1 + 1) wr (.slice aV k cV) (.slice aP k cP) (.slice none 0 0) (.slice none 0 0) (List.replicate k 0) (List.replicate k 0) [] [])) (fun i _ => nxs.length - (intOf i).toNat)
  case atStart => exact ⟨0, none, none, 0, 0, Nat.zero_le _, rfl, hb0, Below.refl _ _, by omega, HR⟩
  clear HR hb0
  case round =>
    obtain ⟨k, aV, aP, cV, cP, hk, rfl, hb, hbn, hsz, HR⟩ := hrel
    obtain ⟨e0, e1⟩ := HNN.out wr hbn
    by_cases hlt : k < nxs.length
    · have x9 : IntKind.i64.wrap ((k : Int) + 1) = k + 1 := IntWalk.i64_in _ (by have := HLN.out; omega)
      have i2 : (k : Int) < nxs.length := by omega
      have d0 := HR.out.c0
      have f0 := HR.out.free 0
      have hV := HR.out.V
      have hlk : (List.replicate k (0 : Int)).length < 2147483648 := by rw [List.length_replicate]; have := HLN.out; omega
      have hlo := HR.out.lo
      go_upto_region 6 with (at_builtin; go_must (refine wpList_pushR rfl _ _ 43 rfl 3 _ 1 8 undInts infInt rfl (by decide) (0 : Int) (fun _ => rfl) (by simp [Value.oneCell']) _ (List.replicate k (0 : Int)) rfl hV _ rfl rfl hlk (by decide) hsz _ rfl ?_); intro g1 c1 w1 hr1; have hb1 := hr1.below hV hsz; have d0 := low_cell hb1 hlo d0; have f0 := (hb1.frozen (p := ⟨w.heap.size + 1 + 1, 0, none⟩) hlo).trans f0)
      rw [List.length_replicate, ← List.replicate_succ'] at hr1
      have HR1 := Lib.hid (HR.out.putV hsz hr1)
      have hb2 := (hb.trans (hb1.mono (by omega))).setCell (p := ⟨w.heap.size + 1 + 1, 0, none⟩) (show w.heap.size ≤ w.heap.size + 1 + 1 by omega) (.slice (some ⟨g1, 0, none⟩) (k + 1) c1)
      have hbn2 := (hbn.trans (hb1.mono (by omega))).setCell (p := ⟨w.heap.size + 1 + 1, 0, none⟩) (Nat.le_refl (w.heap.size + 1 + 1)) (.slice (some ⟨g1, 0, none⟩) (k + 1) c1)
      have hsz2 : n0 ≤ (w1.setCell ⟨w.heap.size + 1 + 1, 0, none⟩ (.slice (some ⟨g1, 0, none⟩) (k + 1) c1)).heap.size := by have := hb1.size; simp [World.setCell]; omega
      clear d0 f0 hV hr1 hb1 e0 e1 hb hbn hsz HR
      generalize w1.setCell ⟨w.heap.size + 1 + 1, 0, none⟩ (.slice (some ⟨g1, 0, none⟩) (k + 1) c1) = w2 at *
      have d1 := HR1.out.c1
      have f1 := HR1.out.free 1
      have hP := HR1.out.P
      go_wp2_with (at_builtin; go_must (refine wpList_pushR rfl _ _ 43 rfl 3 _ 1 8 undInts infInt rfl (by decide) (0 : Int) (fun _ => rfl) (by simp [Value.oneCell']) _ (List.replicate k (0 : Int)) rfl hP _ rfl rfl hlk (by decide) hsz2 _ rfl ?_); intro g3 c3 w3 hr3; have hb3 := hr3.below hP hsz2; have d1 := low_cell hb3 hlo d1; have f1 := (hb3.frozen (p := ⟨w.heap.size + 1 + 1, 1, none⟩) hlo).trans f1)
      rw [List.length_replicate, ← List.replicate_succ'] at hr3
      have HR3 := Lib.hid (HR1.out.putP hsz2 hr3)
      have hb4 := (hb2.trans (hb3.mono (by omega))).setCell (p := ⟨w.heap.size + 1 + 1, 1, none⟩) (show w.heap.size ≤ w.heap.size + 1 + 1 by omega) (.slice (some ⟨g3, 0, none⟩) (k + 1) c3)
      have hbn4 := (hbn2.trans (hb3.mono (by omega))).setCell (p := ⟨w.heap.size + 1 + 1, 1, none⟩) (Nat.le_refl (w.heap.size + 1 + 1)) (.slice (some ⟨g3, 0, none⟩) (k + 1) c3)
      have hsz4 : n0 ≤ (w3.setCell ⟨w.heap.size + 1 + 1, 1, none⟩ (.slice (some ⟨g3, 0, none⟩) (k + 1) c3)).heap.size := by have := hb3.size; simp [World.setCell]; omega
      go_roundw
      case measure => simp [intOf]; omega
      case rel => exact ⟨k + 1, _, _, _, _, by omega, by go_num, hb4, hbn4, hsz4, HR3⟩
    · have ek : k = nxs.length := by omega
      subst ek
      clear hlt
      go_wp2_with fail
      go_loopw [5] (fun s5 wr => ∃ (j : Nat) (aS aO : Option Addr) (cS cO : Nat), j ≤ lxs.length ∧ s5 = .int .i64 j ∧ Below w.heap.size w wr ∧ Below (w.heap.size + 1 + 1) wb wr ∧ n0 ≤ wr.heap.size ∧ Hid (Row4 n0 (w.heap.size + 1 + 1) wr (.slice aV nxs.length cV) (.slice aP nxs.length cP) (.slice aS j cS) (.slice aO j cO) (List.replicate nxs.length 0) (List.replicate nxs.length 0) (List.replicate j 1000) (List.replicate j false))) (fun i _ => lxs.length - (intOf i).toNat)
      case atStart => exact ⟨0, none, none, 0, 0, Nat.zero_le _, rfl, hb, hbn, hsz, HR⟩
      clear HR hb hbn hsz e0 e1
      case round =>
        obtain ⟨j, aS, aO, cS, cO, hj, rfl, hb, hbn, hsz, HR⟩ := hrel
        obtain ⟨e0, e1⟩ := HNN.out wr hbn
        have hlo := HR.out.lo
        by_cases hlt : j < lxs.length
        · have x9 : IntKind.i64.wrap ((j : Int) + 1) = j + 1 := IntWalk.i64_in _ (by have := HLL.out; omega)
          have i2 : (j : Int) < lxs.length := by omega
          have d0 := HR.out.c2
          have f0 := HR.out.free 2
          have hV := HR.out.S
          have hlk : (List.replicate j (1000 : Int)).length < 2147483648 := by rw [List.length_replicate]; have := HLL.out; omega
          have hlk2 : (List.replicate j false).length < 2147483648 := by rw [List.length_replicate]; have := HLL.out; omega
          go_upto_region 11 with (at_builtin; go_must (refine wpList_pushR rfl _ _ 43 rfl 3 _ 1 8 undInts infInt rfl (by decide) (1000 : Int) (fun _ => rfl) (by simp [Value.oneCell']) _ (List.replicate j (1000 : Int)) rfl hV _ rfl rfl hlk (by decide) hsz _ rfl ?_); intro g1 c1 w1 hr1; have hb1 := hr1.below hV hsz; have d0 := low_cell hb1 hlo d0; have f0 := (hb1.frozen (p := ⟨w.heap.size + 1 + 1, 2, none⟩) hlo).trans f0)
          rw [List.length_replicate, ← List.replicate_succ'] at hr1
          have HR1 := Lib.hid (HR.out.putS hsz hr1)
          have hb2 := (hb.trans (hb1.mono (by omega))).setCell (p := ⟨w.heap.size + 1 + 1, 2, none⟩) (show w.heap.size ≤ w.heap.size + 1 + 1 by omega) (.slice (some ⟨g1, 0, none⟩) (j + 1) c1)
          have hbn2 := (hbn.trans (hb1.mono (by omega))).setCell (p := ⟨w.heap.size + 1 + 1, 2, none⟩) (Nat.le_refl (w.heap.size + 1 + 1)) (.slice (some ⟨g1, 0, none⟩) (j + 1) c1)
          have hsz2 : n0 ≤ (w1.setCell ⟨w.heap.size + 1 + 1, 2, none⟩ (.slice (some ⟨g1, 0, none⟩) (j + 1) c1)).heap.size := by have := hb1.size; simp [World.setCell]; omega
          clear d0 f0 hV hr1 hb1 e0 e1 hb hbn hsz HR
          generalize w1.setCell ⟨w.heap.size + 1 + 1, 2, none⟩ (.slice (some ⟨g1, 0, none⟩) (j + 1) c1) = w2 at *
          have d1 := HR1.out.c3
          have f1 := HR1.out.free 3
          have hP := HR1.out.O
          go_wp2_with (at_builtin; go_must (refine wpList_pushR rfl _ _ 52 rfl 4 _ 1 1 undBools infBool rfl (by decide) false (fun _ => rfl) (by simp [Value.oneCell']) _ (List.replicate j false) rfl hP _ rfl rfl hlk2 (by decide) hsz2 _ rfl ?_); intro g3 c3 w3 hr3; have hb3 := hr3.below hP hsz2; have d1 := low_cell hb3 hlo d1; have f1 := (hb3.frozen (p := ⟨w.heap.size + 1 + 1, 3, none⟩) hlo).trans f1)
          rw [List.length_replicate, ← List.replicate_succ'] at hr3
          have HR3 := Lib.hid (HR1.out.putO hsz2 hr3)
          have hb4 := (hb2.trans (hb3.mono (by omega))).setCell (p := ⟨w.heap.size + 1 + 1, 3, none⟩) (show w.heap.size ≤ w.heap.size + 1 + 1 by omega) (.slice (some ⟨g3, 0, none⟩) (j + 1) c3)
          have hbn4 := (hbn2.trans (hb3.mono (by omega))).setCell (p := ⟨w.heap.size + 1 + 1, 3, none⟩) (Nat.le_refl (w.heap.size + 1 + 1)) (.slice (some ⟨g3, 0, none⟩) (j + 1) c3)
          have hsz4 : n0 ≤ (w3.setCell ⟨w.heap.size + 1 + 1, 3, none⟩ (.slice (some ⟨g3, 0, none⟩) (j + 1) c3)).heap.size := by have := hb3.size; simp [World.setCell]; omega
          go_roundw
          case measure => simp [intOf]; omega
          case rel => exact ⟨j + 1, _, _, _, _, by omega, by go_num, hb4, hbn4, hsz4, HR3⟩
        · have ej : j = lxs.length := by omega
          subst ej
          have r0 := HR.out.c0
          have r1 := HR.out.c1
          have r2 := HR.out.c2
          have r3 := HR.out.c3
          obtain ⟨⟨o0, o1, o2, o3⟩, of⟩ := outbx_low HO.out (show w.heap.size + 1 < w.heap.size + 1 + 1 by omega) hbn
          have of0 := of 0
          have of1 := of 1
          have of2 := of 2
          have of3 := of 3
          clear of
          simp only [vSl, nilSt] at o0 o1 o2 o3
          have hR := HR.out
          go_wp2_with fail
          refine bodyPost_ret (v := .agg #[.slice aV nxs.length cV, .slice aP nxs.length cP, .slice aS lxs.length cS, .slice aO lxs.length cO]) (by simp (maxDischargeDepth := 9) [results, Tryz.results32, go_sem, o0, o1, o2, o3]) rfl ⟨?_, ?_⟩
          · obtain ⟨s, h1, h2, h3⟩ := gSt_of (own_set4 (n := w.heap.size + 1) hR.V (by omega) (.slice aV nxs.length cV) (.slice aP nxs.length cP) (.slice aS lxs.length cS) (.slice aO lxs.length cO)) (own_set4 hR.P (by omega) _ _ _ _) (own_set4 hR.S (by omega) _ _ _ _) (own_set4 hR.O (by omega) _ _ _ _)
              (fun x hx => by rw [(List.mem_replicate.1 hx).2]; exact gI64_of (by omega) (by omega)) (fun x hx => by rw [(List.mem_replicate.1 hx).2]; exact gI64_of (by omega) (by omega)) (fun x hx => by rw [(List.mem_replicate.1 hx).2]; exact gI64_of (by omega) (by omega))
            exact ⟨s, by rw [← h1], h2, h3⟩
          · exact set4_bel hb (by omega) _ _ _ _

end Go.Proofs.YtjgfgbiohbgcaaaGreat
