/- Capacity of a node and Edges of a network, the program's side. Conditions: the network reads as data. -/

import Derived.Test.YtlcfnbnpkcjjlaaGreatNv
import Derived.Test.YtlcfnbnpkcjjlaaGreatNz
namespace Go.Proofs.YtlcfnbnpkcjjlaaGreat
open Go.RowKit
set_option linter.unusedVariables false
set_option linter.unusedSimpArgs false

theorem netB_one (x : Nd) (a b : Option Addr) (c d : Nat) : netB ⟨⟨a, c, [x]⟩, ⟨b, d, []⟩⟩ = ndB x := by
  have h1 : allFrom (okNd [x]) 0 1 = ndB x := by
    rw [allFrom_step _ (by omega), allFrom_end _ (by omega), Bool.and_true]
    simp [okNd, findNd, idxFrom, strB_self]
  have h2 : allFrom (okLk [x] []) 0 0 = true := allFrom_end _ (by omega)
  simp only [netB, List.length_singleton, List.length_nil, h1, h2]
  simp

set_option maxHeartbeats 2000000 in
theorem sright_any (x : Nd) (w : World) (hg : gNd w x) : Calls Tryz.prog 56 #[vNd x] w fun e w' => e = .returned (.bool (ndB x)) ∧ Below w.heap.size w w' := by
  have HB := Lib.hid (fun a c => netB_one x a none c 0)
  have hb0 : Below w.heap.size w ((w.alloc (.cells (eNd x).toArray 45)).alloc (.cells (eNd x).toArray 45)) := ((Below.refl _ _).alloc (Nat.le_refl _) _).alloc (by simp) _
  have hC : IsC eNd 9 ((w.alloc (.cells (eNd x).toArray 45)).alloc (.cells (eNd x).toArray 45)) (some ⟨w.heap.size + 1, 0, none⟩) [x] := by
    have := boxC eNd_len (w.alloc (.cells (eNd x).toArray 45)) 45 x _ rfl
    simpa using this
  have hG : gNet ((w.alloc (.cells (eNd x).toArray 45)).alloc (.cells (eNd x).toArray 45)) ⟨⟨some ⟨w.heap.size + 1, 0, none⟩, 1, [x]⟩, ⟨none, 0, []⟩⟩ :=
    ⟨⟨by simp, by simp, hC, by intro y hy; simp at hy; subst hy; exact rdNd.mono hg hb0⟩, ⟨by simp, by simp, fun i hi => absurd hi (Nat.not_lt_zero _), by simp⟩⟩
  go_enter Tryz.func56, Tryz.ntmps56
  go_wp2_with fail
  refine Calls.to (nvalid_any ⟨⟨some ⟨w.heap.size + 1, 0, none⟩, 1, [x]⟩, ⟨none, 0, []⟩⟩ _ hG) ?_
  rintro e w1 rfl hb1
  rw [HB.out]
  have hbb := hb0.trans (hb1.mono hb0.size)
  clear hb0 hb1 hC hG
  go_wp2_with fail
  go_ret
  exact ⟨rfl, hbb⟩

def capXB (x : Nd) : Int × Int := if ndB x then (capB x, 0) else (0, 1)
set_option maxHeartbeats 2000000 in
theorem scapX_any (x : Nd) (w : World) (hg : gNd w x) : Calls Tryz.prog 27 #[vNd x] w fun e w' => e = .returned (.tuple #[.int .i64 (capXB x).1, .int .i64 (capXB x).2]) ∧ Below w.heap.size w w' := by
  have hb0 : Below w.heap.size w (w.alloc (.cells (eNd x).toArray 45)) := (Below.refl _ _).alloc (Nat.le_refl _) _
  cases hx : ndB x
  · have HC : Hid (capXB x = (0, 1)) := by show _ = _; simp [capXB, hx]
    have HX := Lib.hid hx
    clear hx
    rw [HC.out]
    go_enter Tryz.func27, Tryz.ntmps27
    go_wp2_with fail
    refine Calls.to (sright_any x _ (rdNd.mono hg hb0)) ?_
    rintro e w1 rfl hb1
    rw [HX.out]
    have hbb := hb0.trans (hb1.mono hb0.size)
    clear hb0 hb1
    go_wp2_with fail
    go_ret2
    exact ⟨rfl, hbb⟩
  · have HC : Hid (capXB x = (capB x, 0)) := by show _ = _; simp [capXB, hx]
    have hk := ndB_knot hx
    have HX := Lib.hid hx
    clear hx
    rw [HC.out]
    go_enter Tryz.func27, Tryz.ntmps27
    go_wp2_with fail
    refine Calls.to (sright_any x _ (rdNd.mono hg hb0)) ?_
    rintro e w1 rfl hb1
    rw [HX.out]
    have hbb := hb0.trans (hb1.mono hb0.size)
    obtain ⟨d0, d1, d2, d3, d4, d5, d6, d7, d8⟩ := boxNd w w1 45 x _ rfl _ rfl (by simpa using hb1)
    have hg1 := rdNd.mono hg hbb
    clear hb0 hb1
    go_wp2_with fail
    refine Calls.to (scap_any x _ hg1 hk) ?_
    rintro e w2 rfl hb2
    have hbb2 := hbb.trans (hb2.mono hbb.size)
    clear hb2 hbb hg1
    go_wp2_with fail
    go_ret2
    exact ⟨rfl, hbb2⟩

end Go.Proofs.YtlcfnbnpkcjjlaaGreat
