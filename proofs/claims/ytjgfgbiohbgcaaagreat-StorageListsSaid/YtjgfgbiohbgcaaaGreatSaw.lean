/- The examples of the chapter on storage hold: awake returns true. Conditions: none. -/
import Derived.Test.YtjgfgbiohbgcaaaGreatSwi
namespace Go.Proofs.YtjgfgbiohbgcaaaGreat
open Go.RowKit
set_option linter.unusedVariables false
set_option linter.unusedSimpArgs false

def exT : List Kn := [⟨0, 0⟩, ⟨2000, 2000000⟩]
def exW : List Kn := [⟨0, 0⟩, ⟨1000, 1000000⟩, ⟨2000, 2500000⟩]
def exN (a : Option Addr) (c : Nat) : Nd := ⟨⟨#[109]⟩, 1, 0, 0, 500, 2500, ⟨a, c, exT⟩, false, 0⟩
theorem exT_is : shaM 1000000 2000 = (exT, 0) := by kernel_rfl
theorem exN_l1 (a : Option Addr) (c : Nat) : levXM (exN a c) 1000000 = (1500, 0) := by kernel_rfl
theorem exN_l2 (a : Option Addr) (c : Nat) : levXM (exN a c) 999999 = (1499, 0) := by kernel_rfl
theorem exN_v (a : Option Addr) (c : Nat) : volXM (exN a c) 1734 = (1234000, 0) := by kernel_rfl
theorem exW_is : widM exT 1000 500000 = (exW, 0) := by kernel_rfl

set_option maxRecDepth 100000 in
set_option maxHeartbeats 8000000 in
theorem s9awake_any (w : World) : Calls Tryz.prog 6 #[] w fun e w' => e = .returned (.bool true) ∧ Below w.heap.size w w' := by
  have hsh := fun W => sshaft_any 1000000 2000 W
  rw [exT_is] at hsh
  simp only at hsh
  have hwd := fun v W (hW : IsKns W v exT) => widened_any exT 1000 500000 v W hW
  rw [exW_is] at hwd
  simp only at hwd
  go_enter Tryz.func6, Tryz.ntmps6
  go_wp2_with fail
  refine Calls.to (hsh _) ?_
  rintro e w1 ⟨v1, rfl, hown1⟩ hb1
  have hT1 := hown1.isL eKn_len
  clear hown1 hsh
  obtain ⟨a1, c1, rfl, hc1, hc1', hC1⟩ := hT1
  have hN : gNd w1 (exN a1 c1) := by
    refine ⟨by show (1 : Nat) ≤ maxLen; decide, rfl, rfl, rfl, rfl, rfl, ⟨hc1, hc1', hC1, ?_⟩, rfl⟩
    intro k hk
    simp only [exN, exT, List.mem_cons, List.not_mem_nil, or_false] at hk
    rcases hk with rfl | rfl <;> exact ⟨rfl, rfl⟩
  have hA1 := alloc_below w1 (.cells (eNd (exN a1 c1)).toArray 27)
  have HNX := Lib.hid (NdBx.new w1 (exN a1 c1) 27)
  have HN := Lib.hid (rdNd.mono hN hA1)
  have HT : Hid (IsKns (w1.alloc (.cells (eNd (exN a1 c1)).toArray 27)) (.slice a1 exT.length c1) exT) := (show IsKns w1 (.slice a1 exT.length c1) exT from ⟨a1, c1, rfl, hc1, hc1', hC1⟩).mono hA1
  have hb1 := hb1.trans (hA1.mono hb1.size)
  clear hN hA1 hC1 hc1 hc1'
  have hl1 := fun W hW => slev_any (exN a1 c1) 1000000 W hW
  have hl2 := fun W hW => slev_any (exN a1 c1) 999999 W hW
  have hvo := fun W hW => svol_any (exN a1 c1) 1734 W hW
  rw [exN_l1] at hl1
  rw [exN_l2] at hl2
  rw [exN_v] at hvo
  simp only at hl1 hl2 hvo
  go_wp2_with fail
  refine Calls.go hb1 (hl1 _ HN.out) ?_
  rintro e w2 rfl hb2' hb2
  have HNX := Lib.hid (HNX.out.mono hb2')
  have HN := Lib.hid (rdNd.mono HN.out hb2')
  have HT := Lib.hid (HT.out.mono hb2')
  obtain ⟨n0, n1, n2, n3, n4, n5, n6, n7, n8⟩ := HNX.out
  simp only [exN, vSl] at n0 n1 n2 n3 n4 n5 n6 n7 n8
  clear hb2' hb1 hl1
  go_wp2_with fail
  refine Calls.go hb2 (hl2 _ HN.out) ?_
  rintro e w3 rfl hb3' hb3
  clear n0 n1 n2 n3 n4 n5 n6 n7 n8
  have HNX := Lib.hid (HNX.out.mono hb3')
  have HN := Lib.hid (rdNd.mono HN.out hb3')
  have HT := Lib.hid (HT.out.mono hb3')
  obtain ⟨n0, n1, n2, n3, n4, n5, n6, n7, n8⟩ := HNX.out
  simp only [exN, vSl] at n0 n1 n2 n3 n4 n5 n6 n7 n8
  clear hb3' hb2 hl2
  go_wp2_with fail
  refine Calls.go hb3 (hvo _ HN.out) ?_
  rintro e w4 rfl hb4' hb4
  clear n0 n1 n2 n3 n4 n5 n6 n7 n8
  have HNX := Lib.hid (HNX.out.mono hb4')
  have HN := Lib.hid (rdNd.mono HN.out hb4')
  have HT := Lib.hid (HT.out.mono hb4')
  obtain ⟨n0, n1, n2, n3, n4, n5, n6, n7, n8⟩ := HNX.out
  simp only [exN, vSl] at n0 n1 n2 n3 n4 n5 n6 n7 n8
  clear hb4' hb3 hvo
  go_wp2_with fail
  refine Calls.go hb4 (hwd _ _ HT.out) ?_
  rintro e w5 ⟨v5, rfl, hown5⟩ hb5' hb5
  have hT5 := hown5.isL eKn_len
  clear n0 n1 n2 n3 n4 n5 n6 n7 n8
  clear hb5' hb4 hwd hown5
  go_wp2_with fail
  have hq := isL_lit eKn 2 eKn_len (w5.alloc (.cells #[.int .i64 0, .int .i64 0, .int .i64 1000, .int .i64 1000000, .int .i64 2000, .int .i64 2500000] 71)) w5.heap.size 71 _ exW 3 3 (heap_alloc_new w5 _) rfl rfl (by decide) (by decide)
  have hA5 := alloc_below w5 (.cells #[.int .i64 0, .int .i64 0, .int .i64 1000, .int .i64 1000000, .int .i64 2000, .int .i64 2500000] 71)
  refine Calls.go (hb5.trans (hA5.mono hb5.size)) (eqKns exW exW _ _ _ (hT5.mono hA5) hq) ?_
  rintro e w6 rfl _ hb6
  rw [decide_eq_true (rfl : exW = exW)]
  clear hq hA5 hT5 hb5
  go_wp2_with fail
  go_ret
  exact ⟨rfl, hb6⟩

end Go.Proofs.YtjgfgbiohbgcaaaGreat
