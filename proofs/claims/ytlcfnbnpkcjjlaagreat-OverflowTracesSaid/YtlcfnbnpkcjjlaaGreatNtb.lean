/- network.Below and Order at a right network. Conditions: the network reads as data and is right. -/
import Derived.Test.YtlcfnbnpkcjjlaaGreatNtw
import Derived.Test.YtlcfnbnpkcjjlaaGreatMtl
namespace Go.Proofs.YtlcfnbnpkcjjlaaGreat
open Go.RowKit
set_option linter.unusedVariables false
set_option linter.unusedSimpArgs false

set_option maxRecDepth 100000 in
set_option maxHeartbeats 4000000 in
theorem below_ok (n : Net) (nm : ByteArray) (i : Nat) (w : World) (hg : gNet w n) (hN : netB n = true) (hi : findNd n.Ns.xs nm = (i : Int)) :
    Calls Tryz.prog 9 #[vNet n, .string nm] w fun e w' => (∃ u, e = .returned (.tuple #[u, .int .i64 0]) ∧ IsStrs w' u (namesL n.Ns.xs (Gp.reachL n.Ns.xs.length (gE n) (firstL (gE n) i)) n.Ns.xs.length)) ∧ Below w.heap.size w w' := by
  have hb0 : Below w.heap.size w (w.alloc (.cells (eNet n).toArray 25)) := (Below.refl _ _).alloc (Nat.le_refl _) _
  have hsm := (netB_small hN).2
  go_enter Tryz.func9, Tryz.ntmps9
  go_wp2_with fail
  refine Calls.to (nvalid_any n _ (rdNet.mono hg hb0)) ?_
  rintro e w1 rfl hb1
  have hbw := hb0.trans (hb1.mono hb0.size)
  obtain ⟨e0, e1⟩ := boxNet w w1 25 n _ rfl _ rfl (hb1.mono (by simp))
  have hgw := rdNet.mono hg hbw
  clear hb1 hb0
  rw [hN]
  obtain ⟨W, hW⟩ : ∃ W, W = w1 := ⟨_, rfl⟩
  subst hW
  go_wp2_with fail
  go_region_law (first
    | (go_simp; go_at_call 35; refine (edges_ok n _ (rdNet.mono hg (by repeat' (first | exact Below.refl _ _ | assumption | refine Below.more ?_ ?_ _ | refine Below.alloc ?_ ?_ _ | refine Below.drew ?_ | refine below_drewN ?_ _ | refine Below.setCell ?_ ?_ _ | exact Below.size (by assumption) | (simp [go_sem, size_more]; done) | (simp [go_sem, size_more]; omega)))) hN).mono ?_; rintro e w2 ⟨⟨lv, rfl, hE⟩, hb2⟩; have hbd2 : Below w.heap.size w w2 := hbw.trans ((Below.drew (Below.refl _ _)).trans hb2 |>.mono hbw.size); have g0 : w2.cell? ⟨w.heap.size, 0, none⟩ = some (vSl n.Ns) := box_lt e0 ((Below.drew (Below.refl _ _)).trans hb2); have g1 : w2.cell? ⟨w.heap.size, 1, none⟩ = some (vSl n.Ls) := box_lt e1 ((Below.drew (Below.refl _ _)).trans hb2))
    | (go_simp; go_at_call 34; refine (ways_ok n nm i (gE n) lv _ (rdNet.mono hg hbd2) hN hi hE (gE_v hN) (by rw [gE_len]; omega)).mono ?_; rintro e w3 ⟨⟨u, rfl, hu⟩, hb3⟩; have hbd3 := hbd2.trans (hb3.mono hbd2.size)))
  all_goals
    go_wp2_with fail
    go_ret2
    exact ⟨⟨_, rfl, hu⟩, hbd3⟩

/-- The error of Order: just a loop. -/
noncomputable def ordE (n : Net) : Int := if (Gp.ordL n.Ns.xs.length (gE n)).length < n.Ns.xs.length then 22 else 0
theorem digOrd (n : Net) (lv : Value) (w : World) (hN : netB n = true) (hE : IsEds w lv (gE n)) :
    Calls Tryz.prog 39 #[.int .i64 n.Ns.xs.length, lv] w fun e w' => (∃ u, e = .returned (.tuple #[u, .int .i64 (ordE n)])) ∧ Below w.heap.size w w' := by
  have hs := netB_small hN
  refine (order_ok _ (gE n) lv w hE (gE_v hN) hs.1 (by rw [gE_len]; omega)).mono ?_
  rintro e w' ⟨⟨u, c, rfl, h⟩, hb⟩
  refine ⟨⟨u, ?_⟩, hb⟩
  unfold ordE
  rcases h with ⟨h1, rfl, _⟩ | ⟨h1, rfl, _⟩
  · rw [if_neg (by omega)]
  · rw [if_pos h1]

set_option maxRecDepth 100000 in
set_option maxHeartbeats 4000000 in
theorem norder_ok (n : Net) (w : World) (hg : gNet w n) (hN : netB n = true) :
    Calls Tryz.prog 13 #[vNet n] w fun e w' => (∃ u, e = .returned (.tuple #[u, .int .i64 (ordE n)])) ∧ Below w.heap.size w w' := by
  have hb0 : Below w.heap.size w (w.alloc (.cells (eNet n).toArray 25)) := (Below.refl _ _).alloc (Nat.le_refl _) _
  have hsm := (netB_small hN).2
  go_enter Tryz.func13, Tryz.ntmps13
  go_wp2_with fail
  refine Calls.to (nvalid_any n _ (rdNet.mono hg hb0)) ?_
  rintro e w1 rfl hb1
  have hbw := hb0.trans (hb1.mono hb0.size)
  obtain ⟨e0, e1⟩ := boxNet w w1 25 n _ rfl _ rfl (hb1.mono (by simp))
  have hgw := rdNet.mono hg hbw
  clear hb1 hb0
  rw [hN]
  obtain ⟨W, hW⟩ : ∃ W, W = w1 := ⟨_, rfl⟩
  subst hW
  go_wp2_with fail
  go_region_law (first
    | (go_simp; go_at_call 35; refine (edges_ok n _ (rdNet.mono hg (by repeat' (first | exact Below.refl _ _ | assumption | refine Below.more ?_ ?_ _ | refine Below.alloc ?_ ?_ _ | refine Below.drew ?_ | refine below_drewN ?_ _ | refine Below.setCell ?_ ?_ _ | exact Below.size (by assumption) | (simp [go_sem, size_more]; done) | (simp [go_sem, size_more]; omega)))) hN).mono ?_; rintro e w2 ⟨⟨lv, rfl, hE⟩, hb2⟩; have hbd2 : Below w.heap.size w w2 := hbw.trans ((Below.drew (Below.refl _ _)).trans hb2 |>.mono hbw.size); have g0 : w2.cell? ⟨w.heap.size, 0, none⟩ = some (vSl n.Ns) := box_lt e0 ((Below.drew (Below.refl _ _)).trans hb2); have g1 : w2.cell? ⟨w.heap.size, 1, none⟩ = some (vSl n.Ls) := box_lt e1 ((Below.drew (Below.refl _ _)).trans hb2))
    | (go_simp; go_at_call 39; refine (digOrd n lv _ hN hE).mono ?_; rintro e w3 ⟨⟨u, rfl⟩, hb3⟩; have hbd3 := hbd2.trans (hb3.mono hbd2.size)))
  all_goals
    go_wp2_with fail
    go_ret2
    exact ⟨⟨_, rfl⟩, hbd3⟩

end Go.Proofs.YtlcfnbnpkcjjlaaGreat
