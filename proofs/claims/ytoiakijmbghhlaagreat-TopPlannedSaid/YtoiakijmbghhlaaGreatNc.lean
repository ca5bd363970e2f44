/- The capacity of a node, what a volume is, on both sides. Conditions: the node is an outfall or has a knot. -/
import Derived.Test.YtoiakijmbghhlaaGreatNo
namespace Go.Proofs.YtoiakijmbghhlaaGreat
open Go.RowKit
set_option linter.unusedVariables false
set_option linter.unusedSimpArgs false

theorem swithin_any (n lo hi : Int) (w : World) : Calls Tryz.prog 95 #[.int .i64 n, .int .i64 lo, .int .i64 hi] w fun e w' => e = .returned (.bool (btwB n lo hi)) ∧ w' = w := by
  by_cases h1 : lo ≤ n <;> by_cases h2 : n ≤ hi
  all_goals
    go_enter Tryz.func95, Tryz.ntmps95
    go_wp2_with fail
    go_ret
    exact ⟨ret_bool (by simp [btwB, h1, h2]), rfl⟩
def volB (n : Int) : Bool := btwB n 0 1125899906842624
theorem sholds_any (n : Int) (w : World) : Calls Tryz.prog 97 #[.int .i64 n] w fun e w' => e = .returned (.bool (volB n)) ∧ w' = w := by
  have H : Hid (volB n = btwB n 0 1125899906842624) := rfl
  generalize volB n = r at *
  go_enter Tryz.func97, Tryz.ntmps97
  go_wp2_with (go_at_call 95; refine (swithin_any _ _ _ _).mono ?_; rintro e w' ⟨rfl, rfl⟩)
  go_ret
  exact ⟨ret_bool H.out.symm, rfl⟩
set_option maxHeartbeats 1000000 in
theorem slast_any (xs : List Kn) (v : Value) (w : World) (hv : IsKns w v xs) (h1 : 1 ≤ xs.length) : Calls Tryz.prog 174 #[v] w fun e w' => e = .returned (vKn (lastK xs)) ∧ Below w.heap.size w w' := by
  obtain ⟨a, cap, rfl, hcap, hbig, hs⟩ := hv
  have hs1 := hs.mono ((Below.refl _ _).alloc (Nat.le_refl _) (.cells #[.int .i64 0, .int .i64 0] 100))
  obtain ⟨b, off, rfl, d1, d2⟩ := hs1.kn (xs.length - 1) (by omega)
  have HL := Lib.hid (lastK_eq h1)
  clear hs hs1
  rw [HL.out]
  clear HL
  generalize xs[xs.length - 1] = xl at *
  obtain ⟨x, y⟩ := xl
  simp only at d1 d2
  go_enter Tryz.func174, Tryz.ntmps174
  go_wp2_with fail
  refine bodyPost_ret (v := .agg #[.int .i64 x, .int .i64 y]) (by simp (maxDischargeDepth := 9) [results, Tryz.results174, go_sem]) rfl ⟨rfl, by repeat' (first | exact Below.refl _ _ | assumption | refine Below.more ?_ ?_ _ | refine Below.alloc ?_ ?_ _ | refine Below.drew ?_ | refine below_drewN ?_ _ | refine Below.setCell ?_ ?_ _ | exact Below.size (by assumption) | (simp [go_sem, size_more]; done) | (simp [go_sem, size_more]; omega))⟩

def capB (x : Nd) : Int := if x.Kind = 3 then 0 else (lastK x.Sh.xs).Y

set_option maxHeartbeats 1000000 in
theorem scap_any (x : Nd) (w : World) (hg : gNd w x) (hok : x.Kind = 3 ∨ 1 ≤ x.Sh.xs.length) : Calls Tryz.prog 96 #[vNd x] w fun e w' => e = .returned (.int .i64 (capB x)) ∧ Below w.heap.size w w' := by
  obtain ⟨nm, kd, ax, ay, iv, gr, ⟨sa, scap, sxs⟩, pr, rs⟩ := x
  have hsh : IsKns w (.slice sa sxs.length scap) sxs := hg.sh.isL
  clear hg
  simp only at hok
  simp only [vNd, vSl]
  by_cases k3 : kd = 3
  · subst k3
    have HC : Hid (capB ⟨nm, 3, ax, ay, iv, gr, ⟨sa, scap, sxs⟩, pr, rs⟩ = 0) := by show _ = _; simp [capB]
    rw [HC.out]
    go_enter Tryz.func96, Tryz.ntmps96
    go_wp2_with fail
    go_ret
    exact ⟨rfl, by repeat' (first | exact Below.refl _ _ | assumption | refine Below.more ?_ ?_ _ | refine Below.alloc ?_ ?_ _ | refine Below.drew ?_ | refine below_drewN ?_ _ | refine Below.setCell ?_ ?_ _ | exact Below.size (by assumption) | (simp [go_sem, size_more]; done) | (simp [go_sem, size_more]; omega))⟩
  · have hlen : 1 ≤ sxs.length := by rcases hok with h | h; exact absurd h k3; exact h
    have HC : Hid (capB ⟨nm, kd, ax, ay, iv, gr, ⟨sa, scap, sxs⟩, pr, rs⟩ = (lastK sxs).Y) := by show _ = _; simp [capB, k3]
    rw [HC.out]
    have n3 := beqF k3
    have hlast := fun W h => slast_any sxs (.slice sa sxs.length scap) W h hlen
    clear k3 hok HC
    generalize lastK sxs = lk at *
    obtain ⟨lx, ly⟩ := lk
    simp only [vKn] at hlast
    have hfd : ∀ w : World, (Instr.field 100 (.agg #[.int .i64 lx, .int .i64 ly]) 1).run Tryz.prog w = .ok (.int .i64 ly) w := fun _ => by kernel_rfl
    go_enter Tryz.func96, Tryz.ntmps96
    go_wp2_with fail
    refine Calls.to (hlast _ (hsh.mono ((Below.refl _ _).alloc (Nat.le_refl _) _))) ?_
    rintro e w1 rfl hb1
    have hbb : Below w.heap.size w w1 := ((Below.refl _ _).alloc (Nat.le_refl _) _).trans (hb1.mono (by simp))
    clear hb1 hsh hlast
    go_wp2_with fail
    go_ret
    exact ⟨rfl, hbb⟩

end Go.Proofs.YtoiakijmbghhlaaGreat
