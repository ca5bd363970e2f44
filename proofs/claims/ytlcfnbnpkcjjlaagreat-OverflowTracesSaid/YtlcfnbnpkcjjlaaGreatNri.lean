/- Right of the reference: a right network and a right state. Conditions: both read as data. -/
import Derived.Test.YtlcfnbnpkcjjlaaGreatMRef
import Derived.Test.YtlcfnbnpkcjjlaaGreatNy
import Derived.Test.YtlcfnbnpkcjjlaaGreatNwb
namespace Go.Proofs.YtlcfnbnpkcjjlaaGreat
open Go.RowKit
set_option linter.unusedVariables false
set_option linter.unusedSimpArgs false

set_option maxHeartbeats 2000000 in
theorem r29right_any (n : Net) (s : St) (w : World) (hg : gNet w n) (hgs : gSt w s) : Calls Tryz.prog 6 #[vNet n, vSt s] w fun e w' => e = .returned (.bool (netB n && stB n s)) ∧ Below w.heap.size w w' := by
  have hb0 : Below w.heap.size w ((w.alloc (.cells (eNet n).toArray 25)).alloc (.cells (eSt s).toArray 29)) := ((Below.refl _ _).alloc (Nat.le_refl _) _).alloc (by simp) _
  obtain ⟨res, hres⟩ : ∃ res, (netB n && stB n s) = res := ⟨_, rfl⟩
  rw [hres]
  have HR := Lib.hid hres
  clear hres
  go_enter Tryz.func6, Tryz.ntmps6
  go_wp2_with fail
  refine Calls.to (r26valid_any n _ (rdNet.mono hg hb0)) ?_
  rintro e w1 rfl hb1
  have hbw := hb0.trans (hb1.mono hb0.size)
  obtain ⟨f0, f1, f2, f3⟩ := boxSt (w.alloc (.cells (eNet n).toArray 25)) w1 29 s _ rfl (w.heap.size + 2) (by simp) (by simpa using hb1)
  obtain ⟨e0, e1⟩ := boxNet w w1 25 n _ rfl _ rfl (((Below.refl _ _).alloc (by simp) _).trans (hb1.mono (by simp)))
  rw [show (w.alloc (.cells (eNet n).toArray 25)).heap.size = w.heap.size + 1 from by simp] at f0 f1 f2 f3
  clear hb1
  cases hnet : netB n
  · have HX := Lib.hid hnet
    go_wp2_with fail
    go_ret
    exact ⟨ret_bool (HR.out.symm.trans (by rw [HX.out]; rfl)).symm, hbw⟩
  have HX := Lib.hid (HR.out.symm.trans (by rw [hnet, Bool.true_and] : _ = stB n s))
  go_wp2_with fail
  refine Calls.to (r29valid_any n s _ (rdNet.mono hg hbw) (rdSt.mono hgs hbw) hnet) ?_
  rintro e w2 rfl hb2
  have hbw2 := hbw.trans (hb2.mono hbw.size)
  clear hb2 hnet
  go_wp2_with fail
  go_ret
  exact ⟨ret_bool HX.out.symm, hbw2⟩

end Go.Proofs.YtlcfnbnpkcjjlaaGreat
