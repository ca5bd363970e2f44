/- Levels and volumes of all nodes: storage.Levels, storage.Volumes, the reference's Levels, and the law's own function. Conditions: the arguments read as data. -/
import Derived.Test.YtjgfgbiohbgcaaaGreatSch
import Derived.Test.YtjgfgbiohbgcaaaGreatSnr
namespace Go.Proofs.YtjgfgbiohbgcaaaGreat
open Go.RowKit
set_option linter.unusedVariables false
set_option linter.unusedSimpArgs false

theorem ent53 : ∀ args w, (callFunc 53 args).run Tryz.prog w = .ok (.enter 53 args) w := by
  intro args w
  simp [go_sem]
theorem ent41 : ∀ args w, (callFunc 41 args).run Tryz.prog w = .ok (.enter 41 args) w := by
  intro args w
  simp [go_sem]
theorem ent43 : ∀ args w, (callFunc 43 args).run Tryz.prog w = .ok (.enter 43 args) w := by
  intro args w
  simp [go_sem]
theorem ent42 : ∀ args w, (callFunc 42 args).run Tryz.prog w = .ok (.enter 42 args) w := by
  intro args w
  simp [go_sem]
theorem ent22 : ∀ args w, (callFunc 22 args).run Tryz.prog w = .ok (.enter 22 args) w := by
  intro args w
  simp [go_sem]

set_option maxRecDepth 100000 in
set_option maxHeartbeats 1000000 in
theorem slevs1_any (x : Nd) (n : Int) (w : World) : Calls Tryz.prog 53 #[vNd x, .int .i64 n] w fun e w' => e = .returned (.bool (volB n)) ∧ Below w.heap.size w w' := by
  have hw := fun W => sholds_any n W
  have hb0 := alloc_below w (.cells (eNd x).toArray 27)
  generalize volB n = b at *
  obtain ⟨nm, kd, ax, ay, iv, gr, sh, pr, rs⟩ := x
  go_enter Tryz.func53, Tryz.ntmps53
  go_wp2_with fail
  refine (hw _).mono ?_
  rintro _ _ ⟨rfl, rfl⟩
  go_wp2_with fail
  go_ret
  exact ⟨rfl, hb0⟩
theorem lawlists1_any (n : Int) (w : World) : Calls Tryz.prog 22 #[.int .i64 n] w fun e w' => e = .returned (.bool (!volB n)) ∧ Below w.heap.size w w' := by
  have hw := fun W => r29isv_any n W
  generalize volB n = b at *
  cases b
  all_goals
    go_enter Tryz.func22, Tryz.ntmps22
    go_wp2_with fail
    refine (hw _).mono ?_
    rintro _ _ ⟨rfl, rfl⟩
    go_wp2_with fail
    go_ret
    exact ⟨rfl, Below.refl _ _⟩

theorem fLev1 (w : World) : NdFun 53 w (fun _ v => .bool (volB v)) (fun x _ => ndB x = true) :=
  ⟨ent53, fun W _ x v _ _ => slevs1_any x v W⟩
theorem fLev0 (w : World) : NdFun 41 w (fun x v => .tuple #[.int .i64 (levV x v), .int .i64 0]) (fun x v => ndB x = true ∧ volB v = true) :=
  ⟨ent41, fun W _ x v hg h => slev0_any x v W hg h.1 h.2⟩
theorem fVol1 (w : World) : NdFun 42 w (fun x v => .bool (btwB v x.Inv x.Gr)) (fun x _ => ndB x = true) :=
  ⟨ent42, fun W _ x v _ _ => sreach_any x v W⟩
theorem fVol0 (w : World) : NdFun 43 w (fun x v => .tuple #[.int .i64 (volV x v), .int .i64 0]) (fun x v => ndB x = true ∧ btwB v x.Inv x.Gr = true) :=
  ⟨ent43, fun W _ x v hg h => svol0_any x v W hg h.1 h.2⟩

def levsM (n : Net) (l : List Int) : List Int × Int := eachM (fun _ v => volB v) levV n l
def volsM (n : Net) (l : List Int) : List Int × Int := eachM (fun x v => btwB v x.Inv x.Gr) volV n l
set_option maxRecDepth 100000 in
set_option maxHeartbeats 1000000 in
theorem slevs_any (n : Net) (l : Sl Int) (w : World) (hg : gNet w n) (hl : gInts w l) : Calls Tryz.prog 18 #[vNet n, vSl l] w fun e w' =>
    (∃ v, e = .returned (.tuple #[v, .int .i64 (levsM n l.xs).2]) ∧ IsInts w' v (levsM n l.xs).1) ∧ Below w.heap.size w w' := by
  have hb0 := alloc_below w (.cells (eNet n).toArray 42)
  have he := each_any 53 41 n l _ _ _ (rdNet.mono hg hb0) (rdInts.mono hl hb0) (fLev1 _) (fLev0 _)
  obtain ⟨⟨R, E⟩, hR⟩ : ∃ r, levsM n l.xs = r := ⟨_, rfl⟩
  rw [show eachM (fun _ v => volB v) levV n l.xs = (R, E) from hR] at he
  rw [hR]
  clear hR hg hl
  obtain ⟨⟨na, nc, nxs⟩, ⟨la, lc, lxs⟩⟩ := n
  obtain ⟨va, vc, vs⟩ := l
  simp only [vNet, vSl] at he ⊢
  go_enter Tryz.func18, Tryz.ntmps18
  go_wp2_with fail
  refine Calls.go hb0 he ?_
  rintro e w1 ⟨v, rfl, hv⟩ _ hb1
  go_wp2_with fail
  go_ret2
  exact ⟨⟨_, rfl, hv⟩, hb1⟩
set_option maxRecDepth 100000 in
set_option maxHeartbeats 1000000 in
theorem svols_any (n : Net) (l : Sl Int) (w : World) (hg : gNet w n) (hl : gInts w l) : Calls Tryz.prog 19 #[vNet n, vSl l] w fun e w' =>
    (∃ v, e = .returned (.tuple #[v, .int .i64 (volsM n l.xs).2]) ∧ IsInts w' v (volsM n l.xs).1) ∧ Below w.heap.size w w' := by
  have hb0 := alloc_below w (.cells (eNet n).toArray 42)
  have he := each_any 42 43 n l _ _ _ (rdNet.mono hg hb0) (rdInts.mono hl hb0) (fVol1 _) (fVol0 _)
  obtain ⟨⟨R, E⟩, hR⟩ : ∃ r, volsM n l.xs = r := ⟨_, rfl⟩
  rw [show eachM (fun x v => btwB v x.Inv x.Gr) volV n l.xs = (R, E) from hR] at he
  rw [hR]
  clear hR hg hl
  obtain ⟨⟨na, nc, nxs⟩, ⟨la, lc, lxs⟩⟩ := n
  obtain ⟨va, vc, vs⟩ := l
  simp only [vNet, vSl] at he ⊢
  go_enter Tryz.func19, Tryz.ntmps19
  go_wp2_with fail
  refine Calls.go hb0 he ?_
  rintro e w1 ⟨v, rfl, hv⟩ _ hb1
  go_wp2_with fail
  go_ret2
  exact ⟨⟨_, rfl, hv⟩, hb1⟩

end Go.Proofs.YtjgfgbiohbgcaaaGreat
