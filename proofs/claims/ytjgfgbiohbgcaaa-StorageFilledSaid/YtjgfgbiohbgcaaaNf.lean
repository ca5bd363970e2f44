/- node and link (the index of a name) on both sides. Conditions: the slices read as lists. -/
import Derived.Test.YtjgfgbiohbgcaaaNn
namespace Go.Proofs.Ytjgfgbiohbgcaaa
open Go.RowKit
set_option linter.unusedVariables false
set_option linter.unusedSimpArgs false

theorem ent91 : ∀ args w, (callFunc 91 args).run Try.prog w = .ok (.enter 91 args) w := by
  intro args w
  simp [go_sem]
theorem ent97 : ∀ args w, (callFunc 97 args).run Try.prog w = .ok (.enter 97 args) w := by
  intro args w
  simp [go_sem]

set_option maxHeartbeats 1000000 in
theorem node1_any (x : Nd) (nm : ByteArray) (B : Nat) (w : World) (hc : w.cell? ⟨B, 0, none⟩ = some (.string nm)) :
    Calls Try.prog 91 #[vNd x, .pointer (some ⟨B, 0, none⟩)] w fun e w' => e = .returned (.bool (strB x.Name nm)) ∧ Below w.heap.size w w' := by
  have H : Hid (strB x.Name nm = (x.Name.toList == nm.toList)) := rfl
  obtain ⟨xn, kd, ax, ay, iv, gr, ⟨sa, scap, sxs⟩, pr, rs⟩ := x
  simp only at H
  simp only [vNd]
  generalize strB xn nm = r at *
  cases h : (xn.toList == nm.toList)
  all_goals
    have HH := Lib.hid (H.out.trans h)
    clear H
    go_enter Try.func91, Try.ntmps91
    go_wp2_with fail
    go_ret
    exact ⟨ret_bool HH.out.symm, by repeat' (first | exact Below.refl _ _ | assumption | refine Below.more ?_ ?_ _ | refine Below.alloc ?_ ?_ _ | refine Below.drew ?_ | refine below_drewN ?_ _ | refine Below.setCell ?_ ?_ _ | exact Below.size (by assumption) | (simp [go_sem, size_more]; done) | (simp [go_sem, size_more]; omega))⟩

set_option maxHeartbeats 1000000 in
theorem link1_any (x : Lk) (nm : ByteArray) (B : Nat) (w : World) (hc : w.cell? ⟨B, 0, none⟩ = some (.string nm)) :
    Calls Try.prog 97 #[vLk x, .pointer (some ⟨B, 0, none⟩)] w fun e w' => e = .returned (.bool (strB x.Name nm)) ∧ Below w.heap.size w w' := by
  have H : Hid (strB x.Name nm = (x.Name.toList == nm.toList)) := rfl
  obtain ⟨xn, fr, tt, kd, ln, up, dn, sc, wi, he, ⟨sa, scap, sxs⟩⟩ := x
  simp only at H
  simp only [vLk]
  generalize strB xn nm = r at *
  cases h : (xn.toList == nm.toList)
  all_goals
    have HH := Lib.hid (H.out.trans h)
    clear H
    go_enter Try.func97, Try.ntmps97
    go_wp2_with fail
    go_ret
    exact ⟨ret_bool HH.out.symm, by repeat' (first | exact Below.refl _ _ | assumption | refine Below.more ?_ ?_ _ | refine Below.alloc ?_ ?_ _ | refine Below.drew ?_ | refine below_drewN ?_ _ | refine Below.setCell ?_ ?_ _ | exact Below.size (by assumption) | (simp [go_sem, size_more]; done) | (simp [go_sem, size_more]; omega))⟩

set_option maxHeartbeats 1000000 in
theorem node_any (n : Net) (nm : ByteArray) (w : World) (hv : IsNds w (vSl n.Ns) n.Ns.xs) :
    Calls Try.prog 68 #[vNet n, .string nm] w fun e w' => e = .returned (.int .i64 (findNd n.Ns.xs nm)) ∧ Below w.heap.size w w' := by
  obtain ⟨⟨na, nc, nxs⟩, ls⟩ := n
  simp only at hv
  simp only [vNet]
  have hb0 : Below w.heap.size w ((w.alloc (.cells #[vSl (⟨na, nc, nxs⟩ : Sl Nd), vSl ls] 50)).alloc (.cells #[.string nm] 9)) := ((Below.refl _ _).alloc (Nat.le_refl _) _).alloc (by simp) _
  have hv1 := hv.mono hb0
  go_enter Try.func68, Try.ntmps68
  go_wp2_with fail
  refine Calls.to (indexNd 91 #[.pointer (some ⟨w.heap.size + 1, 0, none⟩)] ent91 (fun x => strB x.Name nm) nxs _ _ hv1 (fun W hW x _ => node1_any x nm _ W ((hW.cell (p := ⟨w.heap.size + 1, 0, none⟩) (by simp)).trans (by simp [go_sem])))) ?_
  rintro e w1 rfl hb1
  have hbb := hb0.trans (hb1.mono hb0.size)
  clear hb0 hb1 hv hv1
  go_wp2_with fail
  go_ret
  exact ⟨rfl, hbb⟩

set_option maxHeartbeats 1000000 in
theorem link_any (n : Net) (nm : ByteArray) (w : World) (hv : IsLks w (vSl n.Ls) n.Ls.xs) :
    Calls Try.prog 70 #[vNet n, .string nm] w fun e w' => e = .returned (.int .i64 (findLk n.Ls.xs nm)) ∧ Below w.heap.size w w' := by
  obtain ⟨ns, ⟨na, nc, nxs⟩⟩ := n
  simp only at hv
  simp only [vNet]
  have hb0 : Below w.heap.size w ((w.alloc (.cells #[vSl ns, vSl (⟨na, nc, nxs⟩ : Sl Lk)] 50)).alloc (.cells #[.string nm] 9)) := ((Below.refl _ _).alloc (Nat.le_refl _) _).alloc (by simp) _
  have hv1 := hv.mono hb0
  go_enter Try.func70, Try.ntmps70
  go_wp2_with fail
  refine Calls.to (indexLk 97 #[.pointer (some ⟨w.heap.size + 1, 0, none⟩)] ent97 (fun x => strB x.Name nm) nxs _ _ hv1 (fun W hW x _ => link1_any x nm _ W ((hW.cell (p := ⟨w.heap.size + 1, 0, none⟩) (by simp)).trans (by simp [go_sem])))) ?_
  rintro e w1 rfl hb1
  have hbb := hb0.trans (hb1.mono hb0.size)
  clear hb0 hb1 hv hv1
  go_wp2_with fail
  go_ret
  exact ⟨rfl, hbb⟩

theorem boxNet (w W : World) (T : TypeId) (n : Net) (cs : Array Value) (hcs : cs = (eNet n).toArray) (B : Nat) (hB : B = w.heap.size + 1) (hb : Below B (w.alloc (.cells cs T)) W) :
    W.cell? ⟨w.heap.size, 0, none⟩ = some (vSl n.Ns) ∧ W.cell? ⟨w.heap.size, 1, none⟩ = some (vSl n.Ls) := by
  subst hB; subst hcs
  exact ⟨(hb.cell (p := ⟨w.heap.size, 0, none⟩) (by simp)).trans (by simp [go_sem]), (hb.cell (p := ⟨w.heap.size, 1, none⟩) (by simp)).trans (by simp [go_sem])⟩

end Go.Proofs.Ytjgfgbiohbgcaaa
