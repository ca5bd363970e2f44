/- node and link (the index of a name) on both sides. Conditions: the slices read as lists. -/
import Derived.Test.YtlcfnbnpkcjjlaaGreatNn
namespace Go.Proofs.YtlcfnbnpkcjjlaaGreat
open Go.RowKit
set_option linter.unusedVariables false
set_option linter.unusedSimpArgs false

theorem ent61 : ∀ args w, (callFunc 61 args).run Tryz.prog w = .ok (.enter 61 args) w := by
  intro args w
  simp [go_sem]
theorem ent85 : ∀ args w, (callFunc 85 args).run Tryz.prog w = .ok (.enter 85 args) w := by
  intro args w
  simp [go_sem]

set_option maxHeartbeats 1000000 in
theorem node1_any (x : Nd) (nm : ByteArray) (B : Nat) (w : World) (hc : w.cell? ⟨B, 0, none⟩ = some (.string nm)) :
    Calls Tryz.prog 61 #[vNd x, .pointer (some ⟨B, 0, none⟩)] w fun e w' => e = .returned (.bool (strB x.Name nm)) ∧ Below w.heap.size w w' := by
  have H : Hid (strB x.Name nm = (x.Name.toList == nm.toList)) := rfl
  obtain ⟨xn, kd, ax, ay, iv, gr, ⟨sa, scap, sxs⟩, pr, rs⟩ := x
  simp only at H
  simp only [vNd]
  generalize strB xn nm = r at *
  cases h : (xn.toList == nm.toList)
  all_goals
    have HH := Lib.hid (H.out.trans h)
    clear H
    go_enter Tryz.func61, Tryz.ntmps61
    go_wp2_with fail
    go_ret
    exact ⟨ret_bool HH.out.symm, by repeat' (first | exact Below.refl _ _ | assumption | refine Below.more ?_ ?_ _ | refine Below.alloc ?_ ?_ _ | refine Below.drew ?_ | refine below_drewN ?_ _ | refine Below.setCell ?_ ?_ _ | exact Below.size (by assumption) | (simp [go_sem, size_more]; done) | (simp [go_sem, size_more]; omega))⟩

set_option maxHeartbeats 1000000 in
theorem link1_any (x : Lk) (nm : ByteArray) (B : Nat) (w : World) (hc : w.cell? ⟨B, 0, none⟩ = some (.string nm)) :
    Calls Tryz.prog 85 #[vLk x, .pointer (some ⟨B, 0, none⟩)] w fun e w' => e = .returned (.bool (strB x.Name nm)) ∧ Below w.heap.size w w' := by
  have H : Hid (strB x.Name nm = (x.Name.toList == nm.toList)) := rfl
  obtain ⟨xn, fr, tt, kd, ln, up, dn, sc, wi, he, ⟨sa, scap, sxs⟩⟩ := x
  simp only at H
  simp only [vLk]
  generalize strB xn nm = r at *
  cases h : (xn.toList == nm.toList)
  all_goals
    have HH := Lib.hid (H.out.trans h)
    clear H
    go_enter Tryz.func85, Tryz.ntmps85
    go_wp2_with fail
    go_ret
    exact ⟨ret_bool HH.out.symm, by repeat' (first | exact Below.refl _ _ | assumption | refine Below.more ?_ ?_ _ | refine Below.alloc ?_ ?_ _ | refine Below.drew ?_ | refine below_drewN ?_ _ | refine Below.setCell ?_ ?_ _ | exact Below.size (by assumption) | (simp [go_sem, size_more]; done) | (simp [go_sem, size_more]; omega))⟩

set_option maxHeartbeats 1000000 in
theorem node_any (n : Net) (nm : ByteArray) (w : World) (hv : IsNds w (vSl n.Ns) n.Ns.xs) :
    Calls Tryz.prog 33 #[vNet n, .string nm] w fun e w' => e = .returned (.int .i64 (findNd n.Ns.xs nm)) ∧ Below w.heap.size w w' := by
  obtain ⟨⟨na, nc, nxs⟩, ls⟩ := n
  simp only at hv
  simp only [vNet]
  have hb0 : Below w.heap.size w ((w.alloc (.cells #[vSl (⟨na, nc, nxs⟩ : Sl Nd), vSl ls] 25)).alloc (.cells #[.string nm] 9)) := ((Below.refl _ _).alloc (Nat.le_refl _) _).alloc (by simp) _
  have hv1 := hv.mono hb0
  go_enter Tryz.func33, Tryz.ntmps33
  go_wp2_with fail
  refine Calls.to (indexNd 61 #[.pointer (some ⟨w.heap.size + 1, 0, none⟩)] ent61 (fun x => strB x.Name nm) nxs _ _ hv1 (fun W hW x _ => node1_any x nm _ W ((hW.cell (p := ⟨w.heap.size + 1, 0, none⟩) (by simp)).trans (by simp [go_sem])))) ?_
  rintro e w1 rfl hb1
  have hbb := hb0.trans (hb1.mono hb0.size)
  clear hb0 hb1 hv hv1
  go_wp2_with fail
  go_ret
  exact ⟨rfl, hbb⟩

set_option maxHeartbeats 1000000 in
theorem link_any (n : Net) (nm : ByteArray) (w : World) (hv : IsLks w (vSl n.Ls) n.Ls.xs) :
    Calls Tryz.prog 60 #[vNet n, .string nm] w fun e w' => e = .returned (.int .i64 (findLk n.Ls.xs nm)) ∧ Below w.heap.size w w' := by
  obtain ⟨ns, ⟨na, nc, nxs⟩⟩ := n
  simp only at hv
  simp only [vNet]
  have hb0 : Below w.heap.size w ((w.alloc (.cells #[vSl ns, vSl (⟨na, nc, nxs⟩ : Sl Lk)] 25)).alloc (.cells #[.string nm] 9)) := ((Below.refl _ _).alloc (Nat.le_refl _) _).alloc (by simp) _
  have hv1 := hv.mono hb0
  go_enter Tryz.func60, Tryz.ntmps60
  go_wp2_with fail
  refine Calls.to (indexLk 85 #[.pointer (some ⟨w.heap.size + 1, 0, none⟩)] ent85 (fun x => strB x.Name nm) nxs _ _ hv1 (fun W hW x _ => link1_any x nm _ W ((hW.cell (p := ⟨w.heap.size + 1, 0, none⟩) (by simp)).trans (by simp [go_sem])))) ?_
  rintro e w1 rfl hb1
  have hbb := hb0.trans (hb1.mono hb0.size)
  clear hb0 hb1 hv hv1
  go_wp2_with fail
  go_ret
  exact ⟨rfl, hbb⟩

theorem boxNet (w W : World) (T : TypeId) (n : Net) (cs : Array Value) (hcs : cs = (eNet n).toArray) (B : Nat) (hB : B = w.heap.size + 1) (hb : Below B (w.alloc (.cells cs T)) W) :
    W.cell? ⟨w.heap.size, 0, none⟩ = some (vSl n.Ns) ∧ W.cell? ⟨w.heap.size, 1, none⟩ = some (vSl n.Ls) := by
  subst hB; subst hcs
  exact ⟨(hb.cell (p := ⟨w.heap.size, 0, none⟩) (by simp)).trans (by simp [go_sem]), (hb.cell (p := ⟨w.heap.size, 1, none⟩) (by simp)).trans (by simp [go_sem])⟩

set_option maxHeartbeats 1000000 in
theorem r26findNode_any (n : Net) (nm : ByteArray) (w : World) (hv : IsNds w (vSl n.Ns) n.Ns.xs) :
    Calls Tryz.prog 38 #[vNet n, .string nm] w fun e w' => e = .returned (.int .i64 (findNd n.Ns.xs nm)) ∧ Below w.heap.size w w' := by
  obtain ⟨⟨na, nc, nxs⟩, ls⟩ := n
  simp only at hv
  simp only [vNet]
  obtain ⟨a, cap, e0, hcap, hbig, hs⟩ := hv
  simp only [vSl, Value.slice.injEq] at e0
  obtain ⟨rfl, _, rfl⟩ := e0
  go_enter Tryz.func38, Tryz.ntmps38
  go_wp2_with fail
  go_loopw [5] (fun i wr => ∃ k : Nat, k ≤ nxs.length ∧ i = .int .i64 k ∧ Below (w.heap.size + 1) (w.alloc (.cells #[.slice na nxs.length nc, .slice ls.a ls.xs.length ls.cap] 25)) wr ∧ Hid (findNd nxs nm = idxFrom (fun x : Nd => strB x.Name nm) (nxs.drop k) k)) (fun i _ => nxs.length - (intOf i).toNat)
  case atStart => exact ⟨0, Nat.zero_le _, rfl, Below.refl _ _, rfl⟩
  case round =>
    obtain ⟨k, hk, rfl, hb, hm⟩ := hrel
    have hbw : Below w.heap.size w wr := ((Below.refl _ _).alloc (Nat.le_refl _) _).trans (hb.mono (by omega))
    obtain ⟨e0, e1⟩ := boxNet w wr 25 ⟨⟨na, nc, nxs⟩, ls⟩ _ rfl _ rfl hb
    simp only [vSl] at e0 e1
    by_cases hlt : k < nxs.length
    · obtain ⟨b, off, rfl, c0, c1, c2, c3, c4, c5, c6, c7, c8⟩ := (hs.mono hbw).nd k hlt
      have hd := Lib.hid (List.drop_eq_getElem_cons hlt)
      clear hs c1 c2 c3 c4 c5 c6 c7 c8
      generalize nxs[k] = x at *
      cases h : (x.Name.toList == nm.toList)
      · have HS : Hid (strB x.Name nm = false) := h
        go_wp2_with fail
        go_roundw
        case rel => exact ⟨k + 1, by omega, by go_num, hb, hm.out.trans (by rw [hd.out]; simp [idxFrom, HS.out])⟩
        case measure => simp [intOf]; omega
      · have HS : Hid (strB x.Name nm = true) := h
        go_wp2_with fail
        go_ret
        exact ⟨ret_int (by rw [hm.out, hd.out]; simp [idxFrom, HS.out]), by repeat' (first | exact Below.refl _ _ | assumption | refine Below.more ?_ ?_ _ | refine Below.alloc ?_ ?_ _ | refine Below.drew ?_ | refine below_drewN ?_ _ | refine Below.setCell ?_ ?_ _ | exact Below.size (by assumption) | (simp [go_sem, size_more]; done) | (simp [go_sem, size_more]; omega))⟩
    · go_wp2_with fail
      go_ret
      refine ⟨ret_int ?_, by repeat' (first | exact Below.refl _ _ | assumption | refine Below.more ?_ ?_ _ | refine Below.alloc ?_ ?_ _ | refine Below.drew ?_ | refine below_drewN ?_ _ | refine Below.setCell ?_ ?_ _ | exact Below.size (by assumption) | (simp [go_sem, size_more]; done) | (simp [go_sem, size_more]; omega))⟩
      rw [hm.out, List.drop_eq_nil_of_le (by omega)]; rfl

set_option maxHeartbeats 1000000 in
theorem r26findLink_any (n : Net) (nm : ByteArray) (w : World) (hv : IsLks w (vSl n.Ls) n.Ls.xs) :
    Calls Tryz.prog 42 #[vNet n, .string nm] w fun e w' => e = .returned (.int .i64 (findLk n.Ls.xs nm)) ∧ Below w.heap.size w w' := by
  obtain ⟨ns, ⟨na, nc, nxs⟩⟩ := n
  simp only at hv
  simp only [vNet]
  obtain ⟨a, cap, e0, hcap, hbig, hs⟩ := hv
  simp only [vSl, Value.slice.injEq] at e0
  obtain ⟨rfl, _, rfl⟩ := e0
  go_enter Tryz.func42, Tryz.ntmps42
  go_wp2_with fail
  go_loopw [5] (fun i wr => ∃ k : Nat, k ≤ nxs.length ∧ i = .int .i64 k ∧ Below (w.heap.size + 1) (w.alloc (.cells #[.slice ns.a ns.xs.length ns.cap, .slice na nxs.length nc] 25)) wr ∧ Hid (findLk nxs nm = idxFrom (fun x : Lk => strB x.Name nm) (nxs.drop k) k)) (fun i _ => nxs.length - (intOf i).toNat)
  case atStart => exact ⟨0, Nat.zero_le _, rfl, Below.refl _ _, rfl⟩
  case round =>
    obtain ⟨k, hk, rfl, hb, hm⟩ := hrel
    have hbw : Below w.heap.size w wr := ((Below.refl _ _).alloc (Nat.le_refl _) _).trans (hb.mono (by omega))
    obtain ⟨e0, e1⟩ := boxNet w wr 25 ⟨ns, ⟨na, nc, nxs⟩⟩ _ rfl _ rfl hb
    simp only [vSl] at e0 e1
    by_cases hlt : k < nxs.length
    · obtain ⟨b, off, rfl, c0, c1, c2, c3, c4, c5, c6, c7, c8, c9, c10⟩ := (hs.mono hbw).lk k hlt
      have hd := Lib.hid (List.drop_eq_getElem_cons hlt)
      clear hs c1 c2 c3 c4 c5 c6 c7 c8 c9 c10
      generalize nxs[k] = x at *
      cases h : (x.Name.toList == nm.toList)
      · have HS : Hid (strB x.Name nm = false) := h
        go_wp2_with fail
        go_roundw
        case rel => exact ⟨k + 1, by omega, by go_num, hb, hm.out.trans (by rw [hd.out]; simp [idxFrom, HS.out])⟩
        case measure => simp [intOf]; omega
      · have HS : Hid (strB x.Name nm = true) := h
        go_wp2_with fail
        go_ret
        exact ⟨ret_int (by rw [hm.out, hd.out]; simp [idxFrom, HS.out]), by repeat' (first | exact Below.refl _ _ | assumption | refine Below.more ?_ ?_ _ | refine Below.alloc ?_ ?_ _ | refine Below.drew ?_ | refine below_drewN ?_ _ | refine Below.setCell ?_ ?_ _ | exact Below.size (by assumption) | (simp [go_sem, size_more]; done) | (simp [go_sem, size_more]; omega))⟩
    · go_wp2_with fail
      go_ret
      refine ⟨ret_int ?_, by repeat' (first | exact Below.refl _ _ | assumption | refine Below.more ?_ ?_ _ | refine Below.alloc ?_ ?_ _ | refine Below.drew ?_ | refine below_drewN ?_ _ | refine Below.setCell ?_ ?_ _ | exact Below.size (by assumption) | (simp [go_sem, size_more]; done) | (simp [go_sem, size_more]; omega))⟩
      rw [hm.out, List.drop_eq_nil_of_le (by omega)]; rfl

end Go.Proofs.YtlcfnbnpkcjjlaaGreat
