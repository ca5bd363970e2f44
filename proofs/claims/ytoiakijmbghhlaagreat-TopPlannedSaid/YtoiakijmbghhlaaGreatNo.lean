/- rightNode. Conditions: the node reads as data. -/
import Derived.Test.YtoiakijmbghhlaaGreatNn
namespace Go.Proofs.YtoiakijmbghhlaaGreat
open Go.RowKit
set_option linter.unusedVariables false
set_option linter.unusedSimpArgs false

theorem lit_ints (W : World) (B : Nat) (hB : W.heap.size = B) (T : TypeId) (xs : List Int) (n : Nat) (hn : xs.length = n) (hn2 : n ≤ 9223372036854775807) (cs : Array Value) (hcs : cs = (xs.map fun n => .int .i64 n).toArray) : IsInts (W.alloc (.cells cs T)) (.slice (some ⟨B, 0, none⟩) n n) xs := by
  subst hB; subst hcs; subst hn
  exact isL_lit eInt 1 (fun _ => rfl) _ W.heap.size T _ xs xs.length xs.length (heap_alloc_new W _) rfl (by
    show xs.map _ = _
    clear hn2
    induction xs with
    | nil => rfl
    | cons x r ih => simp only [List.map_cons, List.flatMap_cons, ih]; rfl) (Nat.le_refl _) hn2

theorem boxC {α : Type} {enc : α → List Value} {k : Nat} (hk : ∀ x, (enc x).length = k) (w : World) (T : TypeId) (x : α) (cs : Array Value) (hcs : cs = (enc x).toArray) : IsC enc k (w.alloc (.cells cs T)) (some ⟨w.heap.size, 0, none⟩) [x] := by
  obtain ⟨a, c, e, _, _, h⟩ := (Own.fresh hk w w.heap.size (Nat.le_refl _) T x cs hcs).isL hk
  simp only [Value.slice.injEq] at e
  obtain ⟨rfl, _, _⟩ := e
  exact h

theorem IsC.ndAt {w : World} {b off : Nat} {xs : List Nd} (h : IsC eNd 9 w (some ⟨b, off, none⟩) xs) (i : Nat) (hi : i < xs.length) :
    w.cell? ⟨b, off + i * 9, none⟩ = some (.string xs[i].Name) ∧ w.cell? ⟨b, off + i * 9 + 1, none⟩ = some (.int .i64 xs[i].Kind) ∧
      w.cell? ⟨b, off + i * 9 + 2, none⟩ = some (.int .i64 xs[i].AX) ∧ w.cell? ⟨b, off + i * 9 + 3, none⟩ = some (.int .i64 xs[i].AY) ∧ w.cell? ⟨b, off + i * 9 + 4, none⟩ = some (.int .i64 xs[i].Inv) ∧
      w.cell? ⟨b, off + i * 9 + 5, none⟩ = some (.int .i64 xs[i].Gr) ∧ w.cell? ⟨b, off + i * 9 + 6, none⟩ = some (.slice xs[i].Sh.a xs[i].Sh.xs.length xs[i].Sh.cap) ∧ w.cell? ⟨b, off + i * 9 + 7, none⟩ = some (.bool xs[i].Pro) ∧
      w.cell? ⟨b, off + i * 9 + 8, none⟩ = some (.int .i64 xs[i].Res) := by
  obtain ⟨b', off', e, c⟩ := h.nd i hi
  simp only [Option.some.injEq, Addr.mk.injEq] at e
  obtain ⟨rfl, rfl, _⟩ := e
  exact c

theorem boxNd (w W : World) (T : TypeId) (x : Nd) (cs : Array Value) (hcs : cs = (eNd x).toArray) (B : Nat) (hB : B = w.heap.size + 1) (hb : Below B (w.alloc (.cells cs T)) W) :
    W.cell? ⟨w.heap.size, 0, none⟩ = some (.string x.Name) ∧ W.cell? ⟨w.heap.size, 1, none⟩ = some (.int .i64 x.Kind) ∧
      W.cell? ⟨w.heap.size, 2, none⟩ = some (.int .i64 x.AX) ∧ W.cell? ⟨w.heap.size, 3, none⟩ = some (.int .i64 x.AY) ∧ W.cell? ⟨w.heap.size, 4, none⟩ = some (.int .i64 x.Inv) ∧
      W.cell? ⟨w.heap.size, 5, none⟩ = some (.int .i64 x.Gr) ∧ W.cell? ⟨w.heap.size, 6, none⟩ = some (.slice x.Sh.a x.Sh.xs.length x.Sh.cap) ∧ W.cell? ⟨w.heap.size, 7, none⟩ = some (.bool x.Pro) ∧
      W.cell? ⟨w.heap.size, 8, none⟩ = some (.int .i64 x.Res) := by
  have h := ((boxC eNd_len w T x cs hcs).mono (w' := W) (by rw [hB] at hb; simpa using hb)).ndAt 0 (by simp)
  simpa using h

theorem ndB_of {x : Nd} (h1 : nameB x.Name = true) (h2 : posB x.AX = true) (h3 : posB x.AY = true) (h4 : lvlB x.Inv = true) (h5 : lvlB x.Gr = true) : ndB x = kindNdB x := by simp [ndB, h1, h2, h3, h4, h5]

set_option maxHeartbeats 4000000 in
theorem rightNode_any (x : Nd) (w : World) (hg : gNd w x) : Calls Tryz.prog 126 #[vNd x] w fun e w' => e = .returned (.bool (ndB x)) ∧ Below w.heap.size w w' := by
  obtain ⟨nm, kd, ax, ay, iv, gr, ⟨sa, scap, sxs⟩, pr, rs⟩ := x
  have hn := hg.name
  have hsh : IsKns w (.slice sa sxs.length scap) sxs := hg.sh.isL
  have gi := hg.inv
  have gg := hg.gr
  clear hg
  simp only at hn gi gg
  simp only [vNd]
  cases h1 : nameB nm
  · have HS : Hid (ndB ⟨nm, kd, ax, ay, iv, gr, ⟨sa, scap, sxs⟩, pr, rs⟩ = false) := by show _ = _; simp [ndB, h1]
    go_enter Tryz.func126, Tryz.ntmps126
    go_wp2_with (first | (go_at_call 183; refine (isName_any _ _ hn).mono ?_; rintro e w' ⟨rfl, rfl⟩) | (go_at_call 191; refine (between_any _ _ _ _).mono ?_; rintro e w' ⟨rfl, rfl⟩))
    go_ret
    exact ⟨ret_bool HS.out.symm, by repeat' (first | exact Below.refl _ _ | assumption | refine Below.more ?_ ?_ _ | refine Below.alloc ?_ ?_ _ | refine Below.drew ?_ | refine below_drewN ?_ _ | refine Below.setCell ?_ ?_ _ | exact Below.size (by assumption) | (simp [go_sem, size_more]; done) | (simp [go_sem, size_more]; omega))⟩
  cases h2 : posB ax
  · have HS : Hid (ndB ⟨nm, kd, ax, ay, iv, gr, ⟨sa, scap, sxs⟩, pr, rs⟩ = false) := by show _ = _; simp [ndB, h2]
    have p2 := (posB_btw ax).trans h2
    go_enter Tryz.func126, Tryz.ntmps126
    go_wp2_with (first | (go_at_call 183; refine (isName_any _ _ hn).mono ?_; rintro e w' ⟨rfl, rfl⟩) | (go_at_call 191; refine (between_any _ _ _ _).mono ?_; rintro e w' ⟨rfl, rfl⟩))
    go_ret
    exact ⟨ret_bool HS.out.symm, by repeat' (first | exact Below.refl _ _ | assumption | refine Below.more ?_ ?_ _ | refine Below.alloc ?_ ?_ _ | refine Below.drew ?_ | refine below_drewN ?_ _ | refine Below.setCell ?_ ?_ _ | exact Below.size (by assumption) | (simp [go_sem, size_more]; done) | (simp [go_sem, size_more]; omega))⟩
  have p2 := (posB_btw ax).trans h2
  cases h3 : posB ay
  · have HS : Hid (ndB ⟨nm, kd, ax, ay, iv, gr, ⟨sa, scap, sxs⟩, pr, rs⟩ = false) := by show _ = _; simp [ndB, h3]
    have p3 := (posB_btw ay).trans h3
    go_enter Tryz.func126, Tryz.ntmps126
    go_wp2_with (first | (go_at_call 183; refine (isName_any _ _ hn).mono ?_; rintro e w' ⟨rfl, rfl⟩) | (go_at_call 191; refine (between_any _ _ _ _).mono ?_; rintro e w' ⟨rfl, rfl⟩))
    go_ret
    exact ⟨ret_bool HS.out.symm, by repeat' (first | exact Below.refl _ _ | assumption | refine Below.more ?_ ?_ _ | refine Below.alloc ?_ ?_ _ | refine Below.drew ?_ | refine below_drewN ?_ _ | refine Below.setCell ?_ ?_ _ | exact Below.size (by assumption) | (simp [go_sem, size_more]; done) | (simp [go_sem, size_more]; omega))⟩
  have p3 := (posB_btw ay).trans h3
  go_enter Tryz.func126, Tryz.ntmps126
  go_wp2_with (first | (go_at_call 183; refine (isName_any _ _ hn).mono ?_; rintro e w' ⟨rfl, rfl⟩) | (go_at_call 191; refine (between_any _ _ _ _).mono ?_; rintro e w' ⟨rfl, rfl⟩))
  have hl := lit_ints (w.alloc (.cells #[.string nm, .int .i64 kd, .int .i64 ax, .int .i64 ay, .int .i64 iv, .int .i64 gr, .slice sa sxs.length scap, .bool pr, .int .i64 rs] 48)) (w.heap.size + 1) (by simp) 3 [iv, gr] 2 rfl (by omega) #[.int .i64 iv, .int .i64 gr] rfl
  refine Calls.to (level_any [iv, gr] _ _ hl) ?_
  rintro e w1 rfl hb1
  have hbx : Below (w.heap.size + 1) (w.alloc (.cells #[.string nm, .int .i64 kd, .int .i64 ax, .int .i64 ay, .int .i64 iv, .int .i64 gr, .slice sa sxs.length scap, .bool pr, .int .i64 rs] 48)) w1 := ((Below.refl _ _).alloc (by simp) _).trans (hb1.mono (by simp))
  have hbw : Below w.heap.size w w1 := ((Below.refl _ _).alloc (Nat.le_refl _) _).trans (hbx.mono (by omega))
  have hsh1 := hsh.mono hbw
  obtain ⟨c0, c1, c2, c3, c4, c5, c6, c7, c8⟩ := boxNd w w1 48 ⟨nm, kd, ax, ay, iv, gr, ⟨sa, scap, sxs⟩, pr, rs⟩ _ rfl _ rfl hbx
  simp only at c0 c1 c2 c3 c4 c5 c6 c7 c8
  clear hb1 hl hsh
  cases hL : [iv, gr].all lvlB
  · have HS : Hid (ndB ⟨nm, kd, ax, ay, iv, gr, ⟨sa, scap, sxs⟩, pr, rs⟩ = false) := by
      show _ = _
      simp at hL
      cases h4 : lvlB iv
      · simp [ndB, h4]
      · simp [ndB, hL h4]
    go_wp2_with fail
    go_ret
    exact ⟨ret_bool HS.out.symm, by repeat' (first | exact Below.refl _ _ | assumption | refine Below.more ?_ ?_ _ | refine Below.alloc ?_ ?_ _ | refine Below.drew ?_ | refine below_drewN ?_ _ | refine Below.setCell ?_ ?_ _ | exact Below.size (by assumption) | (simp [go_sem, size_more]; done) | (simp [go_sem, size_more]; omega))⟩
  simp only [List.all_cons, List.all_nil, Bool.and_true, Bool.and_eq_true] at hL
  have HS := Lib.hid (ndB_of (x := ⟨nm, kd, ax, ay, iv, gr, ⟨sa, scap, sxs⟩, pr, rs⟩) h1 h2 h3 hL.1 hL.2)
  have b4 : -4194304 ≤ iv ∧ iv ≤ 4194304 := by simpa [lvlB] using hL.1
  have b5 : -4194304 ≤ gr ∧ gr ≤ 4194304 := by simpa [lvlB] using hL.2
  have hL2 : (lvlB iv && lvlB gr) = true := by simp [hL.1, hL.2]
  clear h1 h2 h3 p2 p3
  by_cases k1 : kd = 1
  · subst k1
    by_cases g1 : gr ≤ iv
    · have q1 : decide (gr ≤ iv) = true := decide_eq_true g1
      have g2 : ¬ iv < gr := by omega
      have HK := Lib.hid (HS.out.trans (show kindNdB _ = false from by simp [kindNdB, g2]))
      go_wp2_with fail
      go_ret
      exact ⟨ret_bool HK.out.symm, by repeat' (first | exact Below.refl _ _ | assumption | refine Below.more ?_ ?_ _ | refine Below.alloc ?_ ?_ _ | refine Below.drew ?_ | refine below_drewN ?_ _ | refine Below.setCell ?_ ?_ _ | exact Below.size (by assumption) | (simp [go_sem, size_more]; done) | (simp [go_sem, size_more]; omega))⟩
    have q1 : decide (gr ≤ iv) = false := decide_eq_false g1
    have g2 : iv < gr := by omega
    go_wp2_with fail
    refine Calls.to (shaped_any sxs _ (gr - iv) _ hsh1) ?_
    rintro e w2 rfl hb2
    have hbx2 := hbx.trans (hb2.mono (by simpa using hbx.size))
    have hbw2 := hbw.trans (hb2.mono hbw.size)
    have hsh2 := hsh1.mono hb2
    obtain ⟨c0, c1, c2, c3, c4, c5, c6, c7, c8⟩ := boxNd w w2 48 ⟨nm, 1, ax, ay, iv, gr, ⟨sa, scap, sxs⟩, pr, rs⟩ _ rfl _ rfl hbx2
    simp only at c0 c1 c2 c3 c4 c5 c6 c7 c8
    clear hb2 hsh1 hbx hbw
    cases hS : shapeB sxs (gr - iv)
    · have HK := Lib.hid (HS.out.trans (show kindNdB _ = false from by simp [kindNdB, hS]))
      go_wp2_with fail
      go_ret
      exact ⟨ret_bool HK.out.symm, by repeat' (first | exact Below.refl _ _ | assumption | refine Below.more ?_ ?_ _ | refine Below.alloc ?_ ?_ _ | refine Below.drew ?_ | refine below_drewN ?_ _ | refine Below.setCell ?_ ?_ _ | exact Below.size (by assumption) | (simp [go_sem, size_more]; done) | (simp [go_sem, size_more]; omega))⟩
    have hS' := Lib.hid hS
    cases pr
    · by_cases r0 : rs = 0
      · have q3 := beqT r0
        have R0 := Lib.hid r0
        clear r0
        have HK := Lib.hid (HS.out.trans (show kindNdB _ = true from by simp [kindNdB, g2, hS, R0.out]))
        go_wp2_with fail
        go_ret
        exact ⟨ret_bool HK.out.symm, by repeat' (first | exact Below.refl _ _ | assumption | refine Below.more ?_ ?_ _ | refine Below.alloc ?_ ?_ _ | refine Below.drew ?_ | refine below_drewN ?_ _ | refine Below.setCell ?_ ?_ _ | exact Below.size (by assumption) | (simp [go_sem, size_more]; done) | (simp [go_sem, size_more]; omega))⟩
      · have q3 := beqF r0
        have R0 := Lib.hid r0
        clear r0
        have HK := Lib.hid (HS.out.trans (show kindNdB _ = false from by simp [kindNdB, g2, hS, R0.out]))
        go_wp2_with fail
        go_ret
        exact ⟨ret_bool HK.out.symm, by repeat' (first | exact Below.refl _ _ | assumption | refine Below.more ?_ ?_ _ | refine Below.alloc ?_ ?_ _ | refine Below.drew ?_ | refine below_drewN ?_ _ | refine Below.setCell ?_ ?_ _ | exact Below.size (by assumption) | (simp [go_sem, size_more]; done) | (simp [go_sem, size_more]; omega))⟩
    · have HK := Lib.hid (HS.out.trans (show kindNdB _ = false from by simp [kindNdB, g2, hS]))
      go_wp2_with fail
      go_ret
      exact ⟨ret_bool HK.out.symm, by repeat' (first | exact Below.refl _ _ | assumption | refine Below.more ?_ ?_ _ | refine Below.alloc ?_ ?_ _ | refine Below.drew ?_ | refine below_drewN ?_ _ | refine Below.setCell ?_ ?_ _ | exact Below.size (by assumption) | (simp [go_sem, size_more]; done) | (simp [go_sem, size_more]; omega))⟩
  by_cases k2 : kd = 2
  · subst k2
    by_cases g1 : gr ≤ iv
    · have q1 : decide (gr ≤ iv) = true := decide_eq_true g1
      have g2 : ¬ iv < gr := by omega
      have HK := Lib.hid (HS.out.trans (show kindNdB _ = false from by simp [kindNdB, g2]))
      go_wp2_with fail
      go_ret
      exact ⟨ret_bool HK.out.symm, by repeat' (first | exact Below.refl _ _ | assumption | refine Below.more ?_ ?_ _ | refine Below.alloc ?_ ?_ _ | refine Below.drew ?_ | refine below_drewN ?_ _ | refine Below.setCell ?_ ?_ _ | exact Below.size (by assumption) | (simp [go_sem, size_more]; done) | (simp [go_sem, size_more]; omega))⟩
    have q1 : decide (gr ≤ iv) = false := decide_eq_false g1
    have g2 : iv < gr := by omega
    go_wp2_with fail
    refine Calls.to (shaped_any sxs _ (gr - iv) _ hsh1) ?_
    rintro e w2 rfl hb2
    have hbx2 := hbx.trans (hb2.mono (by simpa using hbx.size))
    have hbw2 := hbw.trans (hb2.mono hbw.size)
    have hsh2 := hsh1.mono hb2
    obtain ⟨c0, c1, c2, c3, c4, c5, c6, c7, c8⟩ := boxNd w w2 48 ⟨nm, 2, ax, ay, iv, gr, ⟨sa, scap, sxs⟩, pr, rs⟩ _ rfl _ rfl hbx2
    simp only at c0 c1 c2 c3 c4 c5 c6 c7 c8
    clear hb2 hsh1 hbx hbw
    cases hS : shapeB sxs (gr - iv)
    · have HK := Lib.hid (HS.out.trans (show kindNdB _ = false from by simp [kindNdB, hS]))
      go_wp2_with fail
      go_ret
      exact ⟨ret_bool HK.out.symm, by repeat' (first | exact Below.refl _ _ | assumption | refine Below.more ?_ ?_ _ | refine Below.alloc ?_ ?_ _ | refine Below.drew ?_ | refine below_drewN ?_ _ | refine Below.setCell ?_ ?_ _ | exact Below.size (by assumption) | (simp [go_sem, size_more]; done) | (simp [go_sem, size_more]; omega))⟩
    have hS' := Lib.hid hS
    cases pr
    · by_cases r0 : rs = 0
      · have q3 := beqT r0
        have R0 := Lib.hid r0
        clear r0
        have HK := Lib.hid (HS.out.trans (show kindNdB _ = true from by simp [kindNdB, g2, hS, R0.out]))
        go_wp2_with fail
        go_ret
        exact ⟨ret_bool HK.out.symm, by repeat' (first | exact Below.refl _ _ | assumption | refine Below.more ?_ ?_ _ | refine Below.alloc ?_ ?_ _ | refine Below.drew ?_ | refine below_drewN ?_ _ | refine Below.setCell ?_ ?_ _ | exact Below.size (by assumption) | (simp [go_sem, size_more]; done) | (simp [go_sem, size_more]; omega))⟩
      · have q3 := beqF r0
        have R0 := Lib.hid r0
        clear r0
        have HK := Lib.hid (HS.out.trans (show kindNdB _ = false from by simp [kindNdB, g2, hS, R0.out]))
        go_wp2_with fail
        go_ret
        exact ⟨ret_bool HK.out.symm, by repeat' (first | exact Below.refl _ _ | assumption | refine Below.more ?_ ?_ _ | refine Below.alloc ?_ ?_ _ | refine Below.drew ?_ | refine below_drewN ?_ _ | refine Below.setCell ?_ ?_ _ | exact Below.size (by assumption) | (simp [go_sem, size_more]; done) | (simp [go_sem, size_more]; omega))⟩
    · obtain ⟨a0, cp, e0, hcap, hbig, hs2⟩ := hsh2
      simp only [Value.slice.injEq] at e0
      obtain ⟨rfl, _, rfl⟩ := e0
      have hlen := tabB_len (xs := sxs) (by simp only [shapeB, Bool.and_eq_true] at hS; exact hS.1.1.1)
      obtain ⟨b, off, rfl, d1, d2⟩ := hs2.kn (sxs.length - 1) (by omega)
      have HLK := Lib.hid (lastK_eq hlen.1)
      have HK := Lib.hid (HS.out.trans (show kindNdB _ = (decide (0 ≤ rs) && decide (rs ≤ (sxs[sxs.length - 1]'(by omega)).Y)) from by simp [kindNdB, g2, hS, HLK.out]))
      clear hs2 HLK
      generalize sxs[sxs.length - 1] = xl at *
      go_wp2_with fail
      have w1' : IntKind.i64.wrap ((sxs.length : Int) - 1) = (sxs.length : Int) - 1 := IntWalk.i64_in _ (by omega)
      have w2' : ((sxs.length : Int) - 1).toNat = sxs.length - 1 := by omega
      have w3' : 0 ≤ (sxs.length : Int) - 1 := by omega
      have w4' : (sxs.length : Int) - 1 < sxs.length := by omega
      go_quiet ((go_at_call 191; exact Calls.quiet_of_same (between_any _ _ _ _)))
      clear w1' w2' w3' w4'
      go_wp2_with fail
      go_ret
      exact ⟨ret_bool HK.out.symm, by repeat' (first | exact Below.refl _ _ | assumption | refine Below.more ?_ ?_ _ | refine Below.alloc ?_ ?_ _ | refine Below.drew ?_ | refine below_drewN ?_ _ | refine Below.setCell ?_ ?_ _ | exact Below.size (by assumption) | (simp [go_sem, size_more]; done) | (simp [go_sem, size_more]; omega))⟩
  have n1 := beqF k1
  have n2 := beqF k2
  by_cases k3 : kd = 3
  · subst k3
    clear k1 k2
    by_cases g1 : iv ≤ gr
    · have q1 : decide (iv ≤ gr) = true := decide_eq_true g1
      by_cases l0 : sxs.length = 0
      · have q2 : ((sxs.length : Int) == 0) = true := beqT (by omega)
        have L0 := Lib.hid l0
        clear l0
        cases pr
        · by_cases r0 : rs = 0
          · have q3 := beqT r0
            have R0 := Lib.hid r0
            clear r0
            have HK := Lib.hid (HS.out.trans (show kindNdB _ = true from by simp [kindNdB, g1, L0.out, R0.out]))
            go_wp2_with fail
            go_ret
            exact ⟨ret_bool HK.out.symm, by repeat' (first | exact Below.refl _ _ | assumption | refine Below.more ?_ ?_ _ | refine Below.alloc ?_ ?_ _ | refine Below.drew ?_ | refine below_drewN ?_ _ | refine Below.setCell ?_ ?_ _ | exact Below.size (by assumption) | (simp [go_sem, size_more]; done) | (simp [go_sem, size_more]; omega))⟩
          · have q3 := beqF r0
            have R0 := Lib.hid r0
            clear r0
            have HK := Lib.hid (HS.out.trans (show kindNdB _ = false from by simp [kindNdB, g1, L0.out, R0.out]))
            go_wp2_with fail
            go_ret
            exact ⟨ret_bool HK.out.symm, by repeat' (first | exact Below.refl _ _ | assumption | refine Below.more ?_ ?_ _ | refine Below.alloc ?_ ?_ _ | refine Below.drew ?_ | refine below_drewN ?_ _ | refine Below.setCell ?_ ?_ _ | exact Below.size (by assumption) | (simp [go_sem, size_more]; done) | (simp [go_sem, size_more]; omega))⟩
        · have HK := Lib.hid (HS.out.trans (show kindNdB _ = false from by simp [kindNdB, g1, L0.out]))
          go_wp2_with fail
          go_ret
          exact ⟨ret_bool HK.out.symm, by repeat' (first | exact Below.refl _ _ | assumption | refine Below.more ?_ ?_ _ | refine Below.alloc ?_ ?_ _ | refine Below.drew ?_ | refine below_drewN ?_ _ | refine Below.setCell ?_ ?_ _ | exact Below.size (by assumption) | (simp [go_sem, size_more]; done) | (simp [go_sem, size_more]; omega))⟩
      · have q2 : ((sxs.length : Int) == 0) = false := beqF (by omega)
        have L0 := Lib.hid l0
        clear l0
        have HK := Lib.hid (HS.out.trans (show kindNdB _ = false from by simp [kindNdB, g1, L0.out]))
        go_wp2_with fail
        go_ret
        exact ⟨ret_bool HK.out.symm, by repeat' (first | exact Below.refl _ _ | assumption | refine Below.more ?_ ?_ _ | refine Below.alloc ?_ ?_ _ | refine Below.drew ?_ | refine below_drewN ?_ _ | refine Below.setCell ?_ ?_ _ | exact Below.size (by assumption) | (simp [go_sem, size_more]; done) | (simp [go_sem, size_more]; omega))⟩
    · have q1 : decide (iv ≤ gr) = false := decide_eq_false g1
      have g1' : gr < iv := by omega
      have HK := Lib.hid (HS.out.trans (show kindNdB _ = false from by simp [kindNdB, Int.not_le.2 g1']))
      go_wp2_with fail
      go_ret
      exact ⟨ret_bool HK.out.symm, by repeat' (first | exact Below.refl _ _ | assumption | refine Below.more ?_ ?_ _ | refine Below.alloc ?_ ?_ _ | refine Below.drew ?_ | refine below_drewN ?_ _ | refine Below.setCell ?_ ?_ _ | exact Below.size (by assumption) | (simp [go_sem, size_more]; done) | (simp [go_sem, size_more]; omega))⟩
  · have n3 := beqF k3
    have K1 := Lib.hid k1
    have K2 := Lib.hid k2
    have K3 := Lib.hid k3
    clear k1 k2 k3
    have HK := Lib.hid (HS.out.trans (show kindNdB _ = false from by simp [kindNdB, K1.out, K2.out, K3.out]))
    go_wp2_with fail
    go_ret
    exact ⟨ret_bool HK.out.symm, by repeat' (first | exact Below.refl _ _ | assumption | refine Below.more ?_ ?_ _ | refine Below.alloc ?_ ?_ _ | refine Below.drew ?_ | refine below_drewN ?_ _ | refine Below.setCell ?_ ?_ _ | exact Below.size (by assumption) | (simp [go_sem, size_more]; done) | (simp [go_sem, size_more]; omega))⟩

end Go.Proofs.YtoiakijmbghhlaaGreat
