/- The reference's Of, Total on both sides. Conditions: none. -/
import Derived.Test.YtbkihndidbmhoaaOv11
namespace Go.Proofs.Ytbkihndidbmhoaa
open Go.RowKit
set_option linter.unusedVariables false
set_option linter.unusedSimpArgs false

def rofGo (node : Int) : List St → List Int → Option (List Int)
  | [], out => some out
  | s :: r, out => if node < 0 ∨ (s.P.xs.length : Int) ≤ node then none else if volOk (s.P.xs.getD node.toNat 0) = true then rofGo node r (out ++ [s.P.xs.getD node.toNat 0]) else none

def rofM (xs : List St) (node : Int) : List Ev × Int :=
  if 10000 < xs.length then ([], 4)
  else match rofGo node xs [] with
    | none => ([], 2)
    | some l => if bigGo 0 l = true then ([], 5) else (runsGo 1 l 0 [], 0)

set_option maxRecDepth 100000 in
set_option maxHeartbeats 4000000 in
theorem rof_any (xs : List St) (v : Value) (node : Int) (w : World) (hv : IsSts w v xs) (hg : ∀ x ∈ xs, gSt w x) :
    Calls Try.prog 23 #[v, .int .i64 node] w fun e w' => (∃ v', e = .returned (.tuple #[v', .int .i64 (rofM xs node).2]) ∧ Own w.heap.size 33 eEv 4 w' v' (rofM xs node).1) ∧ Below w.heap.size w w' := by
  obtain ⟨a, cap, rfl, hcap, hbig, hs⟩ := hv
  by_cases h1 : 10000 < xs.length
  · go_enter Try.func23, Try.ntmps23
    go_wp2_with fail
    go_ret2
    have hR : rofM xs node = ([], 4) := by simp [rofM, h1]
    rw [hR]
    exact ⟨⟨_, rfl, World.ownsRow_nil _ _ _ _⟩, Below.refl _ _⟩
  · have HG := Lib.hid hg
    clear hg
    go_enter Try.func23, Try.ntmps23
    go_wp2_with fail
    go_loopw [6, 7] (fun s6 s17 wr => ∃ (k : Nat) (out : List Int), k ≤ xs.length ∧ s17 = .int .i64 k ∧ out.length = k ∧ Own w.heap.size 3 eInt 1 wr s6 out ∧ Below w.heap.size w wr ∧ Hid (rofGo node xs [] = rofGo node (xs.drop k) out)) (fun _ i _ => xs.length - (intOf i).toNat)
    case atStart => exact ⟨0, [], Nat.zero_le _, rfl, rfl, World.ownsRow_nil _ _ _ _, Below.refl _ _, rfl⟩
    case round =>
      obtain ⟨k, out, hk, rfl, hol, hown, hb, hm⟩ := hrel
      have hol' := Lib.hid hol
      have hlo : out.length < 2147483648 := by omega
      have hsz := hb.size
      clear hol
      by_cases hlt : k < xs.length
      · obtain ⟨b, off, rfl, c0, c1, c2, c3⟩ := (hs.mono hb).st k hlt
        have hblt := World.block_lt_of_cell? _ _ c1
        have hgk := ((HG.out _ (List.getElem_mem hlt)).2.1).later hb
        have hdrop : Hid (xs.drop k = xs[k] :: xs.drop (k + 1)) := List.drop_eq_getElem_cons hlt
        clear hs
        generalize xs[k] = x at *
        obtain ⟨V, ⟨aP, cP, P⟩, S, O⟩ := x
        obtain ⟨q1, q2, q3, q4⟩ := hgk
        simp only at q1 q2 q3 q4 c1
        by_cases hn : node < 0 ∨ (P.length : Int) ≤ node
        · have hR : rofM xs node = ([], 2) := by simp [rofM, h1, hm.out, hdrop.out, rofGo, hn]
          have HR := Lib.hid hR
          clear hR
          by_cases hn0 : node < 0
          all_goals
            go_wp2_with fail
            go_ret2
            rw [HR.out]
            exact ⟨⟨_, rfl, World.ownsRow_nil _ _ _ _⟩, by repeat' (first | exact Below.refl _ _ | assumption | refine Below.more ?_ ?_ _ | refine Below.alloc ?_ ?_ _ | refine Below.drew ?_ | refine below_drewN ?_ _ | refine Below.setCell ?_ ?_ _ | exact Below.size (by assumption) | (simp [go_sem, size_more]; done) | (simp [go_sem, size_more]; omega))⟩
        · obtain ⟨i, rfl⟩ : ∃ i : Nat, node = i := ⟨node.toNat, by omega⟩
          have hi : i < P.length := by omega
          obtain ⟨b2, off2, rfl, d0⟩ := q3.int i hi
          have hblt2 := World.block_lt_of_cell? _ _ d0
          have hstep : Hid (rofGo i xs [] = if volOk P[i] = true then rofGo i (xs.drop (k + 1)) (out ++ [P[i]]) else none) := by
            show _ = _
            rw [hm.out, hdrop.out, rofGo, if_neg hn]
            simp [List.getD, List.getElem?_eq_getElem hi]
          clear hn
          generalize P[i] = y at *
          cases hy : volOk y
          · have hR : rofM xs i = ([], 2) := by simp [rofM, h1, hstep.out, hy]
            have HR := Lib.hid hR
            have HY := Lib.hid hy
            clear hR hy
            go_wp2_with fail
            refine Calls.to (rvol_any y _) ?_
            rintro e w1 rfl hb1
            rw [HY.out]
            have hbb1 := hb.trans (hb1.mono hb.size)
            go_wp2_with fail
            go_ret2
            rw [HR.out]
            exact ⟨⟨_, rfl, World.ownsRow_nil _ _ _ _⟩, hbb1⟩
          · have HY := Lib.hid hy
            clear hy
            go_wp2_with fail
            refine Calls.to (rvol_any y _) ?_
            rintro e w1 rfl hb1
            rw [HY.out]
            have hbb1 := hb.trans (hb1.mono hb.size)
            have c1' : w1.cell? ⟨b, off + k * 4 + 1, none⟩ = some (.slice (some ⟨b2, off2, none⟩) P.length cP) := by rw [hb1.cell (by exact hblt)]; exact c1
            have d0' : w1.cell? ⟨b2, off2 + i, none⟩ = some (.int .i64 y) := by rw [hb1.cell (by exact hblt2)]; exact d0
            have hown1 := hown.below hb1
            have hsz1 := hb1.size
            clear c1 d0 hb1 hown
            go_wp2_with (at_builtin; go_must (refine wpList_push rfl _ _ 22 rfl 3 _ 1 8 undInts infInt rfl (by decide) y (fun _ => rfl) (by simp [Value.oneCell']) _ out rfl hown1 rfl hlo (by decide) (by omega) _ rfl ?_); intro g3 cap3 w2 hown2 hbg2 hgl2 hb2 hc21 hc22)
            have hbb2 := hbb1.trans hb2
            go_wp2_with fail
            go_roundw
            case measure => simp [intOf]; omega
            case rel => exact ⟨k + 1, _, by omega, by go_num, by rw [List.length_append, hol'.out]; rfl, hown2, hbb2, by show _ = _; rw [hstep.out, HY.out]; simp⟩
      · have h2 := hm.out
        rw [List.drop_eq_nil_of_le (by omega)] at h2
        have H2 := Lib.hid h2
        have hI := hown.isL (fun _ => rfl)
        clear h2
        cases h4 : bigGo 0 out
        all_goals
          have H4 := Lib.hid h4
          clear h4
          go_wp2_with fail
          refine Calls.to (rbig_any out _ _ hI) ?_
          rintro e w2 rfl hb2
          rw [H4.out]
          have hbb := hb.trans (hb2.mono hb.size)
          go_wp2_with fail
        · refine Calls.mono (runs_any out _ 1 _ (hI.mono hb2) (by have := hol'.out; omega)) ?_
          rintro e w3 ⟨⟨v', rfl, hown3⟩, hb3⟩
          go_wp2_with fail
          go_ret2
          have hR : rofM xs node = (runsGo 1 out 0 [], 0) := by simp [rofM, h1, H2.out, rofGo, H4.out]
          rw [hR]
          exact ⟨⟨v', rfl, hown3.base hbb.size⟩, hbb.trans (hb3.mono hbb.size)⟩
        · go_ret2
          have hR : rofM xs node = ([], 5) := by simp [rofM, h1, H2.out, rofGo, H4.out]
          rw [hR]
          exact ⟨⟨_, rfl, World.ownsRow_nil _ _ _ _⟩, hbb⟩

def wsum (s : Int) : List Int → Int
  | [] => s
  | v :: r => wsum (wrap64 (s + v)) r

/-- 'Total', from state k on. -/
def totalGo (g at' : Int) : Nat → List St → Int × Int × Int
  | _, [] => if g < 0 then (0, 0, 14) else (g, at', 0)
  | k, s :: r => if s.P.xs.any volBad = true then (0, 0, 2) else if g < wsum 0 s.P.xs then totalGo (wsum 0 s.P.xs) k (k + 1) r else totalGo g at' (k + 1) r

def totalM (xs : List St) : Int × Int × Int :=
  if 10000 < xs.length ∨ (xs.any fun s => decide (300 < (s.P.xs.length : Int))) = true then (0, 0, 4) else totalGo (-1) 0 0 xs

def TotIs (t : Int × Int × Int) (e : Ending) : Prop := e = .returned (.tuple #[.int .i64 t.1, .int .i64 t.2.1, .int .i64 t.2.2])

set_option maxRecDepth 100000 in
set_option maxHeartbeats 4000000 in
theorem total_any (xs : List St) (v : Value) (w : World) (hv : IsSts w v xs) (hg : ∀ x ∈ xs, gSt w x) :
    Calls Try.prog 22 #[v] w fun e w' => TotIs (totalM xs) e ∧ Below w.heap.size w w' := by
  have hv' := hv
  obtain ⟨a, cap, rfl, hcap, hbig, hs⟩ := hv
  by_cases h1 : 10000 < xs.length
  · have d1 : decide (10000 < xs.length) = true := by simpa using h1
    go_enter Try.func22, Try.ntmps22
    go_wp2_with fail
    go_ret3
    exact ⟨by simp [TotIs, totalM, h1], Below.refl _ _⟩
  · have d1 : decide (10000 < xs.length) = false := by simpa using h1
    have HG := Lib.hid hg
    clear hg
    cases h2 : xs.any fun s => decide (300 < (s.P.xs.length : Int))
    · have H2 := Lib.hid h2
      have HT : Hid (totalM xs = totalGo (-1) 0 0 xs) := by
        show _ = _
        unfold totalM
        rw [if_neg]
        rintro (h | h)
        · exact h1 h
        · rw [h2] at h; cases h
      clear h2
      go_enter Try.func22, Try.ntmps22
      go_wp2_with fail
      refine Calls.to (containsSts 48 #[] ent48 _ xs _ w hv' (fun W _ x _ => total1 x W)) ?_
      rintro e w1 rfl hb1
      rw [H2.out]
      go_wp2_with fail
      go_loopw [5, 6, 22] (fun s5 s6 s22 wr => ∃ (k : Nat) (g t : Int), k ≤ xs.length ∧ s22 = .int .i64 k ∧ s5 = .int .i64 g ∧ s6 = .int .i64 t ∧ Below w.heap.size w wr ∧ Hid (totalGo (-1) 0 0 xs = totalGo g t k (xs.drop k))) (fun _ _ i _ => xs.length - (intOf i).toNat)
      case atStart => exact ⟨0, -1, 0, Nat.zero_le _, rfl, rfl, rfl, hb1, rfl⟩
      case round =>
        obtain ⟨k, g, t, hk, rfl, rfl, rfl, hb, hm⟩ := hrel
        have hsz := hb.size
        by_cases hlt : k < xs.length
        · obtain ⟨b, off, rfl, c0, c1, c2, c3⟩ := (hs.mono hb).st k hlt
          have hgk := ((HG.out _ (List.getElem_mem hlt)).2.1).later hb
          have hdrop : Hid (xs.drop k = xs[k] :: xs.drop (k + 1)) := List.drop_eq_getElem_cons hlt
          clear hs hv'
          generalize xs[k] = x at *
          obtain ⟨V, ⟨aP, cP, P⟩, S, O⟩ := x
          obtain ⟨q1, q2, q3, q4⟩ := hgk
          simp only at q1 q2 q3 q4 c0 c1 c2 c3
          have hstep : Hid (totalGo (-1) 0 0 xs = if P.any volBad = true then (0, 0, 2) else if g < wsum 0 P then totalGo (wsum 0 P) k (k + 1) (xs.drop (k + 1)) else totalGo g t (k + 1) (xs.drop (k + 1))) := by
            show _ = _
            rw [hm.out, hdrop.out, totalGo]
          have hbx : Below wr.heap.size wr (wr.alloc (.cells #[vSl V, .slice aP P.length cP, vSl S, vSl O] 87)) := (Below.refl _ _).alloc (Nat.le_refl _) _
          have hI : IsInts (wr.alloc (.cells #[vSl V, .slice aP P.length cP, vSl S, vSl O] 87)) (.slice aP P.length cP) P := ⟨aP, cP, rfl, q1, q2, q3.mono hbx⟩
          cases hbad : P.any volBad
          · have HB := Lib.hid hbad
            clear hbad
            go_wp2_with fail
            refine Calls.to (volumes_any P _ _ hI) ?_
            rintro e w2 rfl hb2
            rw [HB.out]
            have hb2' := hbx.trans (hb2.mono hbx.size)
            have hbb2 := hb.trans (hb2'.mono hb.size)
            have e1 : w2.cell? ⟨wr.heap.size, 1, none⟩ = some (.slice aP P.length cP) := by
              rw [hb2.cell (by simp), World.cell?_alloc_new]; rfl
            have q3' := q3.mono hb2'
            clear hb2 hI hbx
            go_wp2_with fail
            go_loop [10, 36] (fun s i => ∃ (j : Nat) (sm : Int), j ≤ P.length ∧ i = .int .i64 j ∧ s = .int .i64 sm ∧ Hid (wsum 0 P = wsum sm (P.drop j))) (fun _ i => P.length - (intOf i).toNat)
            case atStart => exact ⟨0, 0, Nat.zero_le _, rfl, rfl, rfl⟩
            case round =>
              obtain ⟨j, sm, hj, rfl, rfl, hw⟩ := hrel
              by_cases hjl : j < P.length
              · obtain ⟨b2, off2, rfl, d0⟩ := q3'.int j hjl
                have hd2 : Hid (P.drop j = P[j] :: P.drop (j + 1)) := List.drop_eq_getElem_cons hjl
                generalize P[j] = y at *
                go_wp2_with fail
                go_round
                case measure => simp [intOf]; omega
                case rel => exact ⟨j + 1, _, by omega, by go_num, rfl, hw.out.trans (by rw [hd2.out, wsum])⟩
              · have hw' := hw.out
                rw [List.drop_eq_nil_of_le (by omega)] at hw'
                simp only [wsum] at hw'
                have HW := Lib.hid hw'
                clear hw'
                by_cases hgs : g < sm
                all_goals
                  have HGS := Lib.hid hgs
                  go_wp2_with fail
                  go_roundw
                  case measure => simp [intOf]; omega
                · exact ⟨k + 1, _, _, by omega, by go_num, rfl, rfl, hbb2, by show _ = _; rw [hstep.out, HB.out, HW.out]; simp only [HGS.out, Bool.false_eq_true, if_true, if_false]⟩
                · exact ⟨k + 1, _, _, by omega, by go_num, rfl, rfl, hbb2, by show _ = _; rw [hstep.out, HB.out, HW.out]; simp only [HGS.out, Bool.false_eq_true, if_true, if_false]⟩
          · have HB := Lib.hid hbad
            clear hbad
            go_wp2_with fail
            refine Calls.to (volumes_any P _ _ hI) ?_
            rintro e w2 rfl hb2
            rw [HB.out]
            have hb2' := hbx.trans (hb2.mono hbx.size)
            have hbb2 := hb.trans (hb2'.mono hb.size)
            go_wp2_with fail
            go_ret3
            exact ⟨by simp [TotIs, HT.out, hstep.out, HB.out], hbb2⟩
        · have h3 := hm.out
          rw [List.drop_eq_nil_of_le (by omega), totalGo] at h3
          have H3 := Lib.hid h3
          clear h3
          by_cases hg0 : g < 0
          · have hT : totalM xs = (0, 0, 14) := by rw [HT.out, H3.out, if_pos hg0]
            have HTT := Lib.hid hT
            clear hT
            go_wp2_with fail
            go_ret3
            exact ⟨by simp [TotIs, HTT.out], hb⟩
          · have hT : totalM xs = (g, t, 0) := by rw [HT.out, H3.out, if_neg hg0]
            have HTT := Lib.hid hT
            clear hT
            go_wp2_with fail
            go_ret3
            exact ⟨by simp [TotIs, HTT.out], hb⟩
    · have H2 := Lib.hid h2
      clear h2
      go_enter Try.func22, Try.ntmps22
      go_wp2_with fail
      refine Calls.to (containsSts 48 #[] ent48 _ xs _ w hv' (fun W _ x _ => total1 x W)) ?_
      rintro e w1 rfl hb1
      rw [H2.out]
      go_wp2_with fail
      go_ret3
      exact ⟨by have hq : totalM xs = (0, 0, 4) := (by unfold totalM; rw [if_pos (.inr H2.out)]); simp [TotIs, hq], hb1⟩

end Go.Proofs.Ytbkihndidbmhoaa
