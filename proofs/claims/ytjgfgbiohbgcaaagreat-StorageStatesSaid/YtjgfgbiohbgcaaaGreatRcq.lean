/- A copy of a state: the reference's Copy, walked. Conditions: the argument reads as data, its lists have at most a million elements. -/
import Derived.Test.YtjgfgbiohbgcaaaGreatMrc
namespace Go.Proofs.YtjgfgbiohbgcaaaGreat
open Go.RowKit
set_option linter.unusedVariables false
set_option linter.unusedSimpArgs false


theorem set4_bel {w W : World} {B : Nat} (h : Below w.heap.size w W) (hB : w.heap.size ≤ B) (u0 u1 u2 u3 : Value) : Below w.heap.size w (set4 W B u0 u1 u2 u3) :=
  (((h.setCell (p := ⟨B, 0, none⟩) hB u0).setCell (p := ⟨B, 1, none⟩) hB u1).setCell (p := ⟨B, 2, none⟩) hB u2).setCell (p := ⟨B, 3, none⟩) hB u3
theorem RowN.set4 {α : Type} {W : World} {lo hi : Nat} {e : TypeId} {enc : α → List Value} {k : Nat} {v : Value} {xs : List α} (h : RowN W lo hi e enc k v xs) {B : Nat} (hB : B < lo) (u0 u1 u2 u3 : Value) : RowN (set4 W B u0 u1 u2 u3) lo hi e enc k v xs :=
  (((h.set ⟨B, 0, none⟩ u0 (.inl hB)).set ⟨B, 1, none⟩ u1 (.inl hB)).set ⟨B, 2, none⟩ u2 (.inl hB)).set ⟨B, 3, none⟩ u3 (.inl hB)

/-- What a copy is. -/
structure Copied (w W : World) (s : St) (uV uP uS uO : Value) (lV hV lP hP lS hS lO hO : Nat) : Prop where
  V : RowN W lV hV 3 eInt 1 uV s.V.xs
  P : RowN W lP hP 3 eInt 1 uP s.P.xs
  S : RowN W lS hS 3 eInt 1 uS s.S.xs
  O : RowN W lO hO 4 eBool 1 uO s.O.xs
  b0 : w.heap.size ≤ lV
  b1 : lV ≤ hV
  b2 : hV ≤ lP
  b3 : lP ≤ hP
  b4 : hP ≤ lS
  b5 : lS ≤ hS
  b6 : hS ≤ lO
  b7 : lO ≤ hO
  b8 : hO ≤ W.heap.size

set_option maxRecDepth 100000 in
set_option maxHeartbeats 8000000 in
theorem r29copy_any (s : St) (w : World) (hgs : gSt w s) (hl0 : s.V.xs.length ≤ 1000000) (hl1 : s.P.xs.length ≤ 1000000) (hl2 : s.S.xs.length ≤ 1000000) (hl3 : s.O.xs.length ≤ 1000000) : Calls Tryz.prog 63 #[vSt s] w fun e w' =>
    (∃ uV uP uS uO lV hV lP hP lS hS lO hO, e = .returned (.agg #[uV, uP, uS, uO]) ∧ Copied w w' s uV uP uS uO lV hV lP hP lS hS lO hO) ∧ Below w.heap.size w w' := by
  have hbw : Below w.heap.size w ((w.alloc (.cells (eSt s).toArray 54)).alloc (.cells #[.slice none 0 0, .slice none 0 0, .slice none 0 0, .slice none 0 0] 54)) := ((Below.refl _ _).alloc (Nat.le_refl _) _).alloc (by simp) _
  have HB := Lib.hid ((StBx.new w s 54).mono (alloc_below _ (.cells #[.slice none 0 0, .slice none 0 0, .slice none 0 0, .slice none 0 0] 54)))
  have HO : Hid (OutBx ((w.alloc (.cells (eSt s).toArray 54)).alloc (.cells #[.slice none 0 0, .slice none 0 0, .slice none 0 0, .slice none 0 0] 54)) (w.heap.size + 1) nilSt) := by
    have h := OutBx.new (w.alloc (.cells (eSt s).toArray 54)) nilSt 54
    rw [show (w.alloc (.cells (eSt s).toArray 54)).heap.size = w.heap.size + 1 from by simp] at h
    exact Lib.hid h
  go_enter Tryz.func63, Tryz.ntmps63
  go_wp2_with fail
  generalize hwm : ((w.alloc (.cells (eSt s).toArray 54)).alloc (.cells #[.slice none 0 0, .slice none 0 0, .slice none 0 0, .slice none 0 0] 54)) = wm at *
  have HB := Lib.hid HB.out
  have HO := Lib.hid HO.out
  clear hwm
  refine wp_region_inv (cpI wm (vSt s) w.heap.size (w.heap.size + 1) s) (by kernel_rfl) (by kernel_rfl) (fun l a W h => h.1) ?step ?fin ?start
  case start =>
    refine ⟨by simp, fun _ => undef, fun _ => 0, fun _ => 0, _, rfl, Below.drew (Below.refl _ _), fun j hj h => ?_, .inl ⟨by simp, rfl⟩⟩
    exfalso
    simp [Array.getD] at h
  case fin =>
    intro l a W hI hall
    obtain ⟨hz, y, lo, hi, W0, rfl, hb, hF, h17⟩ := hI
    have h17l := hall 17 (by decide)
    rcases h17 with ⟨h, _⟩ | ⟨_, h2, rfl⟩
    · rw [h17l] at h; cases h
    · have g3 := hF 3 (by omega) (h2 3 (by omega))
      have g7 := hF 7 (by omega) (h2 7 (by omega))
      have g11 := hF 11 (by omega) (h2 11 (by omega))
      have g15 := hF 15 (by omega) (h2 15 (by omega))
      have hol := HO.out.lt
      obtain ⟨⟨o0, o1, o2, o3⟩, of⟩ := HO.out.mono hb
      have q0 : (set4 W0 (w.heap.size + 1) (y 6) (y 10) (y 14) (y 18)).cell? ⟨w.heap.size + 1, 0, none⟩ = some (y 6) := by simp [set4, go_sem, o0]
      have q1 : (set4 W0 (w.heap.size + 1) (y 6) (y 10) (y 14) (y 18)).cell? ⟨w.heap.size + 1, 1, none⟩ = some (y 10) := by simp [set4, go_sem, o1]
      have q2 : (set4 W0 (w.heap.size + 1) (y 6) (y 10) (y 14) (y 18)).cell? ⟨w.heap.size + 1, 2, none⟩ = some (y 14) := by simp [set4, go_sem, o2]
      have q3 : (set4 W0 (w.heap.size + 1) (y 6) (y 10) (y 14) (y 18)).cell? ⟨w.heap.size + 1, 3, none⟩ = some (y 18) := by simp [set4, go_sem, o3]
      have hbf : Below w.heap.size w (set4 W0 (w.heap.size + 1) (y 6) (y 10) (y 14) (y 18)) := set4_bel (hbw.trans (hb.mono hbw.size)) (by omega) _ _ _ _
      have hcp : Copied w (set4 W0 (w.heap.size + 1) (y 6) (y 10) (y 14) (y 18)) s (y 6) (y 10) (y 14) (y 18) (lo 0) (hi 0) (lo 1) (hi 1) (lo 2) (hi 2) (lo 3) (hi 3) := by
        obtain ⟨r0, r1, r2, r3⟩ := g3
        obtain ⟨_, s0, s1, s2, s3⟩ := g7
        obtain ⟨_, t0, t1, t2, t3⟩ := g11
        obtain ⟨_, u0, u1, u2, u3⟩ := g15
        have hwz := hbw.size
        exact ⟨r0.set4 (by omega) _ _ _ _, s0.set4 (by omega) _ _ _ _, t0.set4 (by omega) _ _ _ _, u0.set4 (by omega) _ _ _ _, by omega, r2, s1, s2, t1, t2, u1, u2, by simp [set4, World.setCell]; exact u3⟩
      clear g3 g7 g11 g15 o0 o1 o2 o3 of hF h2 hall hol
      generalize set4 W0 (w.heap.size + 1) (y 6) (y 10) (y 14) (y 18) = WF at *
      go_wp2_with fail
      exact bodyPost_ret (v := .agg #[y 6, y 10, y 14, y 18]) (by simp (maxDischargeDepth := 9) [results, Tryz.results63, go_sem, q0, q1, q2, q3]) rfl ⟨⟨_, _, _, _, _, _, _, _, _, _, _, _, rfl, hcp⟩, hbf⟩
  case step =>
  intro l a W i o hI ho hun hdeps
  obtain ⟨hz, y, lo, hi, W0, rfl, hb, hF, h17o⟩ := hI
  have hi18 : i < 18 := (Array.getElem?_eq_some_iff.1 ho).1
  have h17' : l.getD 17 false = false ∧ W = W0 := by
    rcases h17o with h | ⟨h1, h2, _⟩
    · exact h
    · exfalso
      rw [getD_tf (by omega)] at hun
      by_cases h : i = 17
      · subst h; rw [h1] at hun; cases hun
      · rw [h2 i (by omega)] at hun; cases hun
  obtain ⟨h17, hWW⟩ := h17'
  subst W
  clear h17o
  obtain ⟨c0, c1, c2, c3⟩ := HB.out.mono hb
  simp only [vSl] at c0 c1 c2 c3
  rcases (show i = 0 ∨ i = 1 ∨ i = 2 ∨ i = 3 ∨ i = 4 ∨ i = 5 ∨ i = 6 ∨ i = 7 ∨ i = 8 ∨ i = 9 ∨ i = 10 ∨ i = 11 ∨ i = 12 ∨ i = 13 ∨ i = 14 ∨ i = 15 ∨ i = 16 ∨ i = 17 by omega) with rfl | rfl | rfl | rfl | rfl | rfl | rfl | rfl | rfl | rfl | rfl | rfl | rfl | rfl | rfl | rfl | rfl | rfl
  · refine wpOp_step rfl (fun K hK => ?_)
    rw [if_pos (by rfl)]
    go_simp
    exact hK _ _ (cp_next hz hb hF h17 (by omega) hun _ lo hi rfl (alloc_below _ _) (fun _ _ => ⟨rfl, rfl⟩) (Emp.new _ _))
  · refine wpOp_step rfl (fun K hK => ?_)
    rw [if_pos (by rfl)]
    go_simp
    exact hK _ _ (cp_next hz hb hF h17 (by omega) hun _ lo hi rfl (Below.refl _ _) (fun _ _ => ⟨rfl, rfl⟩) rfl)
  · obtain rfl := Option.some.inj (show some _ = some o from ho)
    have e := hF 1 (by omega) (hdeps ⟨1, .data⟩ (by simp) rfl)
    change y 4 = _ at e
    refine wpOp_step rfl (fun K hK => ?_)
    rw [if_pos (by rfl)]
    go_simp
    refine hK _ _ (cp_next hz hb hF h17 (by omega) hun (vSl s.V) lo hi ?_ (Below.refl _ _) (fun _ _ => ⟨rfl, rfl⟩) rfl)
    first | rfl | simp [cpA, updV, e]
  · obtain rfl := Option.some.inj (show some _ = some o from ho)
    obtain ⟨g, e0, hg⟩ := hF 0 (by omega) (hdeps ⟨0, .data⟩ (by simp) rfl)
    have e2 := hF 2 (by omega) (hdeps ⟨2, .data⟩ (by simp) rfl)
    refine wpOp_step rfl (fun K hK => ?_)
    rw [if_pos (by rfl)]
    refine wp_append_empty W0 _ _ 43 rfl 3 _ 1 8 undInts infInt rfl (by decide) (by decide) g hg (fun _ => rfl) (by simp [Value.oneCell']) _ _ s.V.xs (hgs.1.2.2.1.mono (hbw.trans (hb.mono hbw.size))) (by assumption) e0 e2 ?_
    intro v' w' hbel hrow
    refine hK _ _ (cp_next hz hb hF h17 (by omega) hun v' (updV lo 0 W0.heap.size) (updV hi 0 w'.heap.size) rfl hbel (fun r hr => ?_) ?_)
    · simp only [updV]; constructor <;> rw [if_neg (by omega)]
    · exact ⟨hrow, hb.size, hbel.size, Nat.le_refl _⟩
  · refine wpOp_step rfl (fun K hK => ?_)
    rw [if_pos (by rfl)]
    go_simp
    exact hK _ _ (cp_next hz hb hF h17 (by omega) hun _ lo hi rfl (alloc_below _ _) (fun _ _ => ⟨rfl, rfl⟩) (Emp.new _ _))
  · refine wpOp_step rfl (fun K hK => ?_)
    rw [if_pos (by rfl)]
    go_simp
    exact hK _ _ (cp_next hz hb hF h17 (by omega) hun _ lo hi rfl (Below.refl _ _) (fun _ _ => ⟨rfl, rfl⟩) rfl)
  · obtain rfl := Option.some.inj (show some _ = some o from ho)
    have e := hF 5 (by omega) (hdeps ⟨5, .data⟩ (by simp) rfl)
    change y 8 = _ at e
    refine wpOp_step rfl (fun K hK => ?_)
    rw [if_pos (by rfl)]
    go_simp
    refine hK _ _ (cp_next hz hb hF h17 (by omega) hun (vSl s.P) lo hi ?_ (Below.refl _ _) (fun _ _ => ⟨rfl, rfl⟩) rfl)
    first | rfl | simp [cpA, updV, e]
  · obtain rfl := Option.some.inj (show some _ = some o from ho)
    obtain ⟨g, e0, hg⟩ := hF 4 (by omega) (hdeps ⟨4, .data⟩ (by simp) rfl)
    have e2 := hF 6 (by omega) (hdeps ⟨6, .data⟩ (by simp) rfl)
    refine wpOp_step rfl (fun K hK => ?_)
    rw [if_pos (by rfl)]
    refine wp_append_empty W0 _ _ 43 rfl 3 _ 1 8 undInts infInt rfl (by decide) (by decide) g hg (fun _ => rfl) (by simp [Value.oneCell']) _ _ s.P.xs (hgs.2.1.2.2.1.mono (hbw.trans (hb.mono hbw.size))) (by assumption) e0 e2 ?_
    intro v' w' hbel hrow
    refine hK _ _ (cp_next hz hb hF h17 (by omega) hun v' (updV lo 1 W0.heap.size) (updV hi 1 w'.heap.size) rfl hbel (fun r hr => ?_) ?_)
    · simp only [updV]; constructor <;> rw [if_neg (by omega)]
    · have d := hdeps ⟨3, .chain⟩ (by simp) rfl
      exact ⟨by rw [getD_setF (by decide)]; exact d, hrow, (hF 3 (by omega) d).2.2.2, hbel.size, Nat.le_refl _⟩
  · refine wpOp_step rfl (fun K hK => ?_)
    rw [if_pos (by rfl)]
    go_simp
    exact hK _ _ (cp_next hz hb hF h17 (by omega) hun _ lo hi rfl (alloc_below _ _) (fun _ _ => ⟨rfl, rfl⟩) (Emp.new _ _))
  · refine wpOp_step rfl (fun K hK => ?_)
    rw [if_pos (by rfl)]
    go_simp
    exact hK _ _ (cp_next hz hb hF h17 (by omega) hun _ lo hi rfl (Below.refl _ _) (fun _ _ => ⟨rfl, rfl⟩) rfl)
  · obtain rfl := Option.some.inj (show some _ = some o from ho)
    have e := hF 9 (by omega) (hdeps ⟨9, .data⟩ (by simp) rfl)
    change y 12 = _ at e
    refine wpOp_step rfl (fun K hK => ?_)
    rw [if_pos (by rfl)]
    go_simp
    refine hK _ _ (cp_next hz hb hF h17 (by omega) hun (vSl s.S) lo hi ?_ (Below.refl _ _) (fun _ _ => ⟨rfl, rfl⟩) rfl)
    first | rfl | simp [cpA, updV, e]
  · obtain rfl := Option.some.inj (show some _ = some o from ho)
    obtain ⟨g, e0, hg⟩ := hF 8 (by omega) (hdeps ⟨8, .data⟩ (by simp) rfl)
    have e2 := hF 10 (by omega) (hdeps ⟨10, .data⟩ (by simp) rfl)
    refine wpOp_step rfl (fun K hK => ?_)
    rw [if_pos (by rfl)]
    refine wp_append_empty W0 _ _ 43 rfl 3 _ 1 8 undInts infInt rfl (by decide) (by decide) g hg (fun _ => rfl) (by simp [Value.oneCell']) _ _ s.S.xs (hgs.2.2.1.2.2.1.mono (hbw.trans (hb.mono hbw.size))) (by assumption) e0 e2 ?_
    intro v' w' hbel hrow
    refine hK _ _ (cp_next hz hb hF h17 (by omega) hun v' (updV lo 2 W0.heap.size) (updV hi 2 w'.heap.size) rfl hbel (fun r hr => ?_) ?_)
    · simp only [updV]; constructor <;> rw [if_neg (by omega)]
    · have d := hdeps ⟨7, .chain⟩ (by simp) rfl
      exact ⟨by rw [getD_setF (by decide)]; exact d, hrow, (hF 7 (by omega) d).2.2.2.2, hbel.size, Nat.le_refl _⟩
  · refine wpOp_step rfl (fun K hK => ?_)
    rw [if_pos (by rfl)]
    go_simp
    exact hK _ _ (cp_next hz hb hF h17 (by omega) hun _ lo hi rfl (alloc_below _ _) (fun _ _ => ⟨rfl, rfl⟩) (Emp.new _ _))
  · refine wpOp_step rfl (fun K hK => ?_)
    rw [if_pos (by rfl)]
    go_simp
    exact hK _ _ (cp_next hz hb hF h17 (by omega) hun _ lo hi rfl (Below.refl _ _) (fun _ _ => ⟨rfl, rfl⟩) rfl)
  · obtain rfl := Option.some.inj (show some _ = some o from ho)
    have e := hF 13 (by omega) (hdeps ⟨13, .data⟩ (by simp) rfl)
    change y 16 = _ at e
    refine wpOp_step rfl (fun K hK => ?_)
    rw [if_pos (by rfl)]
    go_simp
    refine hK _ _ (cp_next hz hb hF h17 (by omega) hun (vSl s.O) lo hi ?_ (Below.refl _ _) (fun _ _ => ⟨rfl, rfl⟩) rfl)
    first | rfl | simp [cpA, updV, e]
  · obtain rfl := Option.some.inj (show some _ = some o from ho)
    obtain ⟨g, e0, hg⟩ := hF 12 (by omega) (hdeps ⟨12, .data⟩ (by simp) rfl)
    have e2 := hF 14 (by omega) (hdeps ⟨14, .data⟩ (by simp) rfl)
    refine wpOp_step rfl (fun K hK => ?_)
    rw [if_pos (by rfl)]
    refine wp_append_empty W0 _ _ 52 rfl 4 _ 1 1 undBools infBool rfl (by decide) (by decide) g hg (fun _ => rfl) (by simp [Value.oneCell']) _ _ s.O.xs (hgs.2.2.2.2.2.1.mono (hbw.trans (hb.mono hbw.size))) (by assumption) e0 e2 ?_
    intro v' w' hbel hrow
    refine hK _ _ (cp_next hz hb hF h17 (by omega) hun v' (updV lo 3 W0.heap.size) (updV hi 3 w'.heap.size) rfl hbel (fun r hr => ?_) ?_)
    · simp only [updV]; constructor <;> rw [if_neg (by omega)]
    · have d := hdeps ⟨11, .chain⟩ (by simp) rfl
      exact ⟨by rw [getD_setF (by decide)]; exact d, hrow, (hF 11 (by omega) d).2.2.2.2, hbel.size, Nat.le_refl _⟩
  · obtain rfl := Option.some.inj (show some _ = some o from ho)
    have d3 := hdeps ⟨3, .data⟩ (by simp) rfl
    have d7 := hdeps ⟨7, .data⟩ (by simp) rfl
    have d11 := hdeps ⟨11, .data⟩ (by simp) rfl
    have d15 := hdeps ⟨15, .data⟩ (by simp) rfl
    obtain ⟨a0, k0, e0⟩ := (hF 3 (by omega) d3).1.isSlice
    obtain ⟨a1, k1, e1⟩ := (hF 7 (by omega) d7).2.1.isSlice
    obtain ⟨a2, k2, e2⟩ := (hF 11 (by omega) d11).2.1.isSlice
    obtain ⟨a3, k3, e3⟩ := (hF 15 (by omega) d15).2.1.isSlice
    refine wpOp_step rfl (fun K hK => ?_)
    rw [if_pos (by rfl)]
    go_simp
    refine hK _ _ (cp_next hz hb hF h17 (by omega) hun (.agg #[y 6, y 10, y 14, y 18]) lo hi ?_ (Below.refl _ _) (fun _ _ => ⟨rfl, rfl⟩) ⟨⟨by rw [getD_setF (by decide)]; exact d3, by rw [getD_setF (by decide)]; exact d7, by rw [getD_setF (by decide)]; exact d11, by rw [getD_setF (by decide)]; exact d15⟩, rfl⟩)
    simp [cpA, updV, e0, e1, e2, e3]
  · obtain rfl := Option.some.inj (show some _ = some o from ho)
    have hall : ∀ j, j < 17 → l.getD j false = true := by
      intro j hj
      rcases (show j = 0 ∨ j = 1 ∨ j = 2 ∨ j = 3 ∨ j = 4 ∨ j = 5 ∨ j = 6 ∨ j = 7 ∨ j = 8 ∨ j = 9 ∨ j = 10 ∨ j = 11 ∨ j = 12 ∨ j = 13 ∨ j = 14 ∨ j = 15 ∨ j = 16 by omega) with rfl | rfl | rfl | rfl | rfl | rfl | rfl | rfl | rfl | rfl | rfl | rfl | rfl | rfl | rfl | rfl | rfl
      all_goals exact hdeps ⟨_, .phase⟩ (by simp) rfl
    have e := (hF 16 (by omega) (hall 16 (by omega))).2
    obtain ⟨a0, k0, e0⟩ := (hF 3 (by omega) (hall 3 (by omega))).1.isSlice
    obtain ⟨a1, k1, e1⟩ := (hF 7 (by omega) (hall 7 (by omega))).2.1.isSlice
    obtain ⟨a2, k2, e2⟩ := (hF 11 (by omega) (hall 11 (by omega))).2.1.isSlice
    obtain ⟨a3, k3, e3⟩ := (hF 15 (by omega) (hall 15 (by omega))).2.1.isSlice
    obtain ⟨⟨o0, o1, o2, o3⟩, of⟩ := HO.out.mono hb
    have of0 := of 0
    have of1 := of 1
    have of2 := of 2
    have of3 := of 3
    clear of
    simp only [vSl, nilSt] at o0 o1 o2 o3
    refine wpOp_step rfl (fun K hK => ?_)
    rw [if_pos (by rfl)]
    go_simp
    refine hK _ _ ⟨by simpa using hz, y, lo, hi, W0, ?_, hb, ?_, .inr ⟨getD_setT (by omega), fun j hj => by rw [getD_setF (by omega)]; exact hall j hj, ?_⟩⟩
    · first | rfl | simp [cpA, e, e0, e1, e2, e3]
    · intro j hj hl
      rw [getD_setF (by omega)] at hl
      exact cpF_keep (Below.refl _ _) h17 (fun _ _ => rfl) (fun _ _ => ⟨rfl, rfl⟩) (fun j hj => getD_setF hj) j (by omega) (hF j hj hl)
    · first | rfl | simp [set4, e0, e1, e2, e3]

end Go.Proofs.YtjgfgbiohbgcaaaGreat
