/- The starts of a pump over levels: the program's side and the reference's. Conditions: the link and the levels read as data. -/
import Derived.Test.YtmpegbebjefkaaaGreatPon
namespace Go.Proofs.YtmpegbebjefkaaaGreat
open Go.RowKit
set_option linter.unusedVariables false
set_option linter.unusedSimpArgs false

/-- The starts, from place i on. -/
def stGo (up down : Int) : List Int → Nat → Bool → List Int → List Int
  | [], _, _, out => out
  | n :: r, i, was, out => stGo up down r (i + 1) (onB up down was n) (if onB up down was n && !was then out ++ [(i : Int)] else out)
def stR (up down : Int) (l : List Int) (i : Nat) (was : Bool) (out : List Int) : List Int × Int := if l.any (fun n => !levB n) then ([], 2) else (stGo up down l i was out, 0)
def stM (l : Lk) (levels : List Int) : List Int × Int := if pumpB l = false then ([], 1) else if 10000 < levels.length then ([], 4) else stR l.Up l.Down levels 0 false []
theorem stR_bad {up down n : Int} {r : List Int} {i : Nat} {was : Bool} {out : List Int} (h : levB n = false) : stR up down (n :: r) i was out = ([], 2) := by simp [stR, h]
theorem stR_good {up down n : Int} {r : List Int} {i : Nat} {was : Bool} {out : List Int} (h : levB n = true) : stR up down (n :: r) i was out = stR up down r (i + 1) (onB up down was n) (if onB up down was n && !was then out ++ [(i : Int)] else out) := by
  simp only [stR, List.any_cons, h, Bool.not_true, Bool.false_or]
  rfl

/-- A block that holds a link. -/
structure LkBx (w : World) (B : Nat) (l : Lk) : Prop where
  c0 : w.cell? ⟨B, 0, none⟩ = some (.string l.Name)
  c1 : w.cell? ⟨B, 1, none⟩ = some (.string l.From)
  c2 : w.cell? ⟨B, 2, none⟩ = some (.string l.To)
  c3 : w.cell? ⟨B, 3, none⟩ = some (.int .i64 l.Kind)
  c4 : w.cell? ⟨B, 4, none⟩ = some (.int .i64 l.Len)
  c5 : w.cell? ⟨B, 5, none⟩ = some (.int .i64 l.Up)
  c6 : w.cell? ⟨B, 6, none⟩ = some (.int .i64 l.Down)
  c7 : w.cell? ⟨B, 7, none⟩ = some (.string l.Sec)
  c8 : w.cell? ⟨B, 8, none⟩ = some (.int .i64 l.Wi)
  c9 : w.cell? ⟨B, 9, none⟩ = some (.int .i64 l.He)
  c10 : w.cell? ⟨B, 10, none⟩ = some (.slice l.Cu.a l.Cu.xs.length l.Cu.cap)
theorem LkBx.mono {w w' : World} {B : Nat} {l : Lk} (h : LkBx w B l) (hb : Below w.heap.size w w') : LkBx w' B l :=
  ⟨box_lt h.c0 hb, box_lt h.c1 hb, box_lt h.c2 hb, box_lt h.c3 hb, box_lt h.c4 hb, box_lt h.c5 hb, box_lt h.c6 hb, box_lt h.c7 hb, box_lt h.c8 hb, box_lt h.c9 hb, box_lt h.c10 hb⟩
theorem LkBx.low {w w' : World} {B : Nat} {l : Lk} (h : LkBx w B l) (hb : Below (B + 1) w w') : LkBx w' B l := by
  have e : ∀ j, w'.cell? ⟨B, j, none⟩ = w.cell? ⟨B, j, none⟩ := fun j => hb.cell (p := ⟨B, j, none⟩) (by show B < B + 1; omega)
  exact ⟨(e 0).trans h.c0, (e 1).trans h.c1, (e 2).trans h.c2, (e 3).trans h.c3, (e 4).trans h.c4, (e 5).trans h.c5, (e 6).trans h.c6, (e 7).trans h.c7, (e 8).trans h.c8, (e 9).trans h.c9, (e 10).trans h.c10⟩
theorem LkBx.lt {w : World} {B : Nat} {l : Lk} (h : LkBx w B l) : B < w.heap.size := lt_of_isSome (a := ⟨B, 0, none⟩) (by rw [h.c0]; rfl)
theorem LkBx.new (w : World) (l : Lk) (T : TypeId) : LkBx (w.alloc (.cells (eLk l).toArray T)) w.heap.size l := by
  refine ⟨?_, ?_, ?_, ?_, ?_, ?_, ?_, ?_, ?_, ?_, ?_⟩ <;> simp [go_sem]

set_option maxRecDepth 100000 in
set_option maxHeartbeats 4000000 in
theorem pstarts_any (l : Lk) (ls : List Int) (v : Value) (w : World) (hg : gLk w l) (hv : IsInts w v ls) :
    Calls Tryz.prog 16 #[vLk l, v] w fun e w' => (∃ v', e = .returned (.tuple #[v', .int .i64 (stM l ls).2]) ∧ Own w.heap.size 3 eInt 1 w' v' (stM l ls).1) ∧ Below w.heap.size w w' := by
  obtain ⟨a, cap, rfl, hcap, hbig, hs⟩ := hv
  have hon := Lib.hid (fun was n W => pon_any l was n W)
  have hb0 : Below w.heap.size w (w.alloc (.cells (eLk l).toArray 25)) := (Below.refl _ _).alloc (Nat.le_refl _) _
  have hbx := LkBx.new w l 25
  have hpv := pvalid_any l _ (rdLk.mono hg hb0)
  obtain ⟨⟨R, E⟩, HRES⟩ : ∃ r, Hid (stM l ls = r) := ⟨_, rfl⟩
  rw [HRES.out]
  obtain ⟨pb, hpb⟩ : ∃ pb, pumpB l = pb := ⟨_, rfl⟩
  have HPB := Lib.hid hpb
  rw [hpb] at hpv
  clear hpb hg
  obtain ⟨nm, fr, tt, kd, ln, up, dn, sc, wi, he, cu⟩ := l
  have hbx0 := hbx
  obtain ⟨c0, c1, c2, c3, c4, c5, c6, c7, c8, c9, c10⟩ := hbx0
  simp only at c0 c1 c2 c3 c4 c5 c6 c7 c8 c9 c10
  go_enter Tryz.func16, Tryz.ntmps16
  go_wp2_with fail
  refine Calls.to hpv ?_
  rintro e w1 rfl hb1
  have hbb := hb0.trans (hb1.mono hb0.size)
  have hbx := hbx.mono hb1
  clear hb1 hb0 hpv c0 c1 c2 c3 c4 c5 c6 c7 c8 c9 c10
  cases pb
  · have h2 := HRES.out.symm.trans (show stM _ ls = ([], 1) from by simp only [stM, HPB.out, if_true])
    simp only [Prod.mk.injEq] at h2
    obtain ⟨rfl, rfl⟩ := h2
    go_wp2_with fail
    go_ret2
    exact ⟨⟨_, rfl, World.ownsRow_nil _ _ _ _⟩, hbb⟩
  by_cases hl : 10000 < ls.length
  · have u := decide_eq_true hl
    have u' := decide_eq_true (show (10000 : Int) < ls.length by omega)
    have h2 := HRES.out.symm.trans (show stM _ ls = ([], 4) from by simp only [stM, HPB.out, hl, if_true]; simp)
    simp only [Prod.mk.injEq] at h2
    obtain ⟨rfl, rfl⟩ := h2
    clear hl
    go_wp2_with fail
    go_ret2
    exact ⟨⟨_, rfl, World.ownsRow_nil _ _ _ _⟩, hbb⟩
  have u := decide_eq_false hl
  have u' := decide_eq_false (show ¬ (10000 : Int) < ls.length by omega)
  have HM0 : Hid ((R, E) = stR up dn ls 0 false []) := HRES.out.symm.trans (by simp only [stM, HPB.out, hl, if_false]; simp)
  have HLL : Hid (ls.length ≤ 10000) := by show _ ≤ _; omega
  clear hl HRES
  go_wp2_with fail
  go_loopw [6, 7, 21] (fun s6 s7 s21 wr => ∃ (i : Nat) (was : Bool) (out : List Int), i ≤ ls.length ∧ s21 = .int .i64 i ∧ s7 = .bool was ∧ out.length ≤ i ∧ Own (w.heap.size + 1) 3 eInt 1 wr s6 out ∧ Below w.heap.size w wr ∧
    LkBx wr w.heap.size ⟨nm, fr, tt, kd, ln, up, dn, sc, wi, he, cu⟩ ∧ Hid ((R, E) = stR up dn (ls.drop i) i was out)) (fun _ _ i _ => ls.length - (intOf i).toNat)
  case atStart => exact ⟨0, false, [], Nat.zero_le _, rfl, rfl, Nat.le_refl _, World.ownsRow_nil _ _ _ _, hbb, hbx, HM0.out⟩
  case round =>
    as_aux_lemma =>
    obtain ⟨i, was, out, hi, rfl, rfl, hol, hown, hb, hbx, hm⟩ := hrel
    have hll := HLL.out
    by_cases hlt : i < ls.length
    · obtain ⟨b, off, rfl, d0⟩ := (hs.mono hb).int i hlt
      have hdrop := Lib.hid (List.drop_eq_getElem_cons hlt)
      have hon2 := hon.out was ls[i]
      have hlv := fun W => plevel_any ls[i] W
      clear hs
      generalize ls[i] = n at *
      have HBXR := Lib.hid hbx
      obtain ⟨c0, c1, c2, c3, c4, c5, c6, c7, c8, c9, c10⟩ := hbx
      have x1 : IntKind.i64.wrap ((i : Int) + 1) = i + 1 := IntWalk.i64_in _ (by omega)
      simp only at c0 c1 c2 c3 c4 c5 c6 c7 c8 c9 c10
      obtain ⟨a5, cc5, rfl⟩ := hown.isSlice
      obtain ⟨lv, hlv2⟩ : ∃ z, levB n = z := ⟨_, rfl⟩
      rw [show btwB n (-4194304) 4194304 = lv from hlv2] at hlv
      have hm' := hm.out
      rw [hdrop.out] at hm'
      cases lv
      · rw [stR_bad hlv2] at hm'
        simp only [Prod.mk.injEq] at hm'
        obtain ⟨rfl, rfl⟩ := hm'
        clear hm hdrop hlv2 HM0
        go_wp2_with fail
        refine (hlv _).mono ?_
        rintro e w3 ⟨rfl, rfl⟩
        go_wp2_with fail
        go_ret2
        exact ⟨⟨_, rfl, World.ownsRow_nil _ _ _ _⟩, hb⟩
      rw [stR_good hlv2] at hm'
      obtain ⟨now, hnow⟩ : ∃ now, onB up dn was n = now := ⟨_, rfl⟩
      rw [hnow] at hm'
      have HS := Lib.hid hm'
      have hon3 : ∀ W, Calls Tryz.prog 22 #[vLk ⟨nm, fr, tt, kd, ln, up, dn, sc, wi, he, cu⟩, .bool was, .int .i64 n] W fun e w' => e = .returned (.bool now) ∧ Below W.heap.size W w' := by rw [← hnow]; exact hon2
      clear hm hm' hdrop hon2 hnow hlv2 HM0
      go_wp2_with fail
      refine (hlv _).mono ?_
      rintro e w3 ⟨rfl, hw3⟩
      subst hw3
      go_wp2_with fail
      refine Calls.mono (hon3 _) ?_
      rintro e W ⟨rfl, hbW0⟩
      have hbxW := HBXR.out.mono hbW0
      have hownW := hown.below hbW0
      have hzW : w.heap.size + 1 ≤ W.heap.size := hbxW.lt
      have hbW := hb.trans (hbW0.mono hb.size)
      clear c0 c1 c2 c3 c4 c5 c6 c7 c8 c9 c10 d0 hon3 hbW0 hlv
      cases now
      · go_wp2_with fail
        go_roundw
        case measure => simp [intOf]; omega
        case rel => exact ⟨i + 1, false, out, by omega, by go_num, rfl, by omega, hownW, hbW, hbxW, HS.out⟩
      · cases was
        · go_wp2_with (at_builtin; go_must (refine wpList_pushB rfl _ _ 38 rfl 3 _ 1 8 undInts infInt rfl (by decide) (i : Int) (fun _ => rfl) (by simp [Value.oneCell']) _ out rfl hownW _ rfl rfl (by omega) (by decide) hzW _ rfl ?_); intro g3 cap3 w3 hown3 hbg3 hgl3 hb3 hc31 hc32)
          go_roundw
          case measure => simp [intOf]; omega
          case rel => exact ⟨i + 1, true, out ++ [(i : Int)], by omega, by go_num, rfl, by simp; omega, hown3, hbW.trans (hb3.mono (by omega)), hbxW.low hb3, HS.out⟩
        · go_wp2_with fail
          go_roundw
          case measure => simp [intOf]; omega
          case rel => exact ⟨i + 1, true, out, by omega, by go_num, rfl, by omega, hownW, hbW, hbxW, HS.out⟩
    · obtain rfl : i = ls.length := by omega
      have hm2 := hm.out
      rw [List.drop_eq_nil_of_le (Nat.le_refl _)] at hm2
      simp only [stR, stGo, List.any_nil, Bool.false_eq_true, if_false, Prod.mk.injEq] at hm2
      obtain ⟨rfl, rfl⟩ := hm2
      clear hm hs HM0
      go_wp2_with fail
      go_ret2
      exact ⟨⟨_, rfl, hown.base (by omega)⟩, hb⟩

end Go.Proofs.YtmpegbebjefkaaaGreat
