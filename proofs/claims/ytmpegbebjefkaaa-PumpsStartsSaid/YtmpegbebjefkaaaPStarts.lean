/- The law PumpsStarts returns true for every link and all levels, and leaves its arguments as they were. Conditions: none beyond the row's own. -/
import Derived.Test.YtmpegbebjefkaaaRows
import Derived.WalkKit
import Derived.ProofKit
import Derived.OpenShut
import Derived.ShutString
import Derived.ChangeOld
import Derived.Below
import Derived.Test.YtmpegbebjefkaaaPsx
import Derived.Test.YtmpegbebjefkaaaRowk
namespace Go.Proofs.Ytmpegbebjefkaaa.pumpsStarts
open Go.ChangeShapes Go.WideShapes Go.ChangeAt Go.RowKit
set_option linter.unusedVariables false
set_option linter.unusedSimpArgs false
open Go.ChangeMaps (open_string shut_string)
set_option linter.unusedVariables false

theorem own : ownKnob Try.prog.godebug = none := by kernel_rfl
theorem laidOut : laidOutB Try.prog = true := by kernel_rfl

set_option maxRecDepth 100000 in
set_option maxHeartbeats 8000000 in
theorem walk (v0 : Value) (x0 : Lk) (v1 : Value) (x1 : Sl Int) (w : World) (w0 : v0 = vLk x0 ∧ gLk w x0) (w1 : v1 = vSl x1 ∧ gSl eInt 1 gI64 w x1) :
    Calls Try.prog 3 #[v0, v1] w fun e w' => e = .returned (.bool true) ∧ Below w.heap.size w w' := by
  obtain ⟨rfl, hg⟩ := w0
  obtain ⟨rfl, hgs⟩ := w1
  have hb0 : Below w.heap.size w (w.alloc (.cells (eLk x0).toArray 25)) := (Below.refl _ _).alloc (Nat.le_refl _) _
  have HG := Lib.hid (rdLk.mono hg hb0)
  have HBX := Lib.hid (LkBx.new w x0 25)
  have HLS : Hid (IsInts (w.alloc (.cells (eLk x0).toArray 25)) (vSl x1) x1.xs) := hgs.isL.mono hb0
  clear hgs hg
  obtain ⟨la, lc, ls⟩ := x1
  simp only [vSl] at HLS ⊢
  obtain ⟨⟨R, E⟩, hres⟩ : ∃ r, stM x0 ls = r := ⟨_, rfl⟩
  have hst := fun W (hW : gLk W x0) (hL : IsInts W (.slice la ls.length lc) ls) => pstarts_any x0 ls _ W hW hL
  rw [hres] at hst
  simp only at hst
  have HRES := Lib.hid hres
  clear hres
  have HPB0 : Hid (pumpB x0 = pumpB x0) := rfl
  obtain ⟨pb, hpb⟩ : ∃ pb, pumpB x0 = pb := ⟨_, rfl⟩
  have HPB := Lib.hid hpb
  have hrv : ∀ W, gLk W x0 → Calls Try.prog 12 #[vLk x0] W fun e w' => e = .returned (.bool pb) ∧ Below W.heap.size W w' := fun W hW => by rw [← hpb]; exact r33valid_any x0 W hW
  have hrs := fun W (hL : IsInts W (.slice la ls.length lc) ls) (h : ls.length ≤ 1000000) => r33starts_any x0 ls _ W hL h
  clear hpb HPB0
  obtain ⟨nm, fr, tt, kd, ln, up, dn, sc, wi, he, cu⟩ := x0
  simp only at hrs
  go_enter Try.func3, Try.ntmps3
  go_wp2_with fail
  refine Calls.go hb0 (pawake_any _) ?_
  rintro e w1 rfl hb1' hb1
  have HBX := Lib.hid (HBX.out.mono hb1')
  have HG := Lib.hid (rdLk.mono HG.out hb1')
  have HLS := Lib.hid (HLS.out.mono hb1')
  obtain ⟨c0, c1, c2, c3, c4, c5, c6, c7, c8, c9, c10⟩ := HBX.out
  simp only at c0 c1 c2 c3 c4 c5 c6 c7 c8 c9 c10
  clear hb1' hb0
  go_wp2_with fail
  refine Calls.go hb1 (psmall_any ⟨nm, fr, tt, kd, ln, up, dn, sc, wi, he, cu⟩ _) ?_
  rintro e w2 ⟨sm, rfl⟩ hb2' hb2
  clear c0 c1 c2 c3 c4 c5 c6 c7 c8 c9 c10
  have HBX := Lib.hid (HBX.out.mono hb2')
  have HG := Lib.hid (rdLk.mono HG.out hb2')
  have HLS := Lib.hid (HLS.out.mono hb2')
  obtain ⟨c0, c1, c2, c3, c4, c5, c6, c7, c8, c9, c10⟩ := HBX.out
  simp only at c0 c1 c2 c3 c4 c5 c6 c7 c8 c9 c10
  clear hb2' hb1
  cases sm
  · go_wp2_with fail
    go_ret
    exact ⟨rfl, hb2⟩
  cases t1 : decide ((200 : Int) < (ls.length : Int))
  · have t2 : decide ((ls.length : Int) ≤ 10000) = true := decide_eq_true (by simp only [decide_eq_false_iff_not] at t1; omega)
    have t3 : decide ((10050 : Int) < (ls.length : Int)) = false := decide_eq_false (by simp only [decide_eq_false_iff_not] at t1; omega)
    have t4 : decide ((10000 : Int) < (ls.length : Int)) = false := decide_eq_false (by simp only [decide_eq_false_iff_not] at t1; omega)
    have hll : ls.length ≤ 10000 := by simp only [decide_eq_false_iff_not] at t1; omega
    have HLL := Lib.hid hll
    clear hll
    go_wp2_with fail
    refine Calls.go hb2 (hst _ HG.out HLS.out) ?_
    rintro e w3 ⟨v3, rfl, hown⟩ hb3' hb3
    clear c0 c1 c2 c3 c4 c5 c6 c7 c8 c9 c10
    have HBX := Lib.hid (HBX.out.mono hb3')
    have HG := Lib.hid (rdLk.mono HG.out hb3')
    have HLS := Lib.hid (HLS.out.mono hb3')
    obtain ⟨c0, c1, c2, c3, c4, c5, c6, c7, c8, c9, c10⟩ := HBX.out
    simp only at c0 c1 c2 c3 c4 c5 c6 c7 c8 c9 c10
    obtain ⟨a3, cp3, rfl⟩ := hown.isSlice
    clear hb3' hb2 hst
    go_wp2_with fail
    refine Calls.go hb3 (hrv _ HG.out) ?_
    rintro e w4 rfl hb4' hb4
    clear c0 c1 c2 c3 c4 c5 c6 c7 c8 c9 c10
    have HBX := Lib.hid (HBX.out.mono hb4')
    have HG := Lib.hid (rdLk.mono HG.out hb4')
    have HLS := Lib.hid (HLS.out.mono hb4')
    obtain ⟨c0, c1, c2, c3, c4, c5, c6, c7, c8, c9, c10⟩ := HBX.out
    simp only at c0 c1 c2 c3 c4 c5 c6 c7 c8 c9 c10
    have hown := hown.below hb4'
    clear hb4' hb3 hrv
    cases pb
    · have h2 := HRES.out.symm.trans (show stM _ ls = ([], 1) from by simp only [stM, HPB.out, if_true])
      simp only [Prod.mk.injEq] at h2
      obtain ⟨rfl, rfl⟩ := h2
      clear hrs
      go_wp2_with fail
      go_ret
      exact ⟨rfl, hb4⟩
    have h2 := HRES.out.symm.trans (show stM _ ls = stR up dn ls 0 false [] from by simp only [stM, HPB.out]; rw [if_neg (by simp), if_neg (by have := HLL.out; omega)])
    have HR2 := Lib.hid h2
    clear h2
    go_wp2_with fail
    refine Calls.go hb4 (containsInts 14 #[] ent14 (fun n => !levB n) ls _ _ HLS.out (fun W _ n _ => lstarts1_any n W)) ?_
    rintro e w5 rfl hb5' hb5
    clear c0 c1 c2 c3 c4 c5 c6 c7 c8 c9 c10
    have HBX := Lib.hid (HBX.out.mono hb5')
    have HG := Lib.hid (rdLk.mono HG.out hb5')
    have HLS := Lib.hid (HLS.out.mono hb5')
    obtain ⟨c0, c1, c2, c3, c4, c5, c6, c7, c8, c9, c10⟩ := HBX.out
    simp only at c0 c1 c2 c3 c4 c5 c6 c7 c8 c9 c10
    have hown := hown.below hb5'
    clear hb5' hb4
    cases hbad : ls.any (fun n => !levB n)
    · have h2 := HR2.out.trans (show stR up dn ls 0 false [] = (stGo up dn ls 0 false [], 0) from by simp only [stR, hbad]; rfl)
      simp only [Prod.mk.injEq] at h2
      obtain ⟨rfl, rfl⟩ := h2
      generalize stGo up dn ls 0 false [] = G at *
      clear hbad
      go_wp2_with fail
      refine Calls.go hb5 (hrs _ HLS.out (by have := HLL.out; omega)) ?_
      rintro e w6 ⟨v6, rfl, hown6⟩ hb6' hb6
      have hown := hown.below hb6'
      have hq := eqInts G G _ v6 w6 (hown.isL (fun _ => rfl)) (hown6.isL (fun _ => rfl))
      rw [decide_eq_true (rfl : G = G)] at hq
      obtain ⟨a6, c6', rfl⟩ := hown6.isSlice
      clear c0 c1 c2 c3 c4 c5 c6 c7 c8 c9 c10
      clear hb6' hb5 hrs
      go_wp2_with fail
      refine Calls.go hb6 hq ?_
      rintro e w7 rfl _ hb7
      go_wp2_with fail
      go_ret
      exact ⟨rfl, hb7⟩
    · have h2 := HR2.out.trans (show stR up dn ls 0 false [] = ([], 2) from by simp only [stR, hbad, if_true])
      simp only [Prod.mk.injEq] at h2
      obtain ⟨rfl, rfl⟩ := h2
      clear hbad hrs
      go_wp2_with fail
      go_ret
      exact ⟨rfl, hb5⟩
  · cases t2 : decide ((ls.length : Int) ≤ 10000)
    rotate_left
    · go_wp2_with fail
      go_ret
      exact ⟨rfl, hb2⟩
    cases t3 : decide ((10050 : Int) < (ls.length : Int))
    rotate_left
    · go_wp2_with fail
      go_ret
      exact ⟨rfl, hb2⟩
    have t4 : decide ((10000 : Int) < (ls.length : Int)) = true := decide_eq_true (by simp only [decide_eq_false_iff_not] at t2; omega)
    have t5 : 10000 < ls.length := by simp only [decide_eq_false_iff_not] at t2; omega
    have HT5 := Lib.hid t5
    clear t5 hrs
    go_wp2_with fail
    refine Calls.go hb2 (hst _ HG.out HLS.out) ?_
    rintro e w3 ⟨v3, rfl, hown⟩ hb3' hb3
    clear c0 c1 c2 c3 c4 c5 c6 c7 c8 c9 c10
    have HBX := Lib.hid (HBX.out.mono hb3')
    have HG := Lib.hid (rdLk.mono HG.out hb3')
    have HLS := Lib.hid (HLS.out.mono hb3')
    obtain ⟨c0, c1, c2, c3, c4, c5, c6, c7, c8, c9, c10⟩ := HBX.out
    simp only at c0 c1 c2 c3 c4 c5 c6 c7 c8 c9 c10
    obtain ⟨a3, cp3, rfl⟩ := hown.isSlice
    clear hb3' hb2 hst
    go_wp2_with fail
    refine Calls.go hb3 (hrv _ HG.out) ?_
    rintro e w4 rfl hb4' hb4
    clear c0 c1 c2 c3 c4 c5 c6 c7 c8 c9 c10
    have HBX := Lib.hid (HBX.out.mono hb4')
    have HG := Lib.hid (rdLk.mono HG.out hb4')
    have HLS := Lib.hid (HLS.out.mono hb4')
    obtain ⟨c0, c1, c2, c3, c4, c5, c6, c7, c8, c9, c10⟩ := HBX.out
    simp only at c0 c1 c2 c3 c4 c5 c6 c7 c8 c9 c10
    have hown := hown.below hb4'
    clear hb4' hb3 hrv
    cases pb
    · have h2 := HRES.out.symm.trans (show stM _ ls = ([], 1) from by simp only [stM, HPB.out, if_true])
      simp only [Prod.mk.injEq] at h2
      obtain ⟨rfl, rfl⟩ := h2
      go_wp2_with fail
      go_ret
      exact ⟨rfl, hb4⟩
    · have h2 := HRES.out.symm.trans (show stM _ ls = ([], 4) from by simp only [stM, HPB.out]; rw [if_neg (by simp), if_pos HT5.out])
      simp only [Prod.mk.injEq] at h2
      obtain ⟨rfl, rfl⟩ := h2
      go_wp2_with fail
      go_ret
      exact ⟨rfl, hb4⟩

/-! ### The row -/
set_option maxRecDepth 100000 in
theorem lifted (os : Os) (started : os.Started) (H : Type) (enc : TypeId × Value → H) :
    ReturnsInHanded {} Try.checked os 3 .any (Rows.pumpsStartsSpec.pre6 enc Try.prog Try.f3 Rows.pumpsStartsRow.domain false) (Rows.pumpsStartsSpec.post enc Try.prog Try.f3 false true false false) := by
  refine returnsInHanded_of_change (C := Try.checked) own started (by kernel_rfl) Try.func3
    (ChangeSpec.witness6 (enc := enc) (C := Try.checked) false ⟨#[], #[.agg #[.string ⟨#[]⟩, .string ⟨#[]⟩, .string ⟨#[]⟩, .int .i64 0, .int .i64 0, .int .i64 0, .int .i64 0, .string ⟨#[]⟩, .int .i64 0, .int .i64 0, .slice none 0 0], .slice none 0 0], []⟩ 8 (by kernel_rfl) (by kernel_rfl) (by kernel_rfl) (by kernel_rfl)) ?_
  intro W base args ds gs before hval0 hW hcnd _
  have hval : ∀ (j : Nat) t v, Try.f3.params[j]? = some t → args[j]? = some v → Value.okWide Try.prog W .any base t v := hval0
  have hW' := hW
  obtain ⟨p, q, hA0, hV, rfl, hfz, hnd⟩ := hW
  have hA : DataW.TrodAll enc Try.prog W 0 (fun _ => true) true Try.f3.params.toList args.toList ds p := hA0
  rw [Try.params3] at hA hval
  obtain ⟨v0, vs0, d0, ds0, p0, q0, hargs, rfl, rfl, h0, r0⟩ := trodAll_cons hA
  obtain ⟨v1, vs1, d1, ds1, p1, q1, rfl, rfl, rfl, h1, r1⟩ := trodAll_cons r0
  obtain ⟨rfl, rfl, rfl⟩ := trodAll_nil r1
  obtain rfl : args = #[v0, v1] := by cases args; simp_all
  obtain ⟨rfl, rfl⟩ := trodVars_none hV
  have k0 := h0
  have lt0 : ∀ x ∈ p0, x.block < W.heap.size := by obtain ⟨m, hm⟩ := k0; exact DataW.trod_lt m _ _ _ hm
  obtain ⟨x0, w0⟩ := openLk (hval 0 25 v0 rfl rfl) h0
  have k1 := h1
  have lt1 : ∀ x ∈ p1, x.block < W.heap.size := by obtain ⟨m, hm⟩ := k1; exact DataW.trod_lt m _ _ _ hm
  obtain ⟨x1, w1⟩ := openInts (hval 1 26 v1 rfl rfl) h1
  clear hA0 hval0
  refine (walk v0 x0 v1 x1 W w0 w1).mono fun e W' ⟨he, bel⟩ => ?_
  subst he
  exact ⟨_, rfl, _, _, _, [], _, [], hW', trodAll_mk1 (shut_bool Try.underlying4 _), (trodAll_cons_mk (Below.trod laidOut (by kernel_rfl) (of_decide_eq_true (by kernel_rfl)) k0 bel lt0) (trodAll_cons_mk (Below.trod laidOut (by kernel_rfl) (of_decide_eq_true (by kernel_rfl)) k1 bel lt1) trodAll_mk0)), rfl, bel.frame _, fun h => by cases h⟩

theorem over : Rows.pumpsStartsRow.holds Try.pinned (OpenSpec.ofChange Rows.pumpsStartsSpec) :=
  OpenClaim.holds_of_wide 3 Try.f3 rfl rfl rfl rfl rfl rfl rfl ⟨rfl, rfl, rfl, rfl, rfl⟩ rfl rfl rfl rfl rfl (by kernel_rfl) Try.func3 (by kernel_rfl)
    (of_decide_eq_true (by kernel_rfl)) (by unfold Func.isWrapper; first | (rw [if_pos (by decide +kernel)]; kernel_rfl) | (rw [if_neg (by decide +kernel)]; exact ⟨rfl, rfl⟩))
    (fun os started H enc _ => lifted os started H enc)

end Go.Proofs.Ytmpegbebjefkaaa.pumpsStarts
namespace Go.Proofs.Ytmpegbebjefkaaa
/-- The statement. -/
theorem pumpsStarts_holds : Rows.PumpsStartsSaid := pumpsStarts.over
#print axioms pumpsStarts_holds
end Go.Proofs.Ytmpegbebjefkaaa
