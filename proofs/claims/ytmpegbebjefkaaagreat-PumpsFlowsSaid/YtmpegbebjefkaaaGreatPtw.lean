/- pumps.On; parts of slices. Conditions: the link reads as data. -/
import Derived.Test.YtmpegbebjefkaaaGreatPsx
import Derived.Test.YtmpegbebjefkaaaGreatPtl
namespace Go.Proofs.YtmpegbebjefkaaaGreat
open Go.RowKit
set_option linter.unusedVariables false
set_option linter.unusedSimpArgs false

/-- 's[:h]'. -/
theorem sub_h {α : Type} {enc : α → List Value} {k : Nat} {P : Program} {t : TypeId} (ht : P.underlying t = some (.slice (P.elem t))) (hs : ∀ W, (sizeOf (P.elem t)).run P W = .ok k W) {w : World} {a : Option Addr} {cap : Nat} {xs : List α} (hv : IsL enc k w (.slice a xs.length cap) xs) (h : Nat) (H : Int) (hH : H = h) (hh : h ≤ xs.length) :
    ∃ a' c', IsC enc k w a' (xs.take h) ∧ (xs.take h).length ≤ c' ∧ c' ≤ 9223372036854775807 ∧ ∀ W, (Instr.sliceAt t (.slice a xs.length cap) none (some (.int .i64 H)) none).run P W = .ok (.slice a' (xs.take h).length c') W := by
  subst hH
  obtain ⟨a', c', h1, h2⟩ := sliced_list hv 0 h (Nat.zero_le _) hh
  simp only [List.drop_zero, Nat.sub_zero] at h1 h2
  have hlen : (xs.take h).length = h := by simp; omega
  obtain ⟨a0, c0, he, q1, q2, hc⟩ := hv
  simp only [Value.slice.injEq] at he
  obtain ⟨rfl, _, rfl⟩ := he
  obtain ⟨a2, c2, he2, q3, q4, hc2⟩ := h2
  simp only [Value.slice.injEq] at he2
  obtain ⟨rfl, _, rfl⟩ := he2
  refine ⟨a', c', hc2, q3, q4, fun W => ?_⟩
  rw [run_sliceAt_slice _ _ _ _ _ _ ht, run_slice_h W t a xs.length cap ht .i64 h (by omega) (by omega), hs, hlen]
  simp only [Result.andThen, Int.toNat_natCast]
  rw [h1 cap rfl]
theorem undInts' : Tryz.prog.underlying 38 = some (.slice (Tryz.prog.elem 38)) := by kernel_rfl
theorem szInt (W : World) : (sizeOf (Tryz.prog.elem 38)).run Tryz.prog W = .ok 1 W := by kernel_rfl

theorem pumpB_down {l : Lk} (h : pumpB l = true) : l.Down < l.Up := by
  have hk := pumpB_kind h
  simp only [pumpB, Bool.and_eq_true, lkB] at h
  have h2 := h.2.2
  rw [kindLkB, if_neg (by omega), if_neg (by omega), if_neg (by omega), if_pos hk] at h2
  simp only [Bool.and_eq_true, decide_eq_true_eq] at h2
  exact h2.1.1.1.1.2
theorem stGo_len (up dn : Int) : ∀ (xs : List Int) (i : Nat) (was : Bool) (out : List Int), (stGo up dn xs i was out).length ≤ out.length + xs.length
  | [], _, _, out => by simp [stGo]
  | n :: r, i, was, out => by
    simp only [stGo]
    refine Nat.le_trans (stGo_len up dn r (i + 1) _ _) ?_
    split <;> simp <;> omega
theorem hid_len {n m : Nat} (h : Hid (n ≤ m)) : n ≤ m := h.out

/-- What On answers. -/
def onM (l : Lk) (was : Bool) (n : Int) : Bool × Int := if pumpB l = false then (false, 1) else if levB n = false then (false, 2) else (onB l.Up l.Down was n, 0)
set_option maxRecDepth 100000 in
set_option maxHeartbeats 1000000 in
theorem ponx_any (l : Lk) (was : Bool) (n : Int) (w : World) (hg : gLk w l) :
    Calls Tryz.prog 7 #[vLk l, .bool was, .int .i64 n] w fun e w' => e = .returned (.tuple #[.bool (onM l was n).1, .int .i64 (onM l was n).2]) ∧ Below w.heap.size w w' := by
  have hb0 : Below w.heap.size w (w.alloc (.cells (eLk l).toArray 25)) := (Below.refl _ _).alloc (Nat.le_refl _) _
  have hpv := pvalid_any l _ (rdLk.mono hg hb0)
  have hbx := LkBx.new w l 25
  have hlv := fun W => plevel_any n W
  have hon := fun W => pon_any l was n W
  cases hpb : pumpB l
  · have HR : Hid (onM l was n = (false, 1)) := by show _ = _; simp only [onM, hpb, if_true]
    rw [HR.out]
    rw [hpb] at hpv
    clear hpb hg hlv hon hbx HR
    obtain ⟨nm, fr, tt, kd, ln, up, dn, sc, wi, he, cu⟩ := l
    go_enter Tryz.func7, Tryz.ntmps7
    go_wp2_with fail
    refine Calls.to hpv ?_
    rintro e w1 rfl hb1
    have hbb := hb0.trans (hb1.mono hb0.size)
    go_wp2_with fail
    go_ret2
    exact ⟨rfl, hbb⟩
  rw [hpb] at hpv
  rw [show btwB n (-4194304) 4194304 = levB n from rfl] at hlv
  cases hl : levB n
  · have HR : Hid (onM l was n = (false, 2)) := by show _ = _; simp [onM, hpb, hl]
    rw [HR.out]
    rw [hl] at hlv
    clear hpb hg hl hon hbx HR
    obtain ⟨nm, fr, tt, kd, ln, up, dn, sc, wi, he, cu⟩ := l
    go_enter Tryz.func7, Tryz.ntmps7
    go_wp2_with fail
    refine Calls.to hpv ?_
    rintro e w1 rfl hb1
    have hbb := hb0.trans (hb1.mono hb0.size)
    go_wp2_with fail
    refine (hlv _).mono ?_
    rintro _ _ ⟨rfl, rfl⟩
    go_wp2_with fail
    go_ret2
    exact ⟨rfl, hbb⟩
  have HR : Hid (onM l was n = (onB l.Up l.Down was n, 0)) := by show _ = _; simp [onM, hpb, hl]
  rw [HR.out]
  rw [hl] at hlv
  generalize onB l.Up l.Down was n = now at *
  clear hpb hg hl HR
  obtain ⟨nm, fr, tt, kd, ln, up, dn, sc, wi, he, cu⟩ := l
  go_enter Tryz.func7, Tryz.ntmps7
  go_wp2_with fail
  refine Calls.to hpv ?_
  rintro e w1 rfl hb1
  have hbb := hb0.trans (hb1.mono hb0.size)
  have hbx := hbx.mono hb1
  go_wp2_with fail
  refine (hlv _).mono ?_
  rintro _ _ ⟨rfl, rfl⟩
  obtain ⟨c0, c1, c2, c3, c4, c5, c6, c7, c8, c9, c10⟩ := hbx
  simp only at c0 c1 c2 c3 c4 c5 c6 c7 c8 c9 c10
  clear hlv hpv
  go_wp2_with fail
  refine Calls.go hbb (hon _) ?_
  rintro e w2 rfl _ hb2
  go_wp2_with fail
  go_ret2
  exact ⟨rfl, hb2⟩

end Go.Proofs.YtmpegbebjefkaaaGreat
