/- pumps.Fill, Drain, Enough; more inflow fills faster. Conditions: the node and the link read as data. -/
import Derived.Test.YtmpegbebjefkaaaPgv
import Derived.Test.YtmpegbebjefkaaaMtl
namespace Go.Proofs.Ytmpegbebjefkaaa
open Go.RowKit
set_option linter.unusedVariables false
set_option linter.unusedSimpArgs false

/-- The sump's three numbers. -/
def sumpV (x : Nd) (l : Lk) : Int × Int × Int := (volV x l.Up - volV x l.Down, flV l.Cu.xs 1000 (l.Down - x.Inv), flV l.Cu.xs 1000 (l.Up - x.Inv))
theorem givM_ok {x : Nd} {l : Lk} {q : Int} (h : (givM x l q).2 = 0) : (givM x l q).1 = sumpV x l ∧ 0 ≤ (sumpV x l).1 ∧ (sumpV x l).1 ≤ 1125899906842624 ∧ 0 ≤ (sumpV x l).2.1 ∧ (sumpV x l).2.1 ≤ (sumpV x l).2.2 ∧ (sumpV x l).2.2 ≤ 1099511627776 ∧ 0 ≤ q ∧ q ≤ 1099511627776 := by
  unfold givM at h ⊢
  split at h
  · cases h
  · rename_i h1
    split at h
    · cases h
    · rename_i h2
      split at h
      · cases h
      · rename_i h3
        rw [if_neg h1, if_neg h2, if_neg h3]
        have hp : pumpB l = true := by simpa using h1
        have hs : sumpB x l = true := by simpa using h2
        have hq : btwB q 0 1099511627776 = true := by simpa using h3
        simp only [sumpB, Bool.and_eq_true, Bool.not_eq_true', decide_eq_false_iff_not, decide_eq_true_eq] at hs
        obtain ⟨⟨⟨hnb, hk3⟩, hi⟩, hu⟩ := hs
        have hdu := pumpB_down hp
        have hcv := pumpB_curve hp
        have v1 := volV_bd hnb l.Up
        have v2 := volV_bd hnb l.Down
        have vm : volV x l.Down ≤ volV x l.Up := by
          unfold volV
          rw [if_neg hk3, if_neg hk3]
          exact tabV_mono (shapeB_bd (ndB_shape hnb hk3).2 0).1 (by omega)
        have f1 := (flV_bd hcv (s := 1000) (d := l.Down - x.Inv) (by decide) (by decide)).2.2
        have f2 := (flV_bd hcv (s := 1000) (d := l.Up - x.Inv) (by decide) (by decide)).2.2
        have fm := (flV_mono hcv (s := 1000) (t := 1000) (a := l.Down - x.Inv) (b := l.Up - x.Inv) (by decide) (by decide) (by omega)).2
        simp only [btwB, Bool.and_eq_true, decide_eq_true_eq] at hq
        refine ⟨rfl, ?_⟩
        simp only [sumpV]
        omega
theorem givM_err {x : Nd} {l : Lk} {q : Int} (h : (givM x l q).2 ≠ 0) : (givM x l q).1 = (0, 0, 0) := by
  unfold givM at h ⊢
  split
  · rfl
  · split
    · rfl
    · split
      · rfl
      · rename_i h1 h2 h3
        rw [if_neg h1, if_neg h2, if_neg h3] at h
        exact absurd rfl h

def fillM (x : Nd) (l : Lk) (q : Int) : Int × Int × Int :=
  if (givM x l q).2 ≠ 0 then (0, 0, (givM x l q).2) else if q = 0 then (0, 0, 16)
  else (((quoN (sumpV x l).1.toNat q.toNat false : Nat) : Int), ((quoN (sumpV x l).1.toNat q.toNat true : Nat) : Int), 0)
def drainM (x : Nd) (l : Lk) (q : Int) : Int × Int × Int :=
  if (givM x l q).2 ≠ 0 then (0, 0, (givM x l q).2) else if (sumpV x l).2.1 ≤ q then (0, 0, 28)
  else (((quoN (sumpV x l).1.toNat ((sumpV x l).2.2 - q).toNat false : Nat) : Int), ((quoN (sumpV x l).1.toNat ((sumpV x l).2.1 - q).toNat true : Nat) : Int), 0)
def enoughM (x : Nd) (l : Lk) (q : Int) : Bool × Int := (decide ((givM x l q).2 = 0) && decide (q < (sumpV x l).2.1), (givM x l q).2)

theorem quoN_anti {V b c : Nat} (hb : 0 < b) (h : b ≤ c) (up : Bool) : quoN V c up ≤ quoN V b up := by
  cases up
  · simp only [quoN, Bool.false_eq_true, if_false]; exact Nat.div_le_div_left h hb
  · rw [quoN_up hb, quoN_up (by omega)]
    have h1 := Nat.div_le_div_left (c := b) (b := c) (a := V) h hb
    have e1 := Nat.div_add_mod V b
    have e2 := Nat.div_add_mod V c
    have l1 := Nat.mod_lt V hb
    rcases Nat.lt_or_eq_of_le h1 with g | g
    · split <;> split <;> omega
    · have hm : V % b = 0 → V % c = 0 := by
        intro h0
        have : b * (V / b) ≤ c * (V / b) := Nat.mul_le_mul_right _ h
        rw [← g] at e1 this
        have : c * (V / c) ≤ V := Nat.mul_div_le V c
        omega
      by_cases q : V % b = 0
      · rw [if_pos q, if_pos (hm q)]; omega
      · rw [if_neg q]; split <;> omega
theorem quoN_wide {V a b : Nat} (hb : 0 < b) (h : b ≤ a) : quoN V a false ≤ quoN V b true := Nat.le_trans (quoN_anti hb h false) (quoN_le V b hb)
theorem quoN_one {V b : Nat} (hb : 0 < b) : quoN V b true ≤ quoN V b false + 1 := by
  rw [quoN_up hb]; simp only [quoN, Bool.false_eq_true, if_false]; split <;> omega
theorem quoN_sm {V b : Nat} (hb : 0 < b) (h : V ≤ 1125899906842624) (up : Bool) : quoN V b up ≤ 1125899906842625 := by
  have h1 : quoN V b false ≤ V := by simp only [quoN, Bool.false_eq_true, if_false]; exact Nat.div_le_self _ _
  cases up
  · omega
  · have := quoN_one (V := V) hb; omega

/-- A block of two ints that may be written. -/
structure Sq2 (w : World) (B : Nat) (a b : Int) : Prop where
  c0 : w.cell? ⟨B, 0, none⟩ = some (.int .i64 a)
  c1 : w.cell? ⟨B, 1, none⟩ = some (.int .i64 b)
  f0 : w.frozen? ⟨B, 0, none⟩ = false
  f1 : w.frozen? ⟨B, 1, none⟩ = false
theorem Sq2.lt {w : World} {B : Nat} {a b : Int} (h : Sq2 w B a b) : B < w.heap.size := lt_of_isSome (a := ⟨B, 0, none⟩) (by rw [h.c0]; rfl)
theorem Sq2.mono {w w' : World} {B : Nat} {a b : Int} (h : Sq2 w B a b) (hb : Below w.heap.size w w') : Sq2 w' B a b :=
  ⟨box_lt h.c0 hb, box_lt h.c1 hb, (hb.frozen (p := ⟨B, 0, none⟩) h.lt).trans h.f0, (hb.frozen (p := ⟨B, 1, none⟩) h.lt).trans h.f1⟩
theorem Sq2.new (w : World) (a b : Int) (T : TypeId) : Sq2 (w.alloc (.cells #[.int .i64 a, .int .i64 b] T)) w.heap.size a b := ⟨by simp [go_sem], by simp [go_sem], by simp [go_sem], by simp [go_sem]⟩

set_option maxRecDepth 100000 in
set_option maxHeartbeats 4000000 in
theorem pfill_any (x : Nd) (l : Lk) (q : Int) (w : World) (hn : gNd w x) (hg : gLk w l) :
    Calls Try.prog 26 #[vNd x, vLk l, .int .i64 q] w fun e w' => e = .returned (vEn (fillM x l q)) ∧ Below w.heap.size w w' := by
  have hb0 : Below w.heap.size w (((w.alloc (.cells (eNd x).toArray 56)).alloc (.cells (eLk l).toArray 25)).alloc (.cells #[.int .i64 0, .int .i64 0] 38)) := by repeat' (first | exact Below.refl _ _ | assumption | refine Below.more ?_ ?_ _ | refine Below.alloc ?_ ?_ _ | refine Below.drew ?_ | refine below_drewN ?_ _ | refine Below.setCell ?_ ?_ _ | exact Below.size (by assumption) | (simp [go_sem, size_more]; done) | (simp [go_sem, size_more]; omega))
  have hgv := pgiven_any x l q _ (rdNd.mono hn hb0) (rdLk.mono hg hb0)
  have hSU : Sq2 (((w.alloc (.cells (eNd x).toArray 56)).alloc (.cells (eLk l).toArray 25)).alloc (.cells #[.int .i64 0, .int .i64 0] 38)) (w.heap.size + 1 + 1) 0 0 := by
    have h := Sq2.new ((w.alloc (.cells (eNd x).toArray 56)).alloc (.cells (eLk l).toArray 25)) 0 0 38
    rw [show ((w.alloc (.cells (eNd x).toArray 56)).alloc (.cells (eLk l).toArray 25)).heap.size = w.heap.size + 1 + 1 from by simp] at h
    exact h
  clear hn hg
  by_cases hE : (givM x l q).2 = 0
  · obtain ⟨e1, b1, b2, b3, b4, b5, b6, b7⟩ := givM_ok hE
    by_cases hq : q = 0
    · have HF : Hid (fillM x l q = (0, 0, 16)) := by show _ = _; unfold fillM; rw [if_neg (by omega), if_pos hq]
      rw [HF.out]
      simp only [vEn]
      unfold vGiv at hgv
      rw [hE, e1] at hgv
      generalize sumpV x l = sv at *
      obtain ⟨r1, r2, r3⟩ := sv
      simp only at hgv
      subst hq
      clear hE e1 b1 b2 b3 b4 b5 b6 b7 HF
      obtain ⟨nm, fr, tt, kd, ln, up, dn, sc, wi, he, cu⟩ := l
      obtain ⟨m0, m1, m2, m3, m4, m5, m6, m7, m8⟩ := x
      go_enter Try.func26, Try.ntmps26
      go_wp2_with fail
      refine Calls.go hb0 hgv ?_
      rintro e w1 rfl hb1' hb1
      have hSU := hSU.mono hb1'
      have hlt := hSU.lt
      obtain ⟨s0, s1, fs0, fs1⟩ := hSU
      clear hb1' hb0 hgv
      go_wp2_with fail
      exact bodyPost_ret (v := .tuple #[.agg #[.int .i64 0, .int .i64 0], .int .i64 16]) (by simp (maxDischargeDepth := 9) [results, Try.results26, go_sem, s0, s1]) rfl ⟨rfl, by repeat' (first | exact Below.refl _ _ | assumption | refine Below.more ?_ ?_ _ | refine Below.alloc ?_ ?_ _ | refine Below.drew ?_ | refine below_drewN ?_ _ | refine Below.setCell ?_ ?_ _ | exact Below.size (by assumption) | (simp [go_sem, size_more]; done) | (simp [go_sem, size_more]; omega))⟩
    · have HF : Hid (fillM x l q = (((quoN (sumpV x l).1.toNat q.toNat false : Nat) : Int), ((quoN (sumpV x l).1.toNat q.toNat true : Nat) : Int), 0)) := by show _ = _; unfold fillM; rw [if_neg (by omega), if_neg hq]
      rw [HF.out]
      simp only [vEn]
      unfold vGiv at hgv
      rw [hE, e1] at hgv
      generalize sumpV x l = sv at *
      obtain ⟨r1, r2, r3⟩ := sv
      simp only at hgv b1 b2 ⊢
      obtain ⟨V, rfl⟩ : ∃ V : Nat, r1 = (V : Int) := ⟨r1.toNat, by omega⟩
      obtain ⟨Q, rfl⟩ : ∃ Q : Nat, q = (Q : Int) := ⟨q.toNat, by omega⟩
      simp only [Int.toNat_natCast]
      have hQ : 0 < Q := by omega
      have hs1 := quoN_sm (V := V) hQ (by omega) true
      have hsp := fun W => span_any V 1 Q W (by omega) (by decide) (by rw [Nat.mul_one]; omega) hQ (by omega) (by rw [Nat.mul_one]; omega)
      rw [Nat.mul_one] at hsp
      generalize quoN V Q false = q0 at *
      generalize quoN V Q true = q1 at *
      have hsp2 : ∀ W, Calls Try.prog 36 #[.int .i64 (V : Int), .int .i64 1, .int .i64 (Q : Int)] W fun e w' => e = .returned (.tuple #[.agg #[.int .i64 (q0 : Int), .int .i64 (q1 : Int)], .int .i64 0]) ∧ Below W.heap.size W w' := hsp
      have u : ((Q : Int) == 0) = false := by rw [beq_eq_false_iff_ne]; omega
      clear hE e1 b1 b2 b3 b4 b5 b6 b7 HF hsp hq hQ hs1
      obtain ⟨nm, fr, tt, kd, ln, up, dn, sc, wi, he, cu⟩ := l
      obtain ⟨m0, m1, m2, m3, m4, m5, m6, m7, m8⟩ := x
      go_enter Try.func26, Try.ntmps26
      go_wp2_with fail
      refine Calls.go hb0 hgv ?_
      rintro e w1 rfl hb1' hb1
      have hSU := hSU.mono hb1'
      have hlt := hSU.lt
      obtain ⟨s0, s1, fs0, fs1⟩ := hSU
      clear hb1' hb0 hgv
      have hSU2 : Sq2 (w1.alloc (.cells #[.int .i64 (V : Int), .int .i64 r2, .int .i64 r3] 73)) (w.heap.size + 1 + 1) 0 0 := Sq2.mono ⟨s0, s1, fs0, fs1⟩ (alloc_below _ _)
      have hb1 := hb1.alloc hb1.size (.cells #[.int .i64 (V : Int), .int .i64 r2, .int .i64 r3] 73)
      go_wp2_with fail
      refine Calls.go hb1 (hsp2 _) ?_
      rintro e w2 rfl hb2' hb2
      have hSU := hSU2.mono hb2'
      clear s0 s1 fs0 fs1 hlt
      have hlt := hSU.lt
      obtain ⟨s0, s1, fs0, fs1⟩ := hSU
      go_wp2_with fail
      exact bodyPost_ret (v := .tuple #[.agg #[.int .i64 (q0 : Int), .int .i64 (q1 : Int)], .int .i64 0]) (by simp (maxDischargeDepth := 9) [results, Try.results26, go_sem, s0, s1]) rfl ⟨rfl, by repeat' (first | exact Below.refl _ _ | assumption | refine Below.more ?_ ?_ _ | refine Below.alloc ?_ ?_ _ | refine Below.drew ?_ | refine below_drewN ?_ _ | refine Below.setCell ?_ ?_ _ | exact Below.size (by assumption) | (simp [go_sem, size_more]; done) | (simp [go_sem, size_more]; omega))⟩
  · have HF : Hid (fillM x l q = (0, 0, (givM x l q).2)) := by show _ = _; unfold fillM; rw [if_pos hE]
    rw [HF.out]
    simp only [vEn]
    unfold vGiv at hgv
    rw [givM_err hE] at hgv
    generalize (givM x l q).2 = E at *
    have u : (E != 0) = true := by rw [bne_iff_ne]; exact hE
    simp only at hgv
    clear hE HF
    obtain ⟨nm, fr, tt, kd, ln, up, dn, sc, wi, he, cu⟩ := l
    obtain ⟨m0, m1, m2, m3, m4, m5, m6, m7, m8⟩ := x
    go_enter Try.func26, Try.ntmps26
    go_wp2_with fail
    refine Calls.go hb0 hgv ?_
    rintro e w1 rfl hb1' hb1
    have hSU := hSU.mono hb1'
    have hlt := hSU.lt
    obtain ⟨s0, s1, fs0, fs1⟩ := hSU
    clear hb1' hb0 hgv
    go_wp2_with fail
    exact bodyPost_ret (v := .tuple #[.agg #[.int .i64 0, .int .i64 0], .int .i64 E]) (by simp (maxDischargeDepth := 9) [results, Try.results26, go_sem, s0, s1]) rfl ⟨rfl, by repeat' (first | exact Below.refl _ _ | assumption | refine Below.more ?_ ?_ _ | refine Below.alloc ?_ ?_ _ | refine Below.drew ?_ | refine below_drewN ?_ _ | refine Below.setCell ?_ ?_ _ | exact Below.size (by assumption) | (simp [go_sem, size_more]; done) | (simp [go_sem, size_more]; omega))⟩

end Go.Proofs.Ytmpegbebjefkaaa
