/- A pump with its sump: given, Fill, Drain, Enough; slight. Conditions: the node and the link read as data. -/
import Derived.Test.YtmpegbebjefkaaaSto
import Derived.Test.YtmpegbebjefkaaaPsp
import Derived.Test.YtmpegbebjefkaaaPaw
import Derived.Test.YtmpegbebjefkaaaPtw
namespace Go.Proofs.Ytmpegbebjefkaaa
open Go.RowKit
set_option linter.unusedVariables false
set_option linter.unusedSimpArgs false

def sumpB (x : Nd) (l : Lk) : Bool := ndB x && !decide (x.Kind = 3) && decide (x.Inv ≤ l.Down) && decide (l.Up ≤ x.Gr)
/-- What given answers: the sump and the error. -/
def givM (x : Nd) (l : Lk) (q : Int) : (Int × Int × Int) × Int :=
  if pumpB l = false then ((0, 0, 0), 1) else if sumpB x l = false then ((0, 0, 0), 25) else if btwB q 0 1099511627776 = false then ((0, 0, 0), 2)
  else ((volV x l.Up - volV x l.Down, flV l.Cu.xs 1000 (l.Down - x.Inv), flV l.Cu.xs 1000 (l.Up - x.Inv)), 0)

theorem volV_bd {x : Nd} (h : ndB x = true) (n : Int) : 0 ≤ volV x n ∧ volV x n ≤ 1125899906842624 := by
  unfold volV
  by_cases hk : x.Kind = 3
  · rw [if_pos hk]; decide
  · rw [if_neg hk]
    have := shapeB_bd (ndB_shape h hk).2 (n - x.Inv)
    omega

/-- A block of three ints that may be written. -/
structure Su (w : World) (B : Nat) (a b c : Int) : Prop where
  c0 : w.cell? ⟨B, 0, none⟩ = some (.int .i64 a)
  c1 : w.cell? ⟨B, 1, none⟩ = some (.int .i64 b)
  c2 : w.cell? ⟨B, 2, none⟩ = some (.int .i64 c)
  f0 : w.frozen? ⟨B, 0, none⟩ = false
  f1 : w.frozen? ⟨B, 1, none⟩ = false
  f2 : w.frozen? ⟨B, 2, none⟩ = false
theorem Su.lt {w : World} {B : Nat} {a b c : Int} (h : Su w B a b c) : B < w.heap.size := lt_of_isSome (a := ⟨B, 0, none⟩) (by rw [h.c0]; rfl)
theorem Su.mono {w w' : World} {B : Nat} {a b c : Int} (h : Su w B a b c) (hb : Below w.heap.size w w') : Su w' B a b c :=
  ⟨box_lt h.c0 hb, box_lt h.c1 hb, box_lt h.c2 hb, (hb.frozen (p := ⟨B, 0, none⟩) h.lt).trans h.f0, (hb.frozen (p := ⟨B, 1, none⟩) h.lt).trans h.f1, (hb.frozen (p := ⟨B, 2, none⟩) h.lt).trans h.f2⟩
theorem Su.new (w : World) (a b c : Int) (T : TypeId) : Su (w.alloc (.cells #[.int .i64 a, .int .i64 b, .int .i64 c] T)) w.heap.size a b c := ⟨by simp [go_sem], by simp [go_sem], by simp [go_sem], by simp [go_sem], by simp [go_sem], by simp [go_sem]⟩

def vGiv (r : (Int × Int × Int) × Int) : Value := .tuple #[.agg #[.int .i64 r.1.1, .int .i64 r.1.2.1, .int .i64 r.1.2.2], .int .i64 r.2]

set_option maxRecDepth 100000 in
set_option maxHeartbeats 8000000 in
theorem pgiven_any (x : Nd) (l : Lk) (q : Int) (w : World) (hn : gNd w x) (hg : gLk w l) :
    Calls Try.prog 43 #[vNd x, vLk l, .int .i64 q] w fun e w' => e = .returned (vGiv (givM x l q)) ∧ Below w.heap.size w w' := by
  have hb0 : Below w.heap.size w (((w.alloc (.cells (eNd x).toArray 56)).alloc (.cells (eLk l).toArray 25)).alloc (.cells #[.int .i64 0, .int .i64 0, .int .i64 0] 73)) := by repeat' (first | exact Below.refl _ _ | assumption | refine Below.more ?_ ?_ _ | refine Below.alloc ?_ ?_ _ | refine Below.drew ?_ | refine below_drewN ?_ _ | refine Below.setCell ?_ ?_ _ | exact Below.size (by assumption) | (simp [go_sem, size_more]; done) | (simp [go_sem, size_more]; omega))
  have HN := Lib.hid (rdNd.mono hn hb0)
  have HG := Lib.hid (rdLk.mono hg hb0)
  have HNX : Hid (NdBx (((w.alloc (.cells (eNd x).toArray 56)).alloc (.cells (eLk l).toArray 25)).alloc (.cells #[.int .i64 0, .int .i64 0, .int .i64 0] 73)) w.heap.size x) :=
    ((NdBx.new w x 56).mono (alloc_below _ _)).mono (alloc_below _ _)
  have HBX : Hid (LkBx (((w.alloc (.cells (eNd x).toArray 56)).alloc (.cells (eLk l).toArray 25)).alloc (.cells #[.int .i64 0, .int .i64 0, .int .i64 0] 73)) (w.heap.size + 1) l) := by
    have h := (LkBx.new (w.alloc (.cells (eNd x).toArray 56)) l 25).mono (alloc_below _ (.cells #[.int .i64 0, .int .i64 0, .int .i64 0] 73))
    rw [show (w.alloc (.cells (eNd x).toArray 56)).heap.size = w.heap.size + 1 from by simp] at h
    exact h
  have HSU : Hid (Su (((w.alloc (.cells (eNd x).toArray 56)).alloc (.cells (eLk l).toArray 25)).alloc (.cells #[.int .i64 0, .int .i64 0, .int .i64 0] 73)) (w.heap.size + 1 + 1) 0 0 0) := by
    have h := Su.new ((w.alloc (.cells (eNd x).toArray 56)).alloc (.cells (eLk l).toArray 25)) 0 0 0 73
    rw [show ((w.alloc (.cells (eNd x).toArray 56)).alloc (.cells (eLk l).toArray 25)).heap.size = w.heap.size + 1 + 1 from by simp] at h
    exact h
  have hcap := fun W (hW : gNd W x) => scapX_any x W hW
  have hpv := fun W (hW : gLk W l) => pvalid_any l W hW
  have hwi := fun W => pwithin_any q 0 1099511627776 W
  have hvo := fun (n : Int) W (hW : gNd W x) => svol_any x n W hW
  obtain ⟨⟨⟨r1, r2, r3⟩, E⟩, hres⟩ : ∃ r, givM x l q = r := ⟨_, rfl⟩
  have HRES := Lib.hid hres
  rw [hres]
  simp only [vGiv]
  clear hres hn hg
  cases hpb : pumpB l
  · have h2 := HRES.out.symm.trans (show givM x l q = ((0, 0, 0), 1) from by simp only [givM, hpb, if_true])
    simp only [Prod.mk.injEq] at h2
    obtain ⟨⟨rfl, rfl, rfl⟩, rfl⟩ := h2
    have hpv := fun W hW => (hpb ▸ hpv W hW : Calls Try.prog 20 #[vLk l] W fun e w' => e = .returned (.bool false) ∧ Below W.heap.size W w')
    clear hpb HRES hwi hvo
    obtain ⟨nm, fr, tt, kd, ln, up, dn, sc, wi, he, cu⟩ := l
    obtain ⟨m0, m1, m2, m3, m4, m5, m6, m7, m8⟩ := x
    obtain ⟨c0, c1, c2, c3, c4, c5, c6, c7, c8, c9, c10⟩ := HBX.out
    simp only at c0 c1 c2 c3 c4 c5 c6 c7 c8 c9 c10
    obtain ⟨n0, n1, n2, n3, n4, n5, n6, n7, n8⟩ := HNX.out
    simp only at n0 n1 n2 n3 n4 n5 n6 n7 n8
    go_enter Try.func43, Try.ntmps43
    go_wp2_with fail
    refine Calls.go hb0 (hcap _ HN.out) ?_
    rintro e w1 rfl hb1' hb1
    clear c0 c1 c2 c3 c4 c5 c6 c7 c8 c9 c10 n0 n1 n2 n3 n4 n5 n6 n7 n8
    have HBX := Lib.hid (HBX.out.mono hb1')
    have HNX := Lib.hid (HNX.out.mono hb1')
    have HSU := Lib.hid (HSU.out.mono hb1')
    have HG := Lib.hid (rdLk.mono HG.out hb1')
    have HN := Lib.hid (rdNd.mono HN.out hb1')
    obtain ⟨c0, c1, c2, c3, c4, c5, c6, c7, c8, c9, c10⟩ := HBX.out
    simp only at c0 c1 c2 c3 c4 c5 c6 c7 c8 c9 c10
    obtain ⟨n0, n1, n2, n3, n4, n5, n6, n7, n8⟩ := HNX.out
    simp only at n0 n1 n2 n3 n4 n5 n6 n7 n8
    clear hb1' hb0 hcap
    go_wp2_with fail
    refine Calls.go hb1 (hpv _ HG.out) ?_
    rintro e w2 rfl hb2' hb2
    clear c0 c1 c2 c3 c4 c5 c6 c7 c8 c9 c10 n0 n1 n2 n3 n4 n5 n6 n7 n8
    have HBX := Lib.hid (HBX.out.mono hb2')
    have HNX := Lib.hid (HNX.out.mono hb2')
    have HSU := Lib.hid (HSU.out.mono hb2')
    have HG := Lib.hid (rdLk.mono HG.out hb2')
    have HN := Lib.hid (rdNd.mono HN.out hb2')
    obtain ⟨c0, c1, c2, c3, c4, c5, c6, c7, c8, c9, c10⟩ := HBX.out
    simp only at c0 c1 c2 c3 c4 c5 c6 c7 c8 c9 c10
    obtain ⟨n0, n1, n2, n3, n4, n5, n6, n7, n8⟩ := HNX.out
    simp only at n0 n1 n2 n3 n4 n5 n6 n7 n8
    clear hb2' hb1 hpv
    clear c0 c1 c2 c3 c4 c5 c6 c7 c8 c9 c10 n0 n1 n2 n3 n4 n5 n6 n7 n8
    have hlt := HSU.out.lt
    obtain ⟨s0, s1, s2, fs0, fs1, fs2⟩ := HSU.out
    go_wp2_with fail
    exact bodyPost_ret (v := .tuple #[.agg #[.int .i64 0, .int .i64 0, .int .i64 0], .int .i64 1]) (by simp (maxDischargeDepth := 9) [results, Try.results43, go_sem, s0, s1, s2]) rfl ⟨rfl, by repeat' (first | exact Below.refl _ _ | assumption | refine Below.more ?_ ?_ _ | refine Below.alloc ?_ ?_ _ | refine Below.drew ?_ | refine below_drewN ?_ _ | refine Below.setCell ?_ ?_ _ | exact Below.size (by assumption) | (simp [go_sem, size_more]; done) | (simp [go_sem, size_more]; omega))⟩
  have hpv := fun W hW => (hpb ▸ hpv W hW : Calls Try.prog 20 #[vLk l] W fun e w' => e = .returned (.bool true) ∧ Below W.heap.size W w')
  have hcv := pumpB_curve hpb
  have hdu := pumpB_down hpb
  by_cases hs : sumpB x l = false
  · have h2 := HRES.out.symm.trans (show givM x l q = ((0, 0, 0), 25) from by simp only [givM, hpb, hs]; rfl)
    simp only [Prod.mk.injEq] at h2
    obtain ⟨⟨rfl, rfl, rfl⟩, rfl⟩ := h2
    have hcx : capXB x = (if ndB x then (capB x, 0) else (0, 1)) := rfl
    unfold sumpB at hs
    clear hpb HRES hwi hvo hcv hdu
    generalize ndB x = nb at *
    obtain ⟨nm, fr, tt, kd, ln, up, dn, sc, wi, he, cu⟩ := l
    obtain ⟨m0, m1, m2, m3, m4, m5, m6, m7, m8⟩ := x
    obtain ⟨c0, c1, c2, c3, c4, c5, c6, c7, c8, c9, c10⟩ := HBX.out
    simp only at c0 c1 c2 c3 c4 c5 c6 c7 c8 c9 c10
    obtain ⟨n0, n1, n2, n3, n4, n5, n6, n7, n8⟩ := HNX.out
    simp only at n0 n1 n2 n3 n4 n5 n6 n7 n8
    simp only at hs
    obtain ⟨k3, hk3⟩ : ∃ k3, (m1 == 3) = k3 := ⟨_, rfl⟩
    rw [show decide (m1 = 3) = (m1 == 3) from by rw [Bool.eq_iff_iff]; simp, hk3] at hs
    have t2 : decide (dn < m4) = !decide (m4 ≤ dn) := by rw [Bool.eq_iff_iff]; simp
    have t3 : decide (m5 < up) = !decide (up ≤ m5) := by rw [Bool.eq_iff_iff]; simp
    generalize decide (m4 ≤ dn) = b2 at *
    generalize decide (up ≤ m5) = b3 at *
    rw [hcx] at hcap
    cases nb
    · clear hcx t2 t3 hs hk3
      simp only [Bool.false_eq_true, if_false] at hcap
      go_enter Try.func43, Try.ntmps43
      go_wp2_with fail
      refine Calls.go hb0 (hcap _ HN.out) ?_
      rintro e w1 rfl hb1' hb1
      clear c0 c1 c2 c3 c4 c5 c6 c7 c8 c9 c10 n0 n1 n2 n3 n4 n5 n6 n7 n8
      have HBX := Lib.hid (HBX.out.mono hb1')
      have HNX := Lib.hid (HNX.out.mono hb1')
      have HSU := Lib.hid (HSU.out.mono hb1')
      have HG := Lib.hid (rdLk.mono HG.out hb1')
      have HN := Lib.hid (rdNd.mono HN.out hb1')
      obtain ⟨c0, c1, c2, c3, c4, c5, c6, c7, c8, c9, c10⟩ := HBX.out
      simp only at c0 c1 c2 c3 c4 c5 c6 c7 c8 c9 c10
      obtain ⟨n0, n1, n2, n3, n4, n5, n6, n7, n8⟩ := HNX.out
      simp only at n0 n1 n2 n3 n4 n5 n6 n7 n8
      clear hb1' hb0 hcap
      go_wp2_with fail
      refine Calls.go hb1 (hpv _ HG.out) ?_
      rintro e w2 rfl hb2' hb2
      clear c0 c1 c2 c3 c4 c5 c6 c7 c8 c9 c10 n0 n1 n2 n3 n4 n5 n6 n7 n8
      have HBX := Lib.hid (HBX.out.mono hb2')
      have HNX := Lib.hid (HNX.out.mono hb2')
      have HSU := Lib.hid (HSU.out.mono hb2')
      have HG := Lib.hid (rdLk.mono HG.out hb2')
      have HN := Lib.hid (rdNd.mono HN.out hb2')
      obtain ⟨c0, c1, c2, c3, c4, c5, c6, c7, c8, c9, c10⟩ := HBX.out
      simp only at c0 c1 c2 c3 c4 c5 c6 c7 c8 c9 c10
      obtain ⟨n0, n1, n2, n3, n4, n5, n6, n7, n8⟩ := HNX.out
      simp only at n0 n1 n2 n3 n4 n5 n6 n7 n8
      clear hb2' hb1 hpv
      have hlt := HSU.out.lt
      obtain ⟨s0, s1, s2, fs0, fs1, fs2⟩ := HSU.out
      go_wp2_with fail
      exact bodyPost_ret (v := .tuple #[.agg #[.int .i64 0, .int .i64 0, .int .i64 0], .int .i64 25]) (by simp (maxDischargeDepth := 9) [results, Try.results43, go_sem, s0, s1, s2]) rfl ⟨rfl, by repeat' (first | exact Below.refl _ _ | assumption | refine Below.more ?_ ?_ _ | refine Below.alloc ?_ ?_ _ | refine Below.drew ?_ | refine below_drewN ?_ _ | refine Below.setCell ?_ ?_ _ | exact Below.size (by assumption) | (simp [go_sem, size_more]; done) | (simp [go_sem, size_more]; omega))⟩
    all_goals
      simp only [if_true] at hcap
      generalize capB (Nd.mk m0 m1 m2 m3 m4 m5 m6 m7 m8) = cp at *
      clear hcx
      cases k3 <;> cases b2 <;> cases b3
      all_goals
        first
        | (exfalso; revert hs; decide)
        | (simp only [Bool.not_true, Bool.not_false] at t2 t3
           clear hs
           go_enter Try.func43, Try.ntmps43
           go_wp2_with fail
           refine Calls.go hb0 (hcap _ HN.out) ?_
           rintro e w1 rfl hb1' hb1
           clear c0 c1 c2 c3 c4 c5 c6 c7 c8 c9 c10 n0 n1 n2 n3 n4 n5 n6 n7 n8
           have HBX := Lib.hid (HBX.out.mono hb1')
           have HNX := Lib.hid (HNX.out.mono hb1')
           have HSU := Lib.hid (HSU.out.mono hb1')
           have HG := Lib.hid (rdLk.mono HG.out hb1')
           obtain ⟨c0, c1, c2, c3, c4, c5, c6, c7, c8, c9, c10⟩ := HBX.out
           simp only at c0 c1 c2 c3 c4 c5 c6 c7 c8 c9 c10
           clear hb1' hb0 hcap
           go_wp2_with fail
           refine Calls.go hb1 (hpv _ HG.out) ?_
           rintro e w2 rfl hb2' hb2
           clear c0 c1 c2 c3 c4 c5 c6 c7 c8 c9 c10
           have HBX := Lib.hid (HBX.out.mono hb2')
           have HNX := Lib.hid (HNX.out.mono hb2')
           have HSU := Lib.hid (HSU.out.mono hb2')
           obtain ⟨c0, c1, c2, c3, c4, c5, c6, c7, c8, c9, c10⟩ := HBX.out
           simp only at c0 c1 c2 c3 c4 c5 c6 c7 c8 c9 c10
           obtain ⟨n0, n1, n2, n3, n4, n5, n6, n7, n8⟩ := HNX.out
           simp only at n0 n1 n2 n3 n4 n5 n6 n7 n8
           clear hb2' hb1 hpv
           have hlt := HSU.out.lt
           obtain ⟨s0, s1, s2, fs0, fs1, fs2⟩ := HSU.out
           go_wp2_with fail
           exact bodyPost_ret (v := .tuple #[.agg #[.int .i64 0, .int .i64 0, .int .i64 0], .int .i64 25]) (by simp (maxDischargeDepth := 9) [results, Try.results43, go_sem, s0, s1, s2]) rfl ⟨rfl, by repeat' (first | exact Below.refl _ _ | assumption | refine Below.more ?_ ?_ _ | refine Below.alloc ?_ ?_ _ | refine Below.drew ?_ | refine below_drewN ?_ _ | refine Below.setCell ?_ ?_ _ | exact Below.size (by assumption) | (simp [go_sem, size_more]; done) | (simp [go_sem, size_more]; omega))⟩)
  have hs' : sumpB x l = true := by simpa using hs
  simp only [sumpB, Bool.and_eq_true, Bool.not_eq_true', decide_eq_false_iff_not, decide_eq_true_eq] at hs'
  obtain ⟨⟨⟨hnb, hk3⟩, hi⟩, hu⟩ := hs'
  have hcx : capXB x = (capB x, 0) := by simp [capXB, hnb]
  rw [hcx] at hcap
  have u1 : (x.Kind == 3) = false := beqF hk3
  have t2 : decide (l.Down < x.Inv) = false := decide_eq_false (by omega)
  have t3 : decide (x.Gr < l.Up) = false := decide_eq_false (by omega)
  have hlv := ndB_lv hnb
  have hsb : sumpB x l = true := by simpa using hs
  clear hs hcx
  generalize capB x = cp at *
  cases hq : btwB q 0 1099511627776
  · have h2 := HRES.out.symm.trans (show givM x l q = ((0, 0, 0), 2) from by simp only [givM, hpb, hsb, hq]; rfl)
    simp only [Prod.mk.injEq] at h2
    obtain ⟨⟨rfl, rfl, rfl⟩, rfl⟩ := h2
    rw [hq] at hwi
    clear hpb HRES hvo hcv hdu hi hu hnb hk3 hlv hsb hq
    obtain ⟨nm, fr, tt, kd, ln, up, dn, sc, wi, he, cu⟩ := l
    obtain ⟨m0, m1, m2, m3, m4, m5, m6, m7, m8⟩ := x
    simp only at u1 t2 t3
    obtain ⟨c0, c1, c2, c3, c4, c5, c6, c7, c8, c9, c10⟩ := HBX.out
    simp only at c0 c1 c2 c3 c4 c5 c6 c7 c8 c9 c10
    obtain ⟨n0, n1, n2, n3, n4, n5, n6, n7, n8⟩ := HNX.out
    simp only at n0 n1 n2 n3 n4 n5 n6 n7 n8
    go_enter Try.func43, Try.ntmps43
    go_wp2_with fail
    refine Calls.go hb0 (hcap _ HN.out) ?_
    rintro e w1 rfl hb1' hb1
    clear c0 c1 c2 c3 c4 c5 c6 c7 c8 c9 c10 n0 n1 n2 n3 n4 n5 n6 n7 n8
    have HBX := Lib.hid (HBX.out.mono hb1')
    have HNX := Lib.hid (HNX.out.mono hb1')
    have HSU := Lib.hid (HSU.out.mono hb1')
    have HG := Lib.hid (rdLk.mono HG.out hb1')
    have HN := Lib.hid (rdNd.mono HN.out hb1')
    obtain ⟨c0, c1, c2, c3, c4, c5, c6, c7, c8, c9, c10⟩ := HBX.out
    simp only at c0 c1 c2 c3 c4 c5 c6 c7 c8 c9 c10
    obtain ⟨n0, n1, n2, n3, n4, n5, n6, n7, n8⟩ := HNX.out
    simp only at n0 n1 n2 n3 n4 n5 n6 n7 n8
    clear hb1' hb0 hcap
    go_wp2_with fail
    refine Calls.go hb1 (hpv _ HG.out) ?_
    rintro e w2 rfl hb2' hb2
    clear c0 c1 c2 c3 c4 c5 c6 c7 c8 c9 c10 n0 n1 n2 n3 n4 n5 n6 n7 n8
    have HBX := Lib.hid (HBX.out.mono hb2')
    have HNX := Lib.hid (HNX.out.mono hb2')
    have HSU := Lib.hid (HSU.out.mono hb2')
    have HG := Lib.hid (rdLk.mono HG.out hb2')
    have HN := Lib.hid (rdNd.mono HN.out hb2')
    obtain ⟨c0, c1, c2, c3, c4, c5, c6, c7, c8, c9, c10⟩ := HBX.out
    simp only at c0 c1 c2 c3 c4 c5 c6 c7 c8 c9 c10
    obtain ⟨n0, n1, n2, n3, n4, n5, n6, n7, n8⟩ := HNX.out
    simp only at n0 n1 n2 n3 n4 n5 n6 n7 n8
    clear hb2' hb1 hpv
    go_wp2_with fail
    refine (hwi _).mono ?_
    rintro _ _ ⟨rfl, rfl⟩
    have hlt := HSU.out.lt
    obtain ⟨s0, s1, s2, fs0, fs1, fs2⟩ := HSU.out
    go_wp2_with fail
    exact bodyPost_ret (v := .tuple #[.agg #[.int .i64 0, .int .i64 0, .int .i64 0], .int .i64 2]) (by simp (maxDischargeDepth := 9) [results, Try.results43, go_sem, s0, s1, s2]) rfl ⟨rfl, by repeat' (first | exact Below.refl _ _ | assumption | refine Below.more ?_ ?_ _ | refine Below.alloc ?_ ?_ _ | refine Below.drew ?_ | refine below_drewN ?_ _ | refine Below.setCell ?_ ?_ _ | exact Below.size (by assumption) | (simp [go_sem, size_more]; done) | (simp [go_sem, size_more]; omega))⟩
  have h2 := HRES.out.symm.trans (show givM x l q = ((volV x l.Up - volV x l.Down, flV l.Cu.xs 1000 (l.Down - x.Inv), flV l.Cu.xs 1000 (l.Up - x.Inv)), 0) from by simp only [givM, hpb, hsb, hq]; rfl)
  simp only [Prod.mk.injEq] at h2
  obtain ⟨⟨e1, e2, e3⟩, rfl⟩ := h2
  rw [hq] at hwi
  have hv1 := fun W hW => hvo l.Up W hW
  have hv2 := fun W hW => hvo l.Down W hW
  rw [show volXM x l.Up = (volV x l.Up, 0) from by simp only [volXM, hnb, show btwB l.Up x.Inv x.Gr = true from by simp [btwB]; omega]; rfl] at hv1
  rw [show volXM x l.Down = (volV x l.Down, 0) from by simp only [volXM, hnb, show btwB l.Down x.Inv x.Gr = true from by simp [btwB]; omega]; rfl] at hv2
  have hf1 := fun W hW => pflow0_any l 1000 (l.Down - x.Inv) W hW hcv (by decide) (by decide)
  have hf2 := fun W hW => pflow0_any l 1000 (l.Up - x.Inv) W hW hcv (by decide) (by decide)
  have bv1 := volV_bd hnb l.Up
  have bv2 := volV_bd hnb l.Down
  rw [← e2] at hf1
  rw [← e3] at hf2
  have x1 : IntKind.i64.wrap (l.Down - x.Inv) = l.Down - x.Inv := IntWalk.i64_in _ (by omega)
  have x2 : IntKind.i64.wrap (l.Up - x.Inv) = l.Up - x.Inv := IntWalk.i64_in _ (by omega)
  have x3 : IntKind.i64.wrap (volV x l.Up - volV x l.Down) = r1 := by rw [e1]; exact IntWalk.i64_in _ (by omega)
  generalize volV x l.Up = V1 at *
  generalize volV x l.Down = V2 at *
  clear hpb HRES hvo hcv hdu hi hu hnb hk3 hlv hsb hq e1 e2 e3 bv1 bv2
  obtain ⟨nm, fr, tt, kd, ln, up, dn, sc, wi, he, cu⟩ := l
  obtain ⟨m0, m1, m2, m3, m4, m5, m6, m7, m8⟩ := x
  simp only at u1 t2 t3 x1 x2 hv1 hv2 hf1 hf2
  obtain ⟨c0, c1, c2, c3, c4, c5, c6, c7, c8, c9, c10⟩ := HBX.out
  simp only at c0 c1 c2 c3 c4 c5 c6 c7 c8 c9 c10
  obtain ⟨n0, n1, n2, n3, n4, n5, n6, n7, n8⟩ := HNX.out
  simp only at n0 n1 n2 n3 n4 n5 n6 n7 n8
  go_enter Try.func43, Try.ntmps43
  go_wp2_with fail
  refine Calls.go hb0 (hcap _ HN.out) ?_
  rintro e w1 rfl hb1' hb1
  clear c0 c1 c2 c3 c4 c5 c6 c7 c8 c9 c10 n0 n1 n2 n3 n4 n5 n6 n7 n8
  have HBX := Lib.hid (HBX.out.mono hb1')
  have HNX := Lib.hid (HNX.out.mono hb1')
  have HSU := Lib.hid (HSU.out.mono hb1')
  have HG := Lib.hid (rdLk.mono HG.out hb1')
  have HN := Lib.hid (rdNd.mono HN.out hb1')
  obtain ⟨c0, c1, c2, c3, c4, c5, c6, c7, c8, c9, c10⟩ := HBX.out
  simp only at c0 c1 c2 c3 c4 c5 c6 c7 c8 c9 c10
  obtain ⟨n0, n1, n2, n3, n4, n5, n6, n7, n8⟩ := HNX.out
  simp only at n0 n1 n2 n3 n4 n5 n6 n7 n8
  clear hb1' hb0 hcap
  go_wp2_with fail
  refine Calls.go hb1 (hpv _ HG.out) ?_
  rintro e w2 rfl hb2' hb2
  clear c0 c1 c2 c3 c4 c5 c6 c7 c8 c9 c10 n0 n1 n2 n3 n4 n5 n6 n7 n8
  have HBX := Lib.hid (HBX.out.mono hb2')
  have HNX := Lib.hid (HNX.out.mono hb2')
  have HSU := Lib.hid (HSU.out.mono hb2')
  have HG := Lib.hid (rdLk.mono HG.out hb2')
  have HN := Lib.hid (rdNd.mono HN.out hb2')
  obtain ⟨c0, c1, c2, c3, c4, c5, c6, c7, c8, c9, c10⟩ := HBX.out
  simp only at c0 c1 c2 c3 c4 c5 c6 c7 c8 c9 c10
  obtain ⟨n0, n1, n2, n3, n4, n5, n6, n7, n8⟩ := HNX.out
  simp only at n0 n1 n2 n3 n4 n5 n6 n7 n8
  clear hb2' hb1 hpv
  go_wp2_with fail
  refine (hwi _).mono ?_
  rintro _ _ ⟨rfl, rfl⟩
  go_wp2_with fail
  refine Calls.go hb2 (hv1 _ HN.out) ?_
  rintro e w3 rfl hb3' hb3
  clear c0 c1 c2 c3 c4 c5 c6 c7 c8 c9 c10 n0 n1 n2 n3 n4 n5 n6 n7 n8
  have HBX := Lib.hid (HBX.out.mono hb3')
  have HNX := Lib.hid (HNX.out.mono hb3')
  have HSU := Lib.hid (HSU.out.mono hb3')
  have HG := Lib.hid (rdLk.mono HG.out hb3')
  have HN := Lib.hid (rdNd.mono HN.out hb3')
  obtain ⟨c0, c1, c2, c3, c4, c5, c6, c7, c8, c9, c10⟩ := HBX.out
  simp only at c0 c1 c2 c3 c4 c5 c6 c7 c8 c9 c10
  obtain ⟨n0, n1, n2, n3, n4, n5, n6, n7, n8⟩ := HNX.out
  simp only at n0 n1 n2 n3 n4 n5 n6 n7 n8
  clear hb3' hb2 hv1 hwi
  go_wp2_with fail
  refine Calls.go hb3 (hv2 _ HN.out) ?_
  rintro e w4 rfl hb4' hb4
  clear c0 c1 c2 c3 c4 c5 c6 c7 c8 c9 c10 n0 n1 n2 n3 n4 n5 n6 n7 n8
  have HBX := Lib.hid (HBX.out.mono hb4')
  have HNX := Lib.hid (HNX.out.mono hb4')
  have HSU := Lib.hid (HSU.out.mono hb4')
  have HG := Lib.hid (rdLk.mono HG.out hb4')
  have HN := Lib.hid (rdNd.mono HN.out hb4')
  obtain ⟨c0, c1, c2, c3, c4, c5, c6, c7, c8, c9, c10⟩ := HBX.out
  simp only at c0 c1 c2 c3 c4 c5 c6 c7 c8 c9 c10
  obtain ⟨n0, n1, n2, n3, n4, n5, n6, n7, n8⟩ := HNX.out
  simp only at n0 n1 n2 n3 n4 n5 n6 n7 n8
  clear hb4' hb3 hv2
  go_wp2_with fail
  refine Calls.go hb4 (hf1 _ HG.out) ?_
  rintro e w5 rfl hb5' hb5
  clear c0 c1 c2 c3 c4 c5 c6 c7 c8 c9 c10 n0 n1 n2 n3 n4 n5 n6 n7 n8
  have HBX := Lib.hid (HBX.out.mono hb5')
  have HNX := Lib.hid (HNX.out.mono hb5')
  have HSU := Lib.hid (HSU.out.mono hb5')
  have HG := Lib.hid (rdLk.mono HG.out hb5')
  have HN := Lib.hid (rdNd.mono HN.out hb5')
  obtain ⟨c0, c1, c2, c3, c4, c5, c6, c7, c8, c9, c10⟩ := HBX.out
  simp only at c0 c1 c2 c3 c4 c5 c6 c7 c8 c9 c10
  obtain ⟨n0, n1, n2, n3, n4, n5, n6, n7, n8⟩ := HNX.out
  simp only at n0 n1 n2 n3 n4 n5 n6 n7 n8
  clear hb5' hb4 hf1
  go_wp2_with fail
  refine Calls.go hb5 (hf2 _ HG.out) ?_
  rintro e w6 rfl hb6' hb6
  clear c0 c1 c2 c3 c4 c5 c6 c7 c8 c9 c10 n0 n1 n2 n3 n4 n5 n6 n7 n8
  have HSU := Lib.hid (HSU.out.mono hb6')
  clear hb6' hb5 hf2
  have hlt := HSU.out.lt
  obtain ⟨s0, s1, s2, fs0, fs1, fs2⟩ := HSU.out
  go_wp2_with fail
  exact bodyPost_ret (v := .tuple #[.agg #[.int .i64 r1, .int .i64 r2, .int .i64 r3], .int .i64 0]) (by simp (maxDischargeDepth := 9) [results, Try.results43, go_sem, s0, s1, s2]) rfl ⟨rfl, by repeat' (first | exact Below.refl _ _ | assumption | refine Below.more ?_ ?_ _ | refine Below.alloc ?_ ?_ _ | refine Below.drew ?_ | refine below_drewN ?_ _ | refine Below.setCell ?_ ?_ _ | exact Below.size (by assumption) | (simp [go_sem, size_more]; done) | (simp [go_sem, size_more]; omega))⟩

set_option maxRecDepth 100000 in
set_option maxHeartbeats 1000000 in
theorem pslight_any (x : Nd) (w : World) : Calls Try.prog 25 #[vNd x] w fun e w' => IsBool e ∧ Below w.heap.size w w' := by
  have hb0 := alloc_below w (.cells (eNd x).toArray 56)
  cases h1 : decide ((x.Sh.xs.length : Int) ≤ 110)
  all_goals
    obtain ⟨m0, m1, m2, m3, m4, m5, m6, m7, m8⟩ := x
    simp only at h1
    go_enter Try.func25, Try.ntmps25
    go_wp2_with fail
    go_ret
    exact ⟨isBool _, by repeat' (first | exact Below.refl _ _ | assumption | refine Below.more ?_ ?_ _ | refine Below.alloc ?_ ?_ _ | refine Below.drew ?_ | refine below_drewN ?_ _ | refine Below.setCell ?_ ?_ _ | exact Below.size (by assumption) | (simp [go_sem, size_more]; done) | (simp [go_sem, size_more]; omega))⟩

end Go.Proofs.Ytmpegbebjefkaaa
