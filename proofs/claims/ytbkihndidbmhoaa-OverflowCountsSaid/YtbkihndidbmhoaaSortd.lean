/- slices.SortStableFunc at int: symMerge in whole. Conditions: fewer than 2^31 elements; the row is the caller's own; the comparison reads only. -/
import Derived.Test.YtbkihndidbmhoaaSortc
import Derived.Deep.DeepCutAuto
namespace Go.Proofs.Ytbkihndidbmhoaa
open Go.RowKit
set_option linter.unusedVariables false
set_option linter.unusedSimpArgs false

theorem rotate_at (fv : Value) (P A B T : List Int) (X Y Z : Int) (base : Nat) (v : Value) (w : World) (hown : Own base 3 eInt 1 w v (P ++ A ++ B ++ T)) (hbase : base ≤ w.heap.size)
    (hA : 0 < A.length) (hB : 0 < B.length) (hX : X = P.length) (hY : Y = P.length + A.length) (hZ : Z = P.length + A.length + B.length) (hlen : P.length + A.length + B.length + T.length < 2147483648) :
    Calls Try.prog 120 #[v, .int .i64 X, .int .i64 Y, .int .i64 Z, fv] w fun e w' => e = .returned (.tuple #[]) ∧ Own base 3 eInt 1 w' v (P ++ B ++ A ++ T) ∧ Below base w w' := by
  subst hX; subst hY; subst hZ
  exact rotate_any fv P A B T base v w hown hbase hA hB hlen

theorem sorted_app {R : Int → Int → Prop} {A B SA SB : List Int} (h1 : SortedOf R A SA) (h2 : SortedOf R B SB) (h : ∀ x ∈ A, ∀ y ∈ B, R x y) : SortedOf R (A ++ B) (SA ++ SB) :=
  ⟨h1.1.append h2.1, List.pairwise_append.2 ⟨h1.2, h2.2, fun x hx y hy => h x (h1.1.mem_iff.1 hx) y (h2.1.mem_iff.1 hy)⟩⟩

/-- The last step of symMerge: two sorted halves. -/
theorem sym_fin {R : Int → Int → Prop} {L M L1 L2 M1 M2 S1 S2 : List Int} (hL : L = L1 ++ L2) (hM : M = M1 ++ M2) (h1 : SortedOf R (L1 ++ M1) S1) (h2 : SortedOf R (L2 ++ M2) S2) (h : ∀ x ∈ L1 ++ M1, ∀ y ∈ L2 ++ M2, R x y) : SortedOf R (L ++ M) (S1 ++ S2) := by
  have := sorted_app h1 h2 h
  refine ⟨this.1.trans ?_, this.2⟩
  subst hL; subst hM
  have e1 : (L1 ++ M1) ++ (L2 ++ M2) = L1 ++ ((M1 ++ L2) ++ M2) := by simp
  have e2 : (L1 ++ L2) ++ (M1 ++ M2) = L1 ++ ((L2 ++ M1) ++ M2) := by simp
  rw [e1, e2]
  exact (List.perm_append_left_iff L1).2 ((List.perm_append_right_iff M2).2 List.perm_append_comm)

theorem sorted_self {R : Int → Int → Prop} {L : List Int} (h : L.Pairwise R) : SortedOf R L L := ⟨List.Perm.refl _, h⟩

set_option maxRecDepth 1000000 in
set_option maxHeartbeats 8000000 in
theorem sym_any (g : Nat) (lb : Array Value) (eg : ∀ args w, (callFunc g args).run Try.prog w = .ok (.enter g args) w) (c : Int → Int → Int) (ok : Int → Prop) (R : Int → Int → Prop) (ht : ∀ x y z, R x y → R y z → R x z) (base : Nat) (v : Value) :
    ∀ (d : Nat) (P L M T : List Int) (A B D : Int) (w : World), L.length + M.length ≤ d → CmpOK Try.prog g lb c ok base w → Own base 3 eInt 1 w v (P ++ L ++ M ++ T) → base ≤ w.heap.size → (∀ x ∈ L, ok x) → (∀ y ∈ M, ok y) →
    (∀ x ∈ L, ∀ y ∈ M, Dec c R x y) → L.Pairwise R → M.Pairwise R → 0 < L.length → 0 < M.length → A = P.length → B = P.length + L.length → D = P.length + L.length + M.length → P.length + L.length + M.length + T.length < 2147483640 →
    Calls Try.prog 104 #[v, .int .i64 A, .int .i64 B, .int .i64 D, .func (.func g) #[] lb] w fun e w' => e = .returned (.tuple #[]) ∧ (∃ S, Own base 3 eInt 1 w' v (P ++ S ++ T) ∧ SortedOf R (L ++ M) S) ∧ Below base w w' := by
  intro d
  induction d with
  | zero => intro P L M T A B D w hd; intros; omega
  | succ d ih =>
    intro P L M T A B D w hd hc hown hbase hokL hokM hdec hL hM hL0 hM0 hA hB hD hlen
    by_cases hl1 : L.length = 1
    · obtain ⟨x, rfl⟩ := List.length_eq_one_iff.1 hl1
      have := sym_left g lb eg c ok R ht P M T x A B D base v w hc (by simpa using hown) hbase (hokL x (by simp)) hokM (hdec x (by simp)) hM hA (by simpa using hB) (by simpa using hD) (by simp at hlen; omega)
      simpa using this
    by_cases hm1 : M.length = 1
    · obtain ⟨y, rfl⟩ := List.length_eq_one_iff.1 hm1
      have := sym_right g lb eg c ok R ht P L T y A B D base v w hc (by simpa using hown) hbase (hokM y (by simp)) hokL (fun x hx => hdec x hx y (by simp)) hL (by omega) hA hB (by simpa using hD) (by simp at hlen; omega)
      simpa using this
    obtain ⟨p, hp⟩ : ∃ p, P.length = p := ⟨_, rfl⟩
    obtain ⟨m, hm⟩ : ∃ m, P.length + L.length = m := ⟨_, rfl⟩
    obtain ⟨b, hb⟩ : ∃ b, P.length + L.length + M.length = b := ⟨_, rfl⟩
    obtain rfl : A = (p : Int) := by omega
    obtain rfl : B = (m : Int) := by omega
    obtain rfl : D = (b : Int) := by omega
    have hpm : p + 2 ≤ m := by omega
    have hmb : m + 2 ≤ b := by omega
    have hbT : b + T.length < 2147483640 := by omega
    have hdd : b ≤ p + (d + 1) := by omega
    have Hl : Hid (L.length = m - p) := by show _ = _; omega
    have Hk : Hid (M.length = b - m) := by show _ = _; omega
    have Hp := Lib.hid hp; have HokL := Lib.hid hokL; have HokM := Lib.hid hokM; have Hdec := Lib.hid hdec; have Ht := Lib.hid ht; have Hc := Lib.hid hc; have HL := Lib.hid hL; have HM := Lib.hid hM; have IH := Lib.hid ih
    clear hp hm hb hokL hokM hdec ht hc hL hM ih hl1 hm1 hL0 hM0 hA hB hD hlen hd
    obtain ⟨a, cap, rfl⟩ := hown.isSlice
    obtain ⟨n, hn⟩ : ∃ n, n = (P ++ L ++ M ++ T).length := ⟨_, rfl⟩
    rw [← hn] at hown IH ⊢
    obtain ⟨gg, rfl, hbg, hgl, hc1, hc2⟩ := hown.placeA (by have := Hl.out; simp; omega)
    have hnl : n = b + T.length := by have := Hp.out; have := Hl.out; have := Hk.out; rw [hn]; simp; omega
    clear hn
    have hbn : (b : Int) ≤ n := by omega
    have hnm : (n : Int) < 2147483648 := by omega
    clear hnl
    obtain ⟨mid, hmid⟩ : ∃ mid : Nat, ((p : Int) + b) / 2 = mid := ⟨(p + b) / 2, by omega⟩
    have hmid1 : p + 2 ≤ mid := by omega
    have hmid2 : mid + 2 ≤ b := by omega
    have hmid3 : 2 * mid ≤ p + b := by omega
    have hmid4 : p + b ≤ 2 * mid + 1 := by omega
    have t1 : (((m : Int) - p) == 1) = false := by simp; omega
    have t2 : (((b : Int) - m) == 1) = false := by simp; omega
    go_enter Try.func104, Try.ntmps104
    go_upto_if 140 with fail
    go_cut [20, 21] (fun s20 s21 wx => w = wx ∧ ∃ s r : Nat, s20 = .int .i64 s ∧ s21 = .int .i64 r ∧ p ≤ s ∧ mid + m ≤ s + b ∧ s ≤ r ∧ r ≤ mid ∧ r ≤ m ∧ ((s + b = mid + m ∧ r = mid) ∨ (s = p ∧ r = m)))
    case first =>
      by_cases hcm : mid < m
      · obtain ⟨s0, hs0⟩ : ∃ s0 : Nat, (mid : Int) + m - b = s0 := ⟨mid + m - b, by omega⟩
        have dcm : decide (mid < m) = true := by simp; omega
        simp only [dcm]
        go_wp2_with fail
        go_meet
        exact ⟨rfl, s0, mid, rfl, rfl, by omega, by omega, by omega, by omega, by omega, .inl ⟨by omega, rfl⟩⟩
      · have dcm : decide (mid < m) = false := by simp; omega
        simp only [dcm]
        go_wp2_with fail
        go_meet
        exact ⟨rfl, p, m, rfl, rfl, by omega, by omega, by omega, by omega, by omega, .inr ⟨rfl, rfl⟩⟩
    case rest =>
      obtain ⟨rfl, s0, r0, rfl, rfl, k1, k2, k3, k4, k5, k6⟩ := hcut
      have K6 := Lib.hid k6
      clear k6
      go_wp2_with fail
      go_loopw [20, 21] (fun s20 s21 wr => ∃ (s r : Nat), s20 = .int .i64 s ∧ s21 = .int .i64 r ∧ p ≤ s ∧ mid + m ≤ s + b ∧ s ≤ r ∧ r ≤ mid ∧ r ≤ m ∧ Own base 3 eInt 1 wr (.slice (some ⟨gg, 0, none⟩) n cap) (P ++ L ++ M ++ T) ∧ Below base w wr ∧
        Hid ((∀ i q, i < s - p → mid - s ≤ q → q < b - m → R (L.getD i 0) (M.getD q 0)) ∧ (∀ i q, r - p ≤ i → i < m - p → q < mid - r → R (M.getD q 0) (L.getD i 0)))) (fun s r _ => (intOf r).toNat - (intOf s).toNat)
      case atStart =>
        refine ⟨s0, r0, rfl, rfl, k1, k2, k3, k4, k5, hown, Below.refl _ _, fun i q h1 h2 h3 => ?_, fun i q h1 h2 h3 => ?_⟩
        · rcases K6.out with h | h <;> (exfalso; omega)
        · rcases K6.out with h | h <;> (exfalso; omega)
      case round =>
        obtain ⟨s, r, rfl, rfl, r1, r2, r3, r4, r5, hown, hb, hm⟩ := hrel
        have hsz := hb.size
        by_cases hlt : s < r
        · obtain ⟨h, hh⟩ : ∃ h : Nat, ((s : Int) + r) / 2 = h := ⟨(s + r) / 2, by omega⟩
          have h1 : s ≤ h := by omega
          have h2 : h < r := by omega
          obtain ⟨e, he⟩ : ∃ e : Nat, (mid : Int) + m - 1 - h = e := ⟨mid + m - 1 - h, by omega⟩
          obtain ⟨x, hx⟩ : ∃ x, Hid (L.getD (h - p) 0 = x) := ⟨L.getD (h - p) 0, rfl⟩
          obtain ⟨y, hy⟩ : ∃ y, Hid (M.getD (e - m) 0 = y) := ⟨M.getD (e - m) 0, rfl⟩
          have hxm : x ∈ L := by rw [← hx.out]; exact getD_mem L _ (by have := Hl.out; omega)
          have hym : y ∈ M := by rw [← hy.out]; exact getD_mem M _ (by have := Hk.out; omega)
          have cx : wr.cell? ⟨gg, h, none⟩ = some (.int .i64 x) := by
            have := hown.int h (by have := Hp.out; have := Hl.out; simp; omega)
            rw [this, ← hx.out, List.append_assoc, getD_mid P L (M ++ T) h (h - p) (by have := Hp.out; omega) (by have := Hl.out; omega)]
          have cy : wr.cell? ⟨gg, e, none⟩ = some (.int .i64 y) := by
            have := hown.int e (by have := Hp.out; have := Hl.out; have := Hk.out; simp; omega)
            rw [this, ← hy.out, getD_mid (P ++ L) M T e (e - m) (by have := Hp.out; have := Hl.out; simp; omega) (by have := Hk.out; omega)]
          have hn0 : (0 : Int) ≤ h := by omega
          have hn1 : (h : Int) < n := by omega
          have hn2 : (0 : Int) ≤ e := by omega
          have hn3 : (e : Int) < n := by omega
          have hij' : decide (s < r) = true := by simp; omega
          have HY := Lib.hid (Hdec.out x hxm y hym)
          have hokx := HokL.out x hxm
          have hoky := HokM.out y hym
          have hem : e - m = mid - 1 - h := by omega
          have Hem := Lib.hid hem
          clear hem
          by_cases hcy : c y x < 0
          · have hcb : decide (c y x < 0) = true := by simp; omega
            have HC := Lib.hid hcy
            go_wp2_with fail
            go_quiet ((go_at_fn g; exact Calls.quiet_of (Hc.out _ (below_drewN hb _) y x hoky hokx)))
            go_wp2_with fail
            go_roundw
            case measure => simp [intOf]; omega
            case rel =>
              refine ⟨s, h, rfl, rfl, by omega, by omega, by omega, by omega, by omega, hown.ofHeap rfl, by repeat' (first | exact Below.refl _ _ | assumption | refine Below.more ?_ ?_ _ | refine Below.alloc ?_ ?_ _ | refine Below.drew ?_ | refine below_drewN ?_ _ | refine Below.setCell ?_ ?_ _ | exact Below.size (by assumption) | (simp [go_sem, size_more]; done) | (simp [go_sem, size_more]; omega)), hm.out.1, ?_⟩
              intro i q q1 q2 q3
              have hyx := HY.out.1 HC.out
              have hE := Hem.out
              have a1 : R (M.getD q 0) x := by
                by_cases hq : q = e - m
                · rw [hq, hy.out]; exact hyx
                · refine Ht.out _ _ _ (pw_get HM.out q (e - m) (by omega) (by have := Hk.out; omega)) ?_
                  rw [hy.out]; exact hyx
              by_cases hi : i = h - p
              · rw [hi, hx.out]; exact a1
              · refine Ht.out _ _ _ a1 ?_
                rw [← hx.out]; exact pw_get HL.out (h - p) i (by omega) (by have := Hl.out; omega)
          · have hcb : decide (c y x < 0) = false := by simp; omega
            have HC := Lib.hid hcy
            go_wp2_with fail
            go_quiet ((go_at_fn g; exact Calls.quiet_of (Hc.out _ (below_drewN hb _) y x hoky hokx)))
            go_wp2_with fail
            go_roundw
            case measure => simp [intOf]; omega
            case rel =>
              refine ⟨h + 1, r, by go_num, rfl, by omega, by omega, by omega, by omega, by omega, hown.ofHeap rfl, by repeat' (first | exact Below.refl _ _ | assumption | refine Below.more ?_ ?_ _ | refine Below.alloc ?_ ?_ _ | refine Below.drew ?_ | refine below_drewN ?_ _ | refine Below.setCell ?_ ?_ _ | exact Below.size (by assumption) | (simp [go_sem, size_more]; done) | (simp [go_sem, size_more]; omega)), ?_, hm.out.2⟩
              intro i q q1 q2 q3
              have hyx := HY.out.2 (by have := HC.out; omega)
              have hE := Hem.out
              have a1 : R (L.getD i 0) y := by
                by_cases hi : i = h - p
                · rw [hi, hx.out]; exact hyx
                · refine Ht.out _ _ _ (pw_get HL.out i (h - p) (by omega) (by have := Hl.out; omega)) ?_
                  rw [hx.out]; exact hyx
              by_cases hq : q = e - m
              · rw [hq, hy.out]; exact a1
              · refine Ht.out _ _ _ a1 ?_
                rw [← hy.out]; exact pw_get HM.out (e - m) q (by omega) (by have := Hk.out; omega)
        · obtain rfl : r = s := by omega
          have hij' : decide ((r : Int) < r) = false := by simp
          obtain ⟨en, hen⟩ : ∃ en : Nat, (mid : Int) + m - r = en := ⟨mid + m - r, by omega⟩
          obtain ⟨L1, L2, hL12, hl1, hx1, hx2⟩ : ∃ L1 L2, L = L1 ++ L2 ∧ L1.length = r - p ∧ (∀ x ∈ L1, ∃ i, i < r - p ∧ L.getD i 0 = x) ∧ (∀ x ∈ L2, ∃ i, r - p ≤ i ∧ i < m - p ∧ L.getD i 0 = x) := by
            refine ⟨L.take (r - p), L.drop (r - p), by simp, by have := Hl.out; simp; omega, fun x hx => ?_, fun x hx => ?_⟩
            · obtain ⟨q, q1, q2, q3⟩ := mem_take_get hx
              exact ⟨q, q1, q3⟩
            · obtain ⟨q, q1, q2, q3⟩ := mem_drop_get hx
              exact ⟨q, q1, by have := Hl.out; omega, q3⟩
          obtain ⟨M1, M2, hM12, hm1, hy1, hy2⟩ : ∃ M1 M2, M = M1 ++ M2 ∧ M1.length = mid - r ∧ (∀ x ∈ M1, ∃ i, i < mid - r ∧ M.getD i 0 = x) ∧ (∀ x ∈ M2, ∃ i, mid - r ≤ i ∧ i < b - m ∧ M.getD i 0 = x) := by
            refine ⟨M.take (mid - r), M.drop (mid - r), by simp, by have := Hk.out; simp; omega, fun x hx => ?_, fun x hx => ?_⟩
            · obtain ⟨q, q1, q2, q3⟩ := mem_take_get hx
              exact ⟨q, q1, q3⟩
            · obtain ⟨q, q1, q2, q3⟩ := mem_drop_get hx
              exact ⟨q, q1, by have := Hk.out; omega, q3⟩
          have hc1 : ∀ x ∈ L1, ∀ y ∈ M2, R x y := by
            intro x hx y hy
            obtain ⟨i, i1, rfl⟩ := hx1 x hx
            obtain ⟨q, q1, q2, rfl⟩ := hy2 y hy
            exact hm.out.1 i q i1 q1 q2
          have hc2 : ∀ x ∈ L2, ∀ y ∈ M1, R y x := by
            intro x hx y hy
            obtain ⟨i, i1, i2, rfl⟩ := hx2 x hx
            obtain ⟨q, q1, rfl⟩ := hy1 y hy
            exact hm.out.2 i q i1 i2 q1
          clear hx1 hx2 hy1 hy2 hm
          subst hL12
          subst hM12
          have pL := HL.out
          have pM := HM.out
          rw [List.pairwise_append] at pL pM
          obtain ⟨pL1, pL2, pL3⟩ := pL
          obtain ⟨pM1, pM2, pM3⟩ := pM
          have hx : ∀ x ∈ L1 ++ M1, ∀ y ∈ L2 ++ M2, R x y := by
            intro x hx y hy
            rcases List.mem_append.1 hx with hx | hx <;> rcases List.mem_append.1 hy with hy | hy
            · exact pL3 x hx y hy
            · exact hc1 x hx y hy
            · exact hc2 y hy x hx
            · exact pM3 x hx y hy
          have lL2 : L2.length = m - r := by have := Hl.out; simp only [List.length_append] at this; omega
          have lM2 : M2.length = b - m - (mid - r) := by have := Hk.out; simp only [List.length_append] at this; omega
          have hp' := Hp.out
          have hown0 : Own base 3 eInt 1 wr (.slice (some ⟨gg, 0, none⟩) n cap) (P ++ L1 ++ L2 ++ M1 ++ (M2 ++ T)) := by simpa using hown
          have HCR := Lib.hid hx
          have P1 := Lib.hid (And.intro pL1 (And.intro pL2 (And.intro pM1 pM2)))
          have Q := Lib.hid (And.intro hl1 (And.intro hm1 (And.intro lL2 (And.intro lM2 hp'))))
          clear hx pL1 pL2 pL3 pM1 pM2 pM3 hc1 hc2 hl1 hm1 lL2 lM2 hp' hown
          by_cases qa : r < m
          · by_cases qb : r < mid
            · by_cases qc : p < r
              · by_cases qd : mid + m < r + b
                · have d1 : decide (r < m) = true := by simp; omega
                  have d2 : decide (m < en) = true := by simp; omega
                  have d3 : decide (p < r) = true := by simp; omega
                  have d4 : decide (r < mid) = true := by simp; omega
                  have d5 : decide (mid < en) = true := by simp; omega
                  have d6 : decide (en < b) = true := by simp; omega
                  go_wp2_with fail
                  refine Calls.mono (rotate_at _ (P ++ L1) L2 M1 (M2 ++ T) _ _ _ base _ _ hown0 (by (have Q0 := Q.out; (try simp only [List.length_nil] at Q0); omega)) (by (have Q0 := Q.out; (try simp only [List.length_nil] at Q0); omega)) (by (have Q0 := Q.out; (try simp only [List.length_nil] at Q0); omega)) ?_ ?_ ?_ ?_) ?_
                  · have Q0 := Q.out; (try simp only [List.length_nil] at Q0); simp only [List.length_append, List.length_nil]; omega
                  · have Q0 := Q.out; (try simp only [List.length_nil] at Q0); simp only [List.length_append, List.length_nil]; omega
                  · have Q0 := Q.out; (try simp only [List.length_nil] at Q0); simp only [List.length_append, List.length_nil]; omega
                  · have Q0 := Q.out; (try simp only [List.length_nil] at Q0); simp only [List.length_append, List.length_nil]; omega
                  rintro e wA ⟨rfl, hownA, hbA0⟩
                  have hbA := hb.trans hbA0
                  have hszA := hbA.size
                  go_wp2_with fail
                  refine Calls.mono (IH.out P L1 M1 (L2 ++ M2 ++ T) _ _ _ wA (by (have Q0 := Q.out; (try simp only [List.length_nil] at Q0); omega)) (Hc.out.later hbA) (by simpa using hownA) (by (have Q0 := Q.out; (try simp only [List.length_nil] at Q0); omega)) (fun x hx => HokL.out x (List.mem_append_left _ hx)) (fun y hy => HokM.out y (List.mem_append_left _ hy)) (fun x hx y hy => Hdec.out x (List.mem_append_left _ hx) y (List.mem_append_left _ hy)) P1.out.1 P1.out.2.2.1 (by (have Q0 := Q.out; (try simp only [List.length_nil] at Q0); omega)) (by (have Q0 := Q.out; (try simp only [List.length_nil] at Q0); omega)) (by (have Q0 := Q.out; (try simp only [List.length_nil] at Q0); omega)) (by (have Q0 := Q.out; (try simp only [List.length_nil] at Q0); omega)) (by (have Q0 := Q.out; (try simp only [List.length_nil] at Q0); omega)) (by have Q0 := Q.out; (try simp only [List.length_nil] at Q0); simp only [List.length_append, List.length_nil]; omega)) ?_
                  rintro e wB ⟨rfl, ⟨S1, hownB, hS1⟩, hbB0⟩
                  have hbB := hbA.trans hbB0
                  have hszB := hbB.size
                  have HS1 := Lib.hid (show S1.length = mid - p from by have q1 := hS1.1.length_eq; have Q0 := Q.out; simp only [List.length_append, List.length_nil] at q1 Q0; omega)
                  go_wp2_with fail
                  refine Calls.mono (IH.out (P ++ S1) L2 M2 T _ _ _ wB (by (have Q0 := Q.out; (try simp only [List.length_nil] at Q0); omega)) (Hc.out.later hbB) (by simpa using hownB) (by (have Q0 := Q.out; (try simp only [List.length_nil] at Q0); omega)) (fun x hx => HokL.out x (List.mem_append_right _ hx)) (fun y hy => HokM.out y (List.mem_append_right _ hy)) (fun x hx y hy => Hdec.out x (List.mem_append_right _ hx) y (List.mem_append_right _ hy)) P1.out.2.1 P1.out.2.2.2 (by (have Q0 := Q.out; (try simp only [List.length_nil] at Q0); omega)) (by (have Q0 := Q.out; (try simp only [List.length_nil] at Q0); omega)) ?_ ?_ ?_ ?_) ?_
                  · have Q0 := Q.out; (try simp only [List.length_nil] at Q0); have Q1 := HS1.out; simp only [List.length_append, List.length_nil]; omega
                  · have Q0 := Q.out; (try simp only [List.length_nil] at Q0); have Q1 := HS1.out; simp only [List.length_append, List.length_nil]; omega
                  · have Q0 := Q.out; (try simp only [List.length_nil] at Q0); have Q1 := HS1.out; simp only [List.length_append, List.length_nil]; omega
                  · have Q0 := Q.out; (try simp only [List.length_nil] at Q0); have Q1 := HS1.out; simp only [List.length_append, List.length_nil]; omega
                  rintro e wC ⟨rfl, ⟨S2, hownC, hS2⟩, hbC0⟩
                  have hbC := hbB.trans hbC0
                  go_wp2_with fail
                  go_end0
                  exact ⟨rfl, ⟨S1 ++ S2, by simpa using hownC, sym_fin (L1 := L1) (L2 := L2) (M1 := M1) (M2 := M2) rfl rfl hS1 hS2 HCR.out⟩, hbC⟩
                · have d1 : decide (r < m) = true := by simp; omega
                  have d2 : decide (m < en) = true := by simp; omega
                  have d3 : decide (p < r) = true := by simp; omega
                  have d4 : decide (r < mid) = true := by simp; omega
                  have d5 : decide (mid < en) = true := by simp; omega
                  have d6 : decide (en < b) = false := by simp; omega
                  go_wp2_with fail
                  refine Calls.mono (rotate_at _ (P ++ L1) L2 M1 (M2 ++ T) _ _ _ base _ _ hown0 (by (have Q0 := Q.out; (try simp only [List.length_nil] at Q0); omega)) (by (have Q0 := Q.out; (try simp only [List.length_nil] at Q0); omega)) (by (have Q0 := Q.out; (try simp only [List.length_nil] at Q0); omega)) ?_ ?_ ?_ ?_) ?_
                  · have Q0 := Q.out; (try simp only [List.length_nil] at Q0); simp only [List.length_append, List.length_nil]; omega
                  · have Q0 := Q.out; (try simp only [List.length_nil] at Q0); simp only [List.length_append, List.length_nil]; omega
                  · have Q0 := Q.out; (try simp only [List.length_nil] at Q0); simp only [List.length_append, List.length_nil]; omega
                  · have Q0 := Q.out; (try simp only [List.length_nil] at Q0); simp only [List.length_append, List.length_nil]; omega
                  rintro e wA ⟨rfl, hownA, hbA0⟩
                  have hbA := hb.trans hbA0
                  have hszA := hbA.size
                  go_wp2_with fail
                  refine Calls.mono (IH.out P L1 M1 (L2 ++ M2 ++ T) _ _ _ wA (by (have Q0 := Q.out; (try simp only [List.length_nil] at Q0); omega)) (Hc.out.later hbA) (by simpa using hownA) (by (have Q0 := Q.out; (try simp only [List.length_nil] at Q0); omega)) (fun x hx => HokL.out x (List.mem_append_left _ hx)) (fun y hy => HokM.out y (List.mem_append_left _ hy)) (fun x hx y hy => Hdec.out x (List.mem_append_left _ hx) y (List.mem_append_left _ hy)) P1.out.1 P1.out.2.2.1 (by (have Q0 := Q.out; (try simp only [List.length_nil] at Q0); omega)) (by (have Q0 := Q.out; (try simp only [List.length_nil] at Q0); omega)) (by (have Q0 := Q.out; (try simp only [List.length_nil] at Q0); omega)) (by (have Q0 := Q.out; (try simp only [List.length_nil] at Q0); omega)) (by (have Q0 := Q.out; (try simp only [List.length_nil] at Q0); omega)) (by have Q0 := Q.out; (try simp only [List.length_nil] at Q0); simp only [List.length_append, List.length_nil]; omega)) ?_
                  rintro e wB ⟨rfl, ⟨S1, hownB, hS1⟩, hbB0⟩
                  have hbB := hbA.trans hbB0
                  have hszB := hbB.size
                  have HS1 := Lib.hid (show S1.length = mid - p from by have q1 := hS1.1.length_eq; have Q0 := Q.out; simp only [List.length_append, List.length_nil] at q1 Q0; omega)
                  obtain rfl : M2 = [] := List.eq_nil_of_length_eq_zero (by have Q0 := Q.out; (try simp only [List.length_nil] at Q0); omega)
                  obtain ⟨S2, hownC, hS2⟩ : ∃ S2, Own base 3 eInt 1 wB (.slice (some ⟨gg, 0, none⟩) n cap) (P ++ S1 ++ S2 ++ T) ∧ SortedOf R (L2 ++ []) S2 := ⟨L2, by simpa using hownB, by simpa using sorted_self P1.out.2.1⟩
                  have hbC := hbB
                  go_wp2_with fail
                  go_end0
                  exact ⟨rfl, ⟨S1 ++ S2, by simpa using hownC, sym_fin (L1 := L1) (L2 := L2) (M1 := M1) (M2 := []) rfl rfl hS1 hS2 HCR.out⟩, hbC⟩
              · by_cases qd : mid + m < r + b
                · have d1 : decide (r < m) = true := by simp; omega
                  have d2 : decide (m < en) = true := by simp; omega
                  have d3 : decide (p < r) = false := by simp; omega
                  have d5 : decide (mid < en) = true := by simp; omega
                  have d6 : decide (en < b) = true := by simp; omega
                  go_wp2_with fail
                  refine Calls.mono (rotate_at _ (P ++ L1) L2 M1 (M2 ++ T) _ _ _ base _ _ hown0 (by (have Q0 := Q.out; (try simp only [List.length_nil] at Q0); omega)) (by (have Q0 := Q.out; (try simp only [List.length_nil] at Q0); omega)) (by (have Q0 := Q.out; (try simp only [List.length_nil] at Q0); omega)) ?_ ?_ ?_ ?_) ?_
                  · have Q0 := Q.out; (try simp only [List.length_nil] at Q0); simp only [List.length_append, List.length_nil]; omega
                  · have Q0 := Q.out; (try simp only [List.length_nil] at Q0); simp only [List.length_append, List.length_nil]; omega
                  · have Q0 := Q.out; (try simp only [List.length_nil] at Q0); simp only [List.length_append, List.length_nil]; omega
                  · have Q0 := Q.out; (try simp only [List.length_nil] at Q0); simp only [List.length_append, List.length_nil]; omega
                  rintro e wA ⟨rfl, hownA, hbA0⟩
                  have hbA := hb.trans hbA0
                  have hszA := hbA.size
                  obtain rfl : L1 = [] := List.eq_nil_of_length_eq_zero (by have Q0 := Q.out; (try simp only [List.length_nil] at Q0); omega)
                  obtain ⟨wB, rfl⟩ : ∃ wB : World, wB = wA := ⟨_, rfl⟩
                  obtain ⟨S1, hownB, hS1⟩ : ∃ S1, Own base 3 eInt 1 wB (.slice (some ⟨gg, 0, none⟩) n cap) (P ++ S1 ++ (L2 ++ M2 ++ T)) ∧ SortedOf R ([] ++ M1) S1 := ⟨M1, by simpa using hownA, sorted_self P1.out.2.2.1⟩
                  have hbB := hbA
                  have hszB := hbB.size
                  have HS1 := Lib.hid (show S1.length = mid - p from by have q1 := hS1.1.length_eq; have Q0 := Q.out; simp only [List.length_append, List.length_nil] at q1 Q0; omega)
                  go_wp2_with fail
                  refine Calls.mono (IH.out (P ++ S1) L2 M2 T _ _ _ wB (by (have Q0 := Q.out; (try simp only [List.length_nil] at Q0); omega)) (Hc.out.later hbB) (by simpa using hownB) (by (have Q0 := Q.out; (try simp only [List.length_nil] at Q0); omega)) (fun x hx => HokL.out x (List.mem_append_right _ hx)) (fun y hy => HokM.out y (List.mem_append_right _ hy)) (fun x hx y hy => Hdec.out x (List.mem_append_right _ hx) y (List.mem_append_right _ hy)) P1.out.2.1 P1.out.2.2.2 (by (have Q0 := Q.out; (try simp only [List.length_nil] at Q0); omega)) (by (have Q0 := Q.out; (try simp only [List.length_nil] at Q0); omega)) ?_ ?_ ?_ ?_) ?_
                  · have Q0 := Q.out; (try simp only [List.length_nil] at Q0); have Q1 := HS1.out; simp only [List.length_append, List.length_nil]; omega
                  · have Q0 := Q.out; (try simp only [List.length_nil] at Q0); have Q1 := HS1.out; simp only [List.length_append, List.length_nil]; omega
                  · have Q0 := Q.out; (try simp only [List.length_nil] at Q0); have Q1 := HS1.out; simp only [List.length_append, List.length_nil]; omega
                  · have Q0 := Q.out; (try simp only [List.length_nil] at Q0); have Q1 := HS1.out; simp only [List.length_append, List.length_nil]; omega
                  rintro e wC ⟨rfl, ⟨S2, hownC, hS2⟩, hbC0⟩
                  have hbC := hbB.trans hbC0
                  go_wp2_with fail
                  go_end0
                  exact ⟨rfl, ⟨S1 ++ S2, by simpa using hownC, sym_fin (L1 := []) (L2 := L2) (M1 := M1) (M2 := M2) rfl rfl hS1 hS2 HCR.out⟩, hbC⟩
                · have d1 : decide (r < m) = true := by simp; omega
                  have d2 : decide (m < en) = true := by simp; omega
                  have d3 : decide (p < r) = false := by simp; omega
                  have d5 : decide (mid < en) = true := by simp; omega
                  have d6 : decide (en < b) = false := by simp; omega
                  go_wp2_with fail
                  refine Calls.mono (rotate_at _ (P ++ L1) L2 M1 (M2 ++ T) _ _ _ base _ _ hown0 (by (have Q0 := Q.out; (try simp only [List.length_nil] at Q0); omega)) (by (have Q0 := Q.out; (try simp only [List.length_nil] at Q0); omega)) (by (have Q0 := Q.out; (try simp only [List.length_nil] at Q0); omega)) ?_ ?_ ?_ ?_) ?_
                  · have Q0 := Q.out; (try simp only [List.length_nil] at Q0); simp only [List.length_append, List.length_nil]; omega
                  · have Q0 := Q.out; (try simp only [List.length_nil] at Q0); simp only [List.length_append, List.length_nil]; omega
                  · have Q0 := Q.out; (try simp only [List.length_nil] at Q0); simp only [List.length_append, List.length_nil]; omega
                  · have Q0 := Q.out; (try simp only [List.length_nil] at Q0); simp only [List.length_append, List.length_nil]; omega
                  rintro e wA ⟨rfl, hownA, hbA0⟩
                  have hbA := hb.trans hbA0
                  have hszA := hbA.size
                  obtain rfl : L1 = [] := List.eq_nil_of_length_eq_zero (by have Q0 := Q.out; (try simp only [List.length_nil] at Q0); omega)
                  obtain ⟨wB, rfl⟩ : ∃ wB : World, wB = wA := ⟨_, rfl⟩
                  obtain ⟨S1, hownB, hS1⟩ : ∃ S1, Own base 3 eInt 1 wB (.slice (some ⟨gg, 0, none⟩) n cap) (P ++ S1 ++ (L2 ++ M2 ++ T)) ∧ SortedOf R ([] ++ M1) S1 := ⟨M1, by simpa using hownA, sorted_self P1.out.2.2.1⟩
                  have hbB := hbA
                  have hszB := hbB.size
                  have HS1 := Lib.hid (show S1.length = mid - p from by have q1 := hS1.1.length_eq; have Q0 := Q.out; simp only [List.length_append, List.length_nil] at q1 Q0; omega)
                  obtain rfl : M2 = [] := List.eq_nil_of_length_eq_zero (by have Q0 := Q.out; (try simp only [List.length_nil] at Q0); omega)
                  obtain ⟨S2, hownC, hS2⟩ : ∃ S2, Own base 3 eInt 1 wB (.slice (some ⟨gg, 0, none⟩) n cap) (P ++ S1 ++ S2 ++ T) ∧ SortedOf R (L2 ++ []) S2 := ⟨L2, by simpa using hownB, by simpa using sorted_self P1.out.2.1⟩
                  have hbC := hbB
                  go_wp2_with fail
                  go_end0
                  exact ⟨rfl, ⟨S1 ++ S2, by simpa using hownC, sym_fin (L1 := []) (L2 := L2) (M1 := M1) (M2 := []) rfl rfl hS1 hS2 HCR.out⟩, hbC⟩
            · have d1 : decide (r < m) = true := by simp; omega
              have d2 : decide (m < en) = false := by simp; omega
              have d3 : decide (p < r) = true := by simp; omega
              have d4 : decide (r < mid) = false := by simp; omega
              have d5 : decide (mid < en) = true := by simp; omega
              have d6 : decide (en < b) = true := by simp; omega
              obtain rfl : M1 = [] := List.eq_nil_of_length_eq_zero (by have Q0 := Q.out; (try simp only [List.length_nil] at Q0); omega)
              obtain ⟨wA, rfl⟩ : ∃ wA : World, wA = wr := ⟨_, rfl⟩
              have hownA : Own base 3 eInt 1 wA (.slice (some ⟨gg, 0, none⟩) n cap) (P ++ L1 ++ [] ++ L2 ++ (M2 ++ T)) := by simpa using hown0
              have hbA := hb
              have hszA := hbA.size
              obtain ⟨wB, rfl⟩ : ∃ wB : World, wB = wA := ⟨_, rfl⟩
              obtain ⟨S1, hownB, hS1⟩ : ∃ S1, Own base 3 eInt 1 wB (.slice (some ⟨gg, 0, none⟩) n cap) (P ++ S1 ++ (L2 ++ M2 ++ T)) ∧ SortedOf R (L1 ++ []) S1 := ⟨L1, by simpa using hownA, by simpa using sorted_self P1.out.1⟩
              have hbB := hbA
              have hszB := hbB.size
              have HS1 := Lib.hid (show S1.length = mid - p from by have q1 := hS1.1.length_eq; have Q0 := Q.out; simp only [List.length_append, List.length_nil] at q1 Q0; omega)
              go_wp2_with fail
              refine Calls.mono (IH.out (P ++ S1) L2 M2 T _ _ _ wB (by (have Q0 := Q.out; (try simp only [List.length_nil] at Q0); omega)) (Hc.out.later hbB) (by simpa using hownB) (by (have Q0 := Q.out; (try simp only [List.length_nil] at Q0); omega)) (fun x hx => HokL.out x (List.mem_append_right _ hx)) (fun y hy => HokM.out y (List.mem_append_right _ hy)) (fun x hx y hy => Hdec.out x (List.mem_append_right _ hx) y (List.mem_append_right _ hy)) P1.out.2.1 P1.out.2.2.2 (by (have Q0 := Q.out; (try simp only [List.length_nil] at Q0); omega)) (by (have Q0 := Q.out; (try simp only [List.length_nil] at Q0); omega)) ?_ ?_ ?_ ?_) ?_
              · have Q0 := Q.out; (try simp only [List.length_nil] at Q0); have Q1 := HS1.out; simp only [List.length_append, List.length_nil]; omega
              · have Q0 := Q.out; (try simp only [List.length_nil] at Q0); have Q1 := HS1.out; simp only [List.length_append, List.length_nil]; omega
              · have Q0 := Q.out; (try simp only [List.length_nil] at Q0); have Q1 := HS1.out; simp only [List.length_append, List.length_nil]; omega
              · have Q0 := Q.out; (try simp only [List.length_nil] at Q0); have Q1 := HS1.out; simp only [List.length_append, List.length_nil]; omega
              rintro e wC ⟨rfl, ⟨S2, hownC, hS2⟩, hbC0⟩
              have hbC := hbB.trans hbC0
              go_wp2_with fail
              go_end0
              exact ⟨rfl, ⟨S1 ++ S2, by simpa using hownC, sym_fin (L1 := L1) (L2 := L2) (M1 := []) (M2 := M2) rfl rfl hS1 hS2 HCR.out⟩, hbC⟩
          · by_cases qb : r < mid
            · have d1 : decide (r < m) = false := by simp; omega
              have d3 : decide (p < r) = true := by simp; omega
              have d4 : decide (r < mid) = true := by simp; omega
              have d5 : decide (mid < en) = false := by simp; omega
              obtain rfl : L2 = [] := List.eq_nil_of_length_eq_zero (by have Q0 := Q.out; (try simp only [List.length_nil] at Q0); omega)
              obtain ⟨wA, rfl⟩ : ∃ wA : World, wA = wr := ⟨_, rfl⟩
              have hownA : Own base 3 eInt 1 wA (.slice (some ⟨gg, 0, none⟩) n cap) (P ++ L1 ++ M1 ++ [] ++ (M2 ++ T)) := by simpa using hown0
              have hbA := hb
              have hszA := hbA.size
              go_wp2_with fail
              refine Calls.mono (IH.out P L1 M1 ([] ++ M2 ++ T) _ _ _ wA (by (have Q0 := Q.out; (try simp only [List.length_nil] at Q0); omega)) (Hc.out.later hbA) (by simpa using hownA) (by (have Q0 := Q.out; (try simp only [List.length_nil] at Q0); omega)) (fun x hx => HokL.out x (List.mem_append_left _ hx)) (fun y hy => HokM.out y (List.mem_append_left _ hy)) (fun x hx y hy => Hdec.out x (List.mem_append_left _ hx) y (List.mem_append_left _ hy)) P1.out.1 P1.out.2.2.1 (by (have Q0 := Q.out; (try simp only [List.length_nil] at Q0); omega)) (by (have Q0 := Q.out; (try simp only [List.length_nil] at Q0); omega)) (by (have Q0 := Q.out; (try simp only [List.length_nil] at Q0); omega)) (by (have Q0 := Q.out; (try simp only [List.length_nil] at Q0); omega)) (by (have Q0 := Q.out; (try simp only [List.length_nil] at Q0); omega)) (by have Q0 := Q.out; (try simp only [List.length_nil] at Q0); simp only [List.length_append, List.length_nil]; omega)) ?_
              rintro e wB ⟨rfl, ⟨S1, hownB, hS1⟩, hbB0⟩
              have hbB := hbA.trans hbB0
              have hszB := hbB.size
              have HS1 := Lib.hid (show S1.length = mid - p from by have q1 := hS1.1.length_eq; have Q0 := Q.out; simp only [List.length_append, List.length_nil] at q1 Q0; omega)
              obtain ⟨S2, hownC, hS2⟩ : ∃ S2, Own base 3 eInt 1 wB (.slice (some ⟨gg, 0, none⟩) n cap) (P ++ S1 ++ S2 ++ T) ∧ SortedOf R ([] ++ M2) S2 := ⟨M2, by simpa using hownB, by simpa using sorted_self P1.out.2.2.2⟩
              have hbC := hbB
              go_wp2_with fail
              go_end0
              exact ⟨rfl, ⟨S1 ++ S2, by simpa using hownC, sym_fin (L1 := L1) (L2 := []) (M1 := M1) (M2 := M2) rfl rfl hS1 hS2 HCR.out⟩, hbC⟩
            · have d1 : decide (r < m) = false := by simp; omega
              have d3 : decide (p < r) = true := by simp; omega
              have d4 : decide (r < mid) = false := by simp; omega
              have d5 : decide (mid < en) = false := by simp; omega
              obtain rfl : L2 = [] := List.eq_nil_of_length_eq_zero (by have Q0 := Q.out; (try simp only [List.length_nil] at Q0); omega)
              obtain rfl : M1 = [] := List.eq_nil_of_length_eq_zero (by have Q0 := Q.out; (try simp only [List.length_nil] at Q0); omega)
              obtain ⟨wA, rfl⟩ : ∃ wA : World, wA = wr := ⟨_, rfl⟩
              have hownA : Own base 3 eInt 1 wA (.slice (some ⟨gg, 0, none⟩) n cap) (P ++ L1 ++ [] ++ [] ++ (M2 ++ T)) := by simpa using hown0
              have hbA := hb
              have hszA := hbA.size
              obtain ⟨wB, rfl⟩ : ∃ wB : World, wB = wA := ⟨_, rfl⟩
              obtain ⟨S1, hownB, hS1⟩ : ∃ S1, Own base 3 eInt 1 wB (.slice (some ⟨gg, 0, none⟩) n cap) (P ++ S1 ++ ([] ++ M2 ++ T)) ∧ SortedOf R (L1 ++ []) S1 := ⟨L1, by simpa using hownA, by simpa using sorted_self P1.out.1⟩
              have hbB := hbA
              have hszB := hbB.size
              have HS1 := Lib.hid (show S1.length = mid - p from by have q1 := hS1.1.length_eq; have Q0 := Q.out; simp only [List.length_append, List.length_nil] at q1 Q0; omega)
              obtain ⟨S2, hownC, hS2⟩ : ∃ S2, Own base 3 eInt 1 wB (.slice (some ⟨gg, 0, none⟩) n cap) (P ++ S1 ++ S2 ++ T) ∧ SortedOf R ([] ++ M2) S2 := ⟨M2, by simpa using hownB, by simpa using sorted_self P1.out.2.2.2⟩
              have hbC := hbB
              go_wp2_with fail
              go_end0
              exact ⟨rfl, ⟨S1 ++ S2, by simpa using hownC, sym_fin (L1 := L1) (L2 := []) (M1 := []) (M2 := M2) rfl rfl hS1 hS2 HCR.out⟩, hbC⟩

end Go.Proofs.Ytbkihndidbmhoaa
