/- slices.Max and Min at numbers; planner's Relaxed. Conditions: the list is not empty; the plan reads as data. | planner's Myopic. Conditions: the plan reads as data. | What the law of plans wants, in plain words. Conditions: the plan is right. | What the law of plans calls besides the plans' own functions: its closures, its arguments. Conditions: the arguments read as data. -/
import Derived.Test.YtoiakijmbghhlaaGreatYpi
import Derived.Test.YtoiakijmbghhlaaGreatMCb
namespace Go.Proofs.YtoiakijmbghhlaaGreat
open Go.RowKit
set_option linter.unusedVariables false
set_option linter.unusedSimpArgs false

set_option maxHeartbeats 1000000 in
theorem maxI_any (xs : List Int) (v : Value) (w : World) (hv : IsInts w v xs) (h1 : 1 ≤ xs.length) (hl : xs.length < 2147483648) :
    Calls Tryz.prog 82 #[v] w fun e w' => (∃ m, e = .returned (.int .i64 m) ∧ m ∈ xs ∧ ∀ x ∈ xs, x ≤ m) ∧ Below w.heap.size w w' := by
  obtain ⟨a, cap, rfl, hcap, hbig, hs⟩ := hv
  obtain ⟨b, off, rfl, d0⟩ := hs.int 0 (by omega)
  obtain ⟨x0, hx0⟩ : ∃ x0, x0 = xs[0]'(by omega) := ⟨_, rfl⟩
  have hm0 : x0 ∈ xs := by rw [hx0]; exact List.getElem_mem _
  have ht1 : xs.take 1 = [x0] := by
    rw [List.take_succ_eq_append_getElem (by omega)]; simp [hx0]
  rw [← hx0, Nat.add_zero] at d0
  have HT1 := Lib.hid ht1
  have HM0 := Lib.hid hm0
  have HC := Lib.hid hs
  have i0 : decide ((xs.length : Int) < 1) = false := decide_eq_false (by omega)
  have i00 : decide (xs.length < 1) = false := decide_eq_false (by omega)
  have i9 : (0 : Int) < xs.length := by omega
  clear hx0 hm0 ht1 hs
  go_enter Tryz.func82, Tryz.ntmps82
  go_wp2_with fail
  go_loopw [3, 4] (fun s3 s4 wr => ∃ (k : Nat) (m : Int), 1 ≤ k ∧ k ≤ xs.length ∧ s3 = .int .i64 m ∧ s4 = .int .i64 k ∧ wr = w ∧ Hid (m ∈ xs) ∧ Hid (∀ x ∈ xs.take k, x ≤ m)) (fun _ s4 _ => xs.length - (RowKit.intOf s4).toNat)
  case atStart => exact ⟨1, x0, Nat.le_refl _, h1, rfl, rfl, rfl, HM0, Lib.hid (by rw [HT1.out]; intro x hx; rw [List.mem_singleton] at hx; subst hx; omega)⟩
  case round =>
    obtain ⟨k, m, hk1, hk, rfl, rfl, rfl, hm, ha⟩ := hrel
    by_cases hkl : k < xs.length
    · obtain ⟨b', off', he, d1⟩ := HC.out.int k hkl
      simp only [Option.some.injEq, Addr.mk.injEq] at he
      obtain ⟨rfl, rfl, -⟩ := he
      have hst : xs.take (k + 1) = xs.take k ++ [xs[k]] := List.take_succ_eq_append_getElem hkl
      have hmk : xs[k] ∈ xs := List.getElem_mem hkl
      obtain ⟨y, hy⟩ : ∃ y, y = xs[k] := ⟨_, rfl⟩
      rw [← hy] at d1 hst hmk
      have HST := Lib.hid hst
      have HMK := Lib.hid hmk
      have i1 : decide (k < xs.length) = true := decide_eq_true hkl
      have i2 : decide ((k : Int) < xs.length) = true := decide_eq_true (by omega)
      have i3 : (0 : Int) ≤ k := by omega
      have i4 : (k : Int) < xs.length := by omega
      have x7 : IntKind.i64.wrap ((k : Int) + 1) = k + 1 := IntWalk.i64_in _ (by omega)
      clear hy hst hmk
      go_wp2_with fail
      go_roundw
      case measure => simp [RowKit.intOf, x7]; omega
      case rel =>
        refine ⟨k + 1, max m y, by omega, by omega, rfl, by go_num, trivial, Lib.hid ?_, Lib.hid ?_⟩
        · by_cases h : m ≤ y
          · rw [Int.max_eq_right h]; exact HMK.out
          · rw [Int.max_eq_left (by omega)]; exact hm.out
        · rw [HST.out]
          intro x hx
          rcases List.mem_append.1 hx with hx | hx
          · have := ha.out x hx; omega
          · rw [List.mem_singleton] at hx; subst hx; omega
    · have i1 : decide (k < xs.length) = false := decide_eq_false hkl
      have i2 : decide ((k : Int) < xs.length) = false := decide_eq_false (by omega)
      have hall := ha.out
      rw [List.take_of_length_le (by omega)] at hall
      go_wp2_with fail
      go_ret
      exact ⟨⟨m, rfl, hm.out, hall⟩, Below.refl _ _⟩

set_option maxHeartbeats 1000000 in
theorem minI_any (xs : List Int) (v : Value) (w : World) (hv : IsInts w v xs) (h1 : 1 ≤ xs.length) (hl : xs.length < 2147483648) :
    Calls Tryz.prog 83 #[v] w fun e w' => (∃ m, e = .returned (.int .i64 m) ∧ m ∈ xs ∧ ∀ x ∈ xs, m ≤ x) ∧ Below w.heap.size w w' := by
  obtain ⟨a, cap, rfl, hcap, hbig, hs⟩ := hv
  obtain ⟨b, off, rfl, d0⟩ := hs.int 0 (by omega)
  obtain ⟨x0, hx0⟩ : ∃ x0, x0 = xs[0]'(by omega) := ⟨_, rfl⟩
  have hm0 : x0 ∈ xs := by rw [hx0]; exact List.getElem_mem _
  have ht1 : xs.take 1 = [x0] := by
    rw [List.take_succ_eq_append_getElem (by omega)]; simp [hx0]
  rw [← hx0, Nat.add_zero] at d0
  have HT1 := Lib.hid ht1
  have HM0 := Lib.hid hm0
  have HC := Lib.hid hs
  have i0 : decide ((xs.length : Int) < 1) = false := decide_eq_false (by omega)
  have i00 : decide (xs.length < 1) = false := decide_eq_false (by omega)
  have i9 : (0 : Int) < xs.length := by omega
  clear hx0 hm0 ht1 hs
  go_enter Tryz.func83, Tryz.ntmps83
  go_wp2_with fail
  go_loopw [3, 4] (fun s3 s4 wr => ∃ (k : Nat) (m : Int), 1 ≤ k ∧ k ≤ xs.length ∧ s3 = .int .i64 m ∧ s4 = .int .i64 k ∧ wr = w ∧ Hid (m ∈ xs) ∧ Hid (∀ x ∈ xs.take k, m ≤ x)) (fun _ s4 _ => xs.length - (RowKit.intOf s4).toNat)
  case atStart => exact ⟨1, x0, Nat.le_refl _, h1, rfl, rfl, rfl, HM0, Lib.hid (by rw [HT1.out]; intro x hx; rw [List.mem_singleton] at hx; subst hx; omega)⟩
  case round =>
    obtain ⟨k, m, hk1, hk, rfl, rfl, rfl, hm, ha⟩ := hrel
    by_cases hkl : k < xs.length
    · obtain ⟨b', off', he, d1⟩ := HC.out.int k hkl
      simp only [Option.some.injEq, Addr.mk.injEq] at he
      obtain ⟨rfl, rfl, -⟩ := he
      have hst : xs.take (k + 1) = xs.take k ++ [xs[k]] := List.take_succ_eq_append_getElem hkl
      have hmk : xs[k] ∈ xs := List.getElem_mem hkl
      obtain ⟨y, hy⟩ : ∃ y, y = xs[k] := ⟨_, rfl⟩
      rw [← hy] at d1 hst hmk
      have HST := Lib.hid hst
      have HMK := Lib.hid hmk
      have i1 : decide (k < xs.length) = true := decide_eq_true hkl
      have i2 : decide ((k : Int) < xs.length) = true := decide_eq_true (by omega)
      have i3 : (0 : Int) ≤ k := by omega
      have i4 : (k : Int) < xs.length := by omega
      have x7 : IntKind.i64.wrap ((k : Int) + 1) = k + 1 := IntWalk.i64_in _ (by omega)
      clear hy hst hmk
      go_wp2_with fail
      go_roundw
      case measure => simp [RowKit.intOf, x7]; omega
      case rel =>
        refine ⟨k + 1, min m y, by omega, by omega, rfl, by go_num, trivial, Lib.hid ?_, Lib.hid ?_⟩
        · by_cases h : m ≤ y
          · rw [Int.min_eq_left h]; exact hm.out
          · rw [Int.min_eq_right (by omega)]; exact HMK.out
        · rw [HST.out]
          intro x hx
          rcases List.mem_append.1 hx with hx | hx
          · have := ha.out x hx; omega
          · rw [List.mem_singleton] at hx; subst hx; omega
    · have i1 : decide (k < xs.length) = false := decide_eq_false hkl
      have i2 : decide ((k : Int) < xs.length) = false := decide_eq_false (by omega)
      have hall := ha.out
      rw [List.take_of_length_le (by omega)] at hall
      go_wp2_with fail
      go_ret
      exact ⟨⟨m, rfl, hm.out, hall⟩, Below.refl _ _⟩

theorem ex_max : ∀ (xs : List Int), 1 ≤ xs.length → ∃ m, m ∈ xs ∧ ∀ x ∈ xs, x ≤ m
  | [x], _ => ⟨x, by simp, fun y hy => by rw [List.mem_singleton] at hy; omega⟩
  | x :: y :: r, _ => by
    obtain ⟨m, h1, h2⟩ := ex_max (y :: r) (by simp)
    by_cases h : x ≤ m
    · exact ⟨m, List.mem_cons_of_mem _ h1, fun z hz => by rcases List.mem_cons.1 hz with rfl | hz; exact h; exact h2 z hz⟩
    · exact ⟨x, by simp, fun z hz => by rcases List.mem_cons.1 hz with rfl | hz; exact Int.le_refl _; have := h2 z hz; omega⟩
theorem ex_min : ∀ (xs : List Int), 1 ≤ xs.length → ∃ m, m ∈ xs ∧ ∀ x ∈ xs, m ≤ x
  | [x], _ => ⟨x, by simp, fun y hy => by rw [List.mem_singleton] at hy; omega⟩
  | x :: y :: r, _ => by
    obtain ⟨m, h1, h2⟩ := ex_min (y :: r) (by simp)
    by_cases h : m ≤ x
    · exact ⟨m, List.mem_cons_of_mem _ h1, fun z hz => by rcases List.mem_cons.1 hz with rfl | hz; exact h; exact h2 z hz⟩
    · exact ⟨x, by simp, fun z hz => by rcases List.mem_cons.1 hz with rfl | hz; exact Int.le_refl _; have := h2 z hz; omega⟩
theorem max_lit {xs : List Int} {m : Int} (h1 : m ∈ xs) (h2 : ∀ x ∈ xs, x ≤ m) (hl : xs.length < 2147483648) (v : Value) (w : World) (hv : IsInts w v xs) :
    Calls Tryz.prog 82 #[v] w fun e w' => e = .returned (.int .i64 m) ∧ Below w.heap.size w w' := by
  refine (maxI_any xs v w hv (List.length_pos_of_mem h1) hl).mono ?_
  rintro e w' ⟨⟨m', rfl, h3, h4⟩, hb⟩
  exact ⟨by rw [Int.le_antisymm (h2 m' h3) (h4 m h1)], hb⟩
theorem min_lit {xs : List Int} {m : Int} (h1 : m ∈ xs) (h2 : ∀ x ∈ xs, m ≤ x) (hl : xs.length < 2147483648) (v : Value) (w : World) (hv : IsInts w v xs) :
    Calls Tryz.prog 83 #[v] w fun e w' => e = .returned (.int .i64 m) ∧ Below w.heap.size w w' := by
  refine (minI_any xs v w hv (List.length_pos_of_mem h1) hl).mono ?_
  rintro e w' ⟨⟨m', rfl, h3, h4⟩, hb⟩
  exact ⟨by rw [Int.le_antisymm (h4 m h1) (h2 m' h3)], hb⟩
theorem sumL_snoc : ∀ (l : List Int) (x : Int), Pn.sumL (l ++ [x]) = Pn.sumL l + x
  | [], x => by simp [Pn.sumL]
  | y :: l, x => by
    have := sumL_snoc l x
    simp only [Pn.sumL, List.cons_append, List.foldr_cons] at this ⊢
    omega
theorem sumL_bd : ∀ (l : List Int), (∀ x ∈ l, 0 ≤ x ∧ x ≤ 1099511627776) → 0 ≤ Pn.sumL l ∧ Pn.sumL l ≤ l.length * 1099511627776
  | [], _ => by simp [Pn.sumL]
  | y :: l, h => by
    have h1 := sumL_bd l (fun x hx => h x (List.mem_cons_of_mem _ hx))
    have h2 := h y (by simp)
    have e : ((y :: l).length : Int) * 1099511627776 = l.length * 1099511627776 + 1099511627776 := by rw [List.length_cons, Int.natCast_add, Int.add_mul]; simp
    simp only [Pn.sumL, List.foldr_cons] at h1 ⊢
    omega

/-- The looser bound. -/
def RelaxIs (p : PlD) (r : Int) : Prop := ∃ mn mx, (∀ x ∈ prices p, mn ≤ x) ∧ (∀ x ∈ p.L.xs, x ≤ mx) ∧ r = p.I.xs.length * mn + p.W * max 0 (p.St - p.Cp - p.I.xs.length * mx + Pn.sumL p.I.xs)
inductive RelaxR (p : PlD) : Value → Prop
  | bad : planB p = false → RelaxR p (.tuple #[.int .i64 0, .int .i64 1])
  | ok (r : Int) : planB p = true → RelaxIs p r → RelaxR p (.tuple #[.int .i64 r, .int .i64 0])

set_option maxRecDepth 100000 in
set_option maxHeartbeats 16000000 in
theorem prelax_any (p : PlD) (w : World) (hg : gPl w p) : Calls Tryz.prog 27 #[vPl p] w fun e w' => (∃ v, e = .returned v ∧ RelaxR p v) ∧ Below w.heap.size w w' := by
  have hb0 : Below w.heap.size w (w.alloc (.cells (ePl p).toArray 68)) := (Below.refl _ _).alloc (Nat.le_refl _) _
  cases hP : planB p
  · have ht := tankOf_bad p _ (rdPl.mono hg hb0) hP
    have HP := Lib.hid hP
    clear hP
    go_enter Tryz.func27, Tryz.ntmps27
    go_wp2_with fail
    refine Calls.to ht ?_
    rintro e w1 rfl hb1
    have hbw := hb0.trans (hb1.mono hb0.size)
    go_wp2_with fail
    go_ret2
    exact ⟨⟨_, rfl, .bad HP.out⟩, hbw⟩
  have hp := planB_ok hP
  have ht := tankOf_ok p _ (rdPl.mono hg hb0) hP hp.tab hp.ll.2
  have HP := Lib.hid hP
  have HG := Lib.hid hg
  obtain ⟨mx, hx1, hx2⟩ := ex_max p.L.xs hp.ll.1
  obtain ⟨mn, hn1, hn2⟩ := ex_min (prices p) (by rw [prices_len]; exact hp.ll.1)
  have hxb := hp.rel _ hx1
  have hnb := hp.pr _ hn1
  have HX := Lib.hid (And.intro hx1 hx2)
  have HNN := Lib.hid (And.intro hn1 hn2)
  obtain ⟨n, hn⟩ : ∃ n, n = p.I.xs.length := ⟨_, rfl⟩
  have HN := Lib.hid hn
  have hnle : n ≤ 200 := by rw [hn]; exact hp.il
  clear hP hg hx1 hx2 hn1 hn2
  go_enter Tryz.func27, Tryz.ntmps27
  go_wp2_with fail
  refine Calls.to ht ?_
  rintro e w1 ⟨g, rfl, hT⟩ hb1
  have hbw := hb0.trans (hb1.mono hb0.size)
  obtain ⟨c0, c1, _, c3, c4, _, c6⟩ := boxPl w w1 68 p _ rfl _ rfl (hb1.mono (by simp))
  rw [← hn] at c3
  clear hb1 hb0 ht hn
  have hst := hp.st
  have hcp := hp.cp
  have hrs := hp.rs
  have hwt := hp.w
  obtain ⟨nm, hnm⟩ : ∃ nm, nm = (n : Int) * mx := ⟨_, rfl⟩
  have hnm0 : 0 ≤ nm ∧ nm ≤ 200 * 1099511627776 := by
    rw [hnm]
    exact ⟨Int.mul_nonneg (by omega) hxb.1, Int.mul_le_mul (by omega) hxb.2 hxb.1 (by decide)⟩
  have x1 : IntKind.i64.wrap (p.St - p.Cp) = p.St - p.Cp := IntWalk.i64_in _ (by omega)
  have x2 : IntKind.i64.wrap ((n : Int) * mx) = nm := by rw [← hnm]; exact IntWalk.i64_in _ (by omega)
  have x3 : IntKind.i64.wrap (p.St - p.Cp - nm) = p.St - p.Cp - nm := IntWalk.i64_in _ (by omega)
  have HNM := Lib.hid hnm
  clear hnm
  have hmax := fun x => max_lit HX.out.1 HX.out.2 (by have := hp.ll.2; omega) (.slice p.L.a p.L.xs.length p.L.cap) (more w1 x) (rdInts.mono (rdInts.mono HG.out.l hbw) (below_more w1 x)).isL
  have HMAX := Lib.hid hmax
  clear hmax
  go_wp2_with fail
  refine wp_region_more_lit (by kernel_rfl) (by kernel_rfl) ?_
  repeat (go_big_quiet_step ((go_at_call 82; exact Calls.more_of (HMAX.out _))))
  refine wpQuiet_nil ?_
  intro _ hwq
  obtain ⟨xq, hwq⟩ := hwq
  subst hwq
  have hbW : Below w1.heap.size w1 (more w1 xq) := below_more w1 xq
  have hbw2 := hbw.trans (hbW.mono hbw.size)
  have c3 := cel_lt c3 hbW
  have c6 := cel_lt c6 hbW
  have hT2 := hT.mono hbW
  obtain ⟨ov, hov⟩ : ∃ ov, ov = p.St - p.Cp - nm := ⟨_, rfl⟩
  have hovb : -222000000000000 ≤ ov ∧ ov ≤ 1099511627776 := by omega
  rw [← hov]
  have HOV := Lib.hid hov
  clear hov hbW x1 x2 x3 c0 c1 c4 hT HMAX
  generalize more w1 xq = W at *
  go_wp2_with fail
  go_loopw [7, 34] (fun s7 s34 wr => ∃ (i : Nat) (sm : Int), i ≤ n ∧ s34 = .int .i64 i ∧ s7 = .int .i64 (ov + sm) ∧ wr = W ∧ Hid (sm = Pn.sumL (p.I.xs.take i))) (fun _ s34 _ => n - (RowKit.intOf s34).toNat)
  case atStart => exact ⟨0, 0, Nat.zero_le _, rfl, by simp, rfl, Lib.hid (by simp [Pn.sumL])⟩
  case round =>
    obtain ⟨i, sm, hi, rfl, rfl, rfl, hsm⟩ := hrel
    have hsb := sumL_bd (p.I.xs.take i) (fun x hx => hp.inf x (List.mem_of_mem_take hx))
    rw [← hsm.out] at hsb
    have hsb2 : 0 ≤ sm ∧ sm ≤ 200 * 1099511627776 := by
      have h1 : (p.I.xs.take i).length ≤ 200 := by rw [List.length_take]; have := hp.il; omega
      omega
    clear hsb
    by_cases hin : i < n
    · have hiI : i < p.I.xs.length := by rw [← HN.out]; exact hin
      obtain ⟨rb, ro, ea, dv⟩ := (rdInts.mono HG.out.i hbw2).2.2.1.int i hiI
      have hib := hp.inf _ (List.getElem_mem hiI)
      have hst2 : Pn.sumL (p.I.xs.take (i + 1)) = Pn.sumL (p.I.xs.take i) + p.I.xs[i] := by
        rw [List.take_succ_eq_append_getElem hiI, sumL_snoc]
      obtain ⟨iv, hiv⟩ : ∃ iv, iv = p.I.xs[i] := ⟨_, rfl⟩
      rw [← hiv] at dv hib hst2
      have HST := Lib.hid hst2
      have i1 : decide (i < n) = true := decide_eq_true hin
      have x7 : IntKind.i64.wrap ((i : Int) + 1) = i + 1 := IntWalk.i64_in _ (by omega)
      have x8 : IntKind.i64.wrap (ov + sm + iv) = ov + sm + iv := IntWalk.i64_in _ (by omega)
      clear hiv hst2
      go_wp2_with fail
      go_roundw
      case measure => simp [RowKit.intOf, x7]; omega
      case rel => exact ⟨i + 1, sm + iv, by omega, by go_num, by rw [Int.add_assoc], trivial, Lib.hid (by rw [HST.out, ← hsm.out])⟩
    · have i1 : decide (i < n) = false := decide_eq_false hin
      have hti : p.I.xs.take i = p.I.xs := List.take_of_length_le (by rw [← HN.out]; omega)
      have hs2 := hsm.out
      rw [hti] at hs2
      have HS2 := Lib.hid hs2
      clear hs2 hti
      obtain ⟨mo, hmo⟩ : ∃ mo, mo = max 0 (ov + sm) := ⟨_, rfl⟩
      have hmob : 0 ≤ mo ∧ mo ≤ 222000000000000 := by omega
      obtain ⟨q1, hq1⟩ : ∃ q1, q1 = (n : Int) * mn := ⟨_, rfl⟩
      have hq1b : 0 ≤ q1 ∧ q1 ≤ 200 * 1099511627776 := by
        rw [hq1]
        exact ⟨Int.mul_nonneg (by omega) hnb.1, Int.mul_le_mul (by omega) hnb.2 hnb.1 (by decide)⟩
      obtain ⟨q2, hq2⟩ : ∃ q2, q2 = p.W * mo := ⟨_, rfl⟩
      have hq2b : 0 ≤ q2 ∧ q2 ≤ 1000 * 222000000000000 := by
        rw [hq2]
        exact ⟨Int.mul_nonneg hwt.1 hmob.1, Int.mul_le_mul hwt.2 hmob.2 hmob.1 (by decide)⟩
      have x1 : IntKind.i64.wrap ((n : Int) * mn) = q1 := by rw [← hq1]; exact IntWalk.i64_in _ (by omega)
      have x2 : IntKind.i64.wrap (p.W * max 0 (ov + sm)) = q2 := by rw [← hmo, ← hq2]; exact IntWalk.i64_in _ (by omega)
      have x3 : IntKind.i64.wrap (q1 + q2) = q1 + q2 := IntWalk.i64_in _ (by omega)
      have HRX : Hid (RelaxIs p (q1 + q2)) := Lib.hid ⟨mn, mx, HNN.out.2, HX.out.2, by rw [hq1, hq2, hmo, HOV.out, HS2.out, HNM.out, HN.out]⟩
      obtain ⟨pa, pc, c7, hpr⟩ := hT2.pr
      have hpi : IsInts wr (.slice pa p.L.xs.length pc) (prices p) := ⟨pa, pc, by rw [prices_len], by rw [prices_len]; exact hpr.2.1, hpr.2.2, hpr.1⟩
      have hmin := fun x => min_lit HNN.out.1 HNN.out.2 (by rw [prices_len]; have := hp.ll.2; omega) (.slice pa p.L.xs.length pc) (more wr x) (hpi.mono (below_more wr x))
      have HMIN := Lib.hid hmin
      clear hpr hpi hmin hT2 hmo hq1 hq2 hsm
      go_wp2_with fail
      refine wp_region_more_lit (by kernel_rfl) (by kernel_rfl) ?_
      repeat (go_big_quiet_step ((go_at_call 83; exact Calls.more_of (HMIN.out _))))
      refine wpQuiet_nil ?_
      intro _ hwq
      obtain ⟨xq, hwq⟩ := hwq
      subst hwq
      have hbE := Below.more hbw2 hbw2.size xq
      go_wp2_with fail
      go_ret2
      exact ⟨⟨_, rfl, .ok _ HP.out HRX.out⟩, hbE⟩

end Go.Proofs.YtoiakijmbghhlaaGreat

namespace Go.Proofs.YtoiakijmbghhlaaGreat
open Go.RowKit
set_option linter.unusedVariables false
set_option linter.unusedSimpArgs false

open Classical in
noncomputable def zeroF (s : Int → Prop) : Int → Option Int := fun x => if s x then some 0 else none
theorem zeroF_iff {s s' : Int → Prop} (h : ∀ x, s x ↔ s' x) : zeroF s = zeroF s' := by
  funext x
  unfold zeroF
  by_cases hx : s x
  · rw [if_pos hx, if_pos ((h x).1 hx)]
  · rw [if_neg hx, if_neg (fun e => hx ((h x).2 e))]
theorem zeroF_set (s : Int → Prop) (v : Int) : setF (zeroF s) v 0 = zeroF (fun x => s x ∨ x = v) := by
  funext x
  unfold setF zeroF
  by_cases hx : x = v
  · rw [if_pos hx, if_pos (.inr hx)]
  · rw [if_neg hx]
    by_cases hs : s x
    · rw [if_pos hs, if_pos (.inl hs)]
    · rw [if_neg hs, if_neg (by rintro (h | h); exact hs h; exact hx h)]
theorem zeroF_small (s : Int → Prop) : SmallF (zeroF s) := by
  intro u y h
  unfold zeroF at h
  split at h
  · cases h; omega
  · cases h
theorem zeroF_some {s : Int → Prop} {u y : Int} (h : zeroF s u = some y) : y = 0 := by
  unfold zeroF at h
  split at h
  · cases h; rfl
  · cases h
inductive MyoR (p : PlD) : Value → Prop
  | bad : planB p = false → MyoR p (.tuple #[.int .i64 0, .slice none 0 0, .int .i64 1])
  | none : MyoR p (.tuple #[.int .i64 0, .slice none 0 0, .int .i64 12])
  | ok (m : Int) (u : Value) (ks : List Nat) (vs : List Int) : planB p = true → ks.length = p.I.xs.length → (∀ k ∈ ks, k < p.L.xs.length) → Pn.costK (plOf p) p.I.xs ks p.St = some (m, vs) → MyoR p (.tuple #[.int .i64 m, u, .int .i64 0])

set_option maxRecDepth 100000 in
set_option maxHeartbeats 16000000 in
theorem pmyopic_any (p : PlD) (w : World) (hg : gPl w p) : Calls Tryz.prog 28 #[vPl p] w fun e w' => (∃ v, e = .returned v ∧ MyoR p v) ∧ Below w.heap.size w w' := by
  have hmm := @run_makeMap Tryz.prog
  have hb0 : Below w.heap.size w (w.alloc (.cells (ePl p).toArray 68)) := (Below.refl _ _).alloc (Nat.le_refl _) _
  cases hP : planB p
  · have ht := tankOf_bad p _ (rdPl.mono hg hb0) hP
    have HP := Lib.hid hP
    clear hP
    go_enter Tryz.func28, Tryz.ntmps28
    go_wp2_with fail
    refine Calls.to ht ?_
    rintro e w1 rfl hb1
    have hbw := hb0.trans (hb1.mono hb0.size)
    go_wp2_with fail
    go_ret3
    exact ⟨⟨_, rfl, .bad HP.out⟩, hbw⟩
  have hp := planB_ok hP
  have ht := tankOf_ok p _ (rdPl.mono hg hb0) hP hp.tab hp.ll.2
  have HP := Lib.hid hP
  have HG := Lib.hid hg
  obtain ⟨n, hn⟩ : ∃ n, n = p.I.xs.length := ⟨_, rfl⟩
  obtain ⟨ls, hls⟩ : ∃ ls, ls = p.L.xs.length := ⟨_, rfl⟩
  have HN := Lib.hid hn
  have HLS := Lib.hid hls
  have hnle : n ≤ 200 := by rw [hn]; exact hp.il
  have hlle : ls ≤ 20 := by rw [hls]; exact hp.ll.2
  clear hP hg
  go_enter Tryz.func28, Tryz.ntmps28
  go_wp2_with fail
  refine Calls.to ht ?_
  rintro e w1 ⟨g, rfl, hT⟩ hb1
  have hbw := hb0.trans (hb1.mono hb0.size)
  obtain ⟨c0, _, _, c3, c4, _, _⟩ := boxPl w w1 68 p _ rfl _ rfl (hb1.mono (by simp))
  rw [← hn] at c3
  rw [← hls] at c4
  clear hb1 hb0 ht hn hls
  go_wp2_with fail
  go_quiet (fail)
  have hbW : Below w1.heap.size w1 (w1.drewN nq) := below_drewN (Below.refl _ _) nq
  have hbw4 := hbw.trans (hbW.mono hbw.size)
  have c3 := cel_lt c3 hbW
  have c4 := cel_lt c4 hbW
  have HTW := Lib.hid (hT.mono hbW)
  clear c0 hT hbW
  generalize w1.drewN nq = W at *
  go_wp2_with fail
  clear c3
  go_loopw [7, 8, 9, 31] (fun s7 s8 s9 s31 wr => ∃ (i : Nat) (sum vol : Int) (os : List Int), i ≤ n ∧ s31 = .int .i64 i ∧ s7 = .int .i64 sum ∧ s8 = .int .i64 vol ∧ Below W.heap.size W wr ∧ Own W.heap.size 3 eInt 1 wr s9 os ∧ Hid (os.length = i) ∧
      Hid (∃ (ks : List Nat) (vs : List Int), ks.length = i ∧ (∀ k ∈ ks, k < p.L.xs.length) ∧ ∀ ks', Pn.costK (plOf p) p.I.xs (ks ++ ks') p.St = (Pn.costK (plOf p) (p.I.xs.drop i) ks' vol).map fun x => (sum + x.1, vs ++ x.2)) ∧ Hid (p.Rs ≤ vol ∧ vol ≤ p.Cp) ∧ Hid (0 ≤ sum ∧ sum ≤ i * 1100611139403776)) (fun _ _ _ s31 _ => n - (RowKit.intOf s31).toNat)
  case atStart => exact ⟨0, 0, p.St, [], Nat.zero_le _, rfl, rfl, rfl, Below.refl _ _, World.ownsRow_nil _ _ _ _, Lib.hid rfl, Lib.hid ⟨[], [], rfl, fun k hk => (by cases hk), fun ks' => by rw [List.drop_zero, List.nil_append]; cases Pn.costK (plOf p) p.I.xs ks' p.St <;> simp⟩, Lib.hid hp.st, Lib.hid (by omega)⟩
  case round =>
    obtain ⟨i, sum, vol, os, hi, rfl, rfl, rfl, hb, hown, hol, hks, hvb, hsm⟩ := hrel
    obtain ⟨wo, hwo⟩ : ∃ wo, wo = wr := ⟨_, rfl⟩
    subst hwo
    have hbr := hbw4.trans (hb.mono hbw4.size)
    obtain ⟨oa, oc, hoe⟩ := hown.isSlice
    have hyl : os.length < 2147483648 := by have := hol.out; omega
    obtain ⟨vl, hvlen⟩ : ∃ vl, vl = os.length := ⟨_, rfl⟩
    rw [← hvlen] at hoe
    subst hoe
    have HVL := Lib.hid hvlen
    clear hvlen
    by_cases hin : i < n
    · have hiI : i < p.I.xs.length := by rw [← HN.out]; exact hin
      obtain ⟨iv, hiv⟩ : ∃ iv, iv = p.I.xs[i] := ⟨_, rfl⟩
      have HIV := Lib.hid hiv
      have i1 : decide (i < n) = true := decide_eq_true hin
      have x7 : IntKind.i64.wrap ((i : Int) + 1) = i + 1 := IntWalk.i64_in _ (by omega)
      have hbM : Below wo.heap.size wo (wo.alloc (.map #[] 0)) := (Below.refl _ _).alloc (Nat.le_refl _) _
      have c4o := cel_lt (cel_lt c4 hb) hbM
      have HM0 : Hid (MapI (wo.alloc (.map #[] 0)) wo.heap.size 0 (zeroF (RchK p iv vol 0))) := Lib.hid (by
        have h : zeroF (RchK p iv vol 0) = fun _ => none := by
          funext x
          unfold zeroF
          rw [if_neg (RchK_zero p iv vol x)]
        rw [h]; exact MapI.made wo)
      have HTo := Lib.hid (HTW.out.mono hb)
      clear hiv
      go_wp2_with fail
      clear c4o i1
      go_loopw [38] (fun s38 wx => ∃ k : Nat, k ≤ ls ∧ s38 = .int .i64 k ∧ Below wo.heap.size wo wx ∧ Hid (MapI wx wo.heap.size k (zeroF (RchK p iv vol k)))) (fun s38 _ => ls - (RowKit.intOf s38).toNat)
      case atStart => exact ⟨0, Nat.zero_le _, rfl, hbM, HM0⟩
      case round =>
        obtain ⟨k, hk, rfl, hbx, hmx⟩ := hrel
        obtain ⟨wx, hwx⟩ : ∃ wx, wx = wr := ⟨_, rfl⟩
        subst hwx
        by_cases hkl : k < ls
        · have hstep := pstep_any p g vol i k wx (HTo.out.mono hbx) hp hvb.out hiI (by rw [← HLS.out]; exact hkl)
          rw [← HIV.out] at hstep
          have i2 : decide (k < ls) = true := decide_eq_true hkl
          have x6 : IntKind.i64.wrap ((k : Int) + 1) = k + 1 := IntWalk.i64_in _ (by omega)
          cases hs : Pn.stepP (plOf p) vol iv k with
          | none =>
            rw [hs] at hstep
            simp only [stV] at hstep
            have HSS := Lib.hid hs
            clear hs
            go_wp2_with fail
            refine Calls.to hstep ?_
            rintro e w5 rfl hb5
            have hb5' := hbx.trans (hb5.mono hbx.size)
            have hm5 := hmx.out.below hb5
            clear hstep hb5
            go_wp2_with fail
            go_roundw
            case measure => simp [RowKit.intOf, x6]; omega
            case rel => exact ⟨k + 1, by omega, by go_num, hb5', Lib.hid (by rw [← zeroF_iff (RchK_none HSS.out)]; exact hm5.mono (by omega))⟩
          | some z =>
            obtain ⟨w0, c0⟩ := z
            have hw0 := Pn.step_bd hp.pn.rc hs
            have hwb : 0 ≤ w0 ∧ w0 ≤ 1099511627776 := by
              have h1 : p.Rs ≤ w0 := hw0.1
              have h2 : w0 ≤ p.Cp := hw0.2
              have h3 := hp.cp
              have h4 := hp.rs
              omega
            have hkey := keyI (k := w0) (wfI (by omega))
            rw [hs] at hstep
            simp only [stV] at hstep
            have HSS := Lib.hid hs
            clear hs hw0
            go_wp2_with fail
            refine Calls.to hstep ?_
            rintro e w5 rfl hb5
            have hb5' := hbx.trans (hb5.mono hbx.size)
            obtain ⟨D, hD, hf⟩ := hmx.out.below hb5
            have hkm : k < maxLen := by simp only [maxLen]; omega
            clear hstep hb5
            go_wp2_with (at_mapUpdate; refine wpList_mapUpdate_own _ rfl _ _ _ 65 rfl 3 3 kInt undMII elI wo.heap.size k D rfl hD hkm _ _ _ rfl rfl hkey (.lit (.int .i64 0)) [] (plainElem_int undI (by decide)) ?_; intro w6 hown6 hgrow6)
            have hb6 := hb5'.grown hgrow6 hb5'.size (fun q hq => by cases hq; exact Nat.le_refl _)
            have hm6 := MapI.put hD.isMap hf hown6
            rw [zeroF_set, zeroF_iff (RchK_some HSS.out)] at hm6
            clear hown6 hgrow6 hD hf hkey
            go_wp2_with fail
            go_roundw
            case measure => simp [RowKit.intOf, x6]; omega
            case rel => exact ⟨k + 1, by omega, by go_num, hb6, Lib.hid hm6⟩
        · have i2 : decide (k < ls) = false := decide_eq_false hkl
          have hbest := pbest_any p g wo.heap.size 4000 (zeroF (RchK p iv vol k)) i vol wx (HTo.out.mono hbx) hp hvb.out hiI (hmx.out.mono (by omega)) (zeroF_small _)
          rw [← HIV.out] at hbest
          have hbxW := hb.trans (hbx.mono hb.size)
          have c4x := cel_lt c4 hbxW
          cases hbb : Pn.best (plOf p) (zeroF (RchK p iv vol k)) vol iv with
          | none =>
            rw [hbb] at hbest
            simp only [bsV] at hbest
            clear hbb
            go_wp2_with fail
            refine Calls.to hbest ?_
            rintro e w5 rfl hb5
            have hb5' := hbw4.trans ((hbxW.trans (hb5.mono hbxW.size)).mono hbw4.size)
            go_wp2_with fail
            go_ret3
            exact ⟨⟨_, rfl, .none⟩, hb5'⟩
          | some z =>
            obtain ⟨kb, cb⟩ := z
            rw [hbb] at hbest
            simp only [bsV] at hbest
            obtain ⟨⟨hkL, w0, c0, y0, hs, hy0, hc⟩, _⟩ := Pn.bestK_some _ kb cb hbb
            have hkL2 : kb < p.L.xs.length := hkL
            have hy1 := zeroF_some hy0
            have hcb : cb = c0 := by omega
            subst hcb
            have hc0 := Pn.step_cost hp.pn hvb.out.2 (by rw [HIV.out]; exact hp.inf _ (List.getElem_mem hiI)) (show kb < (plOf p).L.length from hkL2) hs
            have hc1 : 0 ≤ cb ∧ cb ≤ 1100611139403776 := by unfold Pn.K at hc0; omega
            have hw0 := Pn.step_bd hp.pn.rc hs
            obtain ⟨ks, vs, hk1, hk2, hk3⟩ := hks.out
            have hnew : ∃ (ks : List Nat) (vs : List Int), ks.length = i + 1 ∧ (∀ k ∈ ks, k < p.L.xs.length) ∧ ∀ ks', Pn.costK (plOf p) p.I.xs (ks ++ ks') p.St = (Pn.costK (plOf p) (p.I.xs.drop (i + 1)) ks' w0).map fun x => (sum + cb + x.1, vs ++ x.2) := by
              refine ⟨ks ++ [kb], vs ++ [w0], by rw [List.length_append, hk1]; rfl, fun q hq => ?_, fun ks' => ?_⟩
              · rcases List.mem_append.1 hq with hq | hq
                · exact hk2 q hq
                · rw [List.mem_singleton] at hq; subst hq; exact hkL2
              · rw [List.append_assoc, hk3, List.drop_eq_getElem_cons hiI, ← HIV.out, List.singleton_append, Pn.costK, hs]
                simp only [Option.map_map]
                congr 1
                funext x
                simp [Int.add_assoc]
            have HNEW := Lib.hid hnew
            have HSS := Lib.hid hs
            have HW0 := Lib.hid hw0
            have hsb := hsm.out
            have hsb2 : 0 ≤ sum + cb ∧ sum + cb ≤ ((i + 1 : Nat) : Int) * 1100611139403776 := by
              have : ((i + 1 : Nat) : Int) * 1100611139403776 = i * 1100611139403776 + 1100611139403776 := by rw [Int.natCast_add, Int.add_mul]; simp
              omega
            have HSB := Lib.hid hsb2
            have x9 : IntKind.i64.wrap (sum + cb) = sum + cb := IntWalk.i64_in _ (by omega)
            have hstep := fun W' (h : Below wx.heap.size wx W') => pstep_any p g vol i kb W' ((HTo.out.mono hbx).mono h) hp hvb.out hiI hkL2
            rw [← HIV.out] at hstep
            simp only [hs, stV] at hstep
            have hbxr := hbw4.trans (hbxW.mono hbw4.size)
            obtain ⟨lb, lo, ea, dL⟩ := (HG.out.l.2.2.1.mono hbxr).int kb hkL2
            obtain ⟨lk, hlk⟩ : ∃ lk, lk = p.L.xs[kb] := ⟨_, rfl⟩
            rw [← hlk] at dL
            have i4 : (0 : Int) ≤ kb := by omega
            have i5 : (kb : Int) < ls := by have := HLS.out; omega
            clear hbb hs hy0 hy1 hc hc0 hw0 hk1 hk2 hk3 hnew hsb hsb2 hlk hkL
            go_wp2_with fail
            refine Calls.to hbest ?_
            rintro e w5 rfl hb5
            have hb5' := hbxW.trans (hb5.mono hbxW.size)
            have hbo5 : Below wo.heap.size wo w5 := hbx.trans (hb5.mono hbx.size)
            have hown5 := hown.below hbo5
            have c45 := cel_lt c4x hb5
            rw [ea] at c45
            have dL5 := cel_lt dL hb5
            have hst5 := hstep w5 hb5
            have h1c : ∀ u ∈ eInt lk, u.oneCell' = true := by simp [Value.oneCell']
            have hs5 : W.heap.size ≤ w5.heap.size := hb5'.size
            have HB5 := Lib.hid hb5
            have HSTP := Lib.hid hstep
            clear hstep hst5 hbest c4x dL ea
            go_wp2_with (at_builtin; go_must (refine wpList_pushR rfl _ _ 28 rfl 3 _ 1 8 undInts infInt rfl (by decide) lk (fun _ => rfl) h1c _ os rfl hown5 w5.heap.size rfl rfl hyl (by decide) hs5 _ rfl ?_); intro g7 k7 w7 hR7)
            have hb7 := hb5'.trans (hR7.below hown5 hs5)
            have hown7 := hR7.own
            have hst7 := pstep_any p g vol i kb w7 (HTW.out.mono hb7) hp hvb.out hiI hkL2
            rw [← HIV.out, HSS.out] at hst7
            simp only [stV] at hst7
            refine Calls.to hst7 ?_
            rintro e w8 rfl hb8
            have hb8' := hb7.trans (hb8.mono hb7.size)
            have hown8 := hown7.below hb8
            clear hst7 hb8 hown7 hR7 hown5
            go_wp2_with fail
            go_roundw
            case measure => simp [RowKit.intOf, x7]; omega
            case rel => exact ⟨i + 1, sum + cb, w0, os ++ [lk], by omega, by go_num, rfl, rfl, hb8', hown8, Lib.hid (by rw [List.length_append, hol.out]; rfl), HNEW, HW0, HSB⟩
    · have i1 : decide (i < n) = false := decide_eq_false hin
      obtain ⟨ks, vs, hk1, hk2, hk3⟩ := hks.out
      have hfin := hk3 []
      rw [List.drop_eq_nil_of_le (by rw [← HN.out]; omega), List.append_nil] at hfin
      simp only [Pn.costK, Option.map_some, Int.add_zero, List.append_nil] at hfin
      have HF : Hid (MyoR p (.tuple #[.int .i64 sum, .slice oa vl oc, .int .i64 0])) := Lib.hid (.ok sum _ ks vs HP.out (by rw [hk1, ← HN.out]; omega) hk2 hfin)
      clear hk1 hk2 hk3 hfin
      go_wp2_with fail
      go_ret3
      exact ⟨⟨_, rfl, HF.out⟩, hbr⟩

end Go.Proofs.YtoiakijmbghhlaaGreat

namespace Go.Proofs.YtoiakijmbghhlaaGreat
open Go.RowKit
set_option linter.unusedVariables false
set_option linter.unusedSimpArgs false

theorem rels_ix {p : PlD} (hp : PlOk p) (ks : List Nat) (hk : ∀ k ∈ ks, k < p.L.xs.length) : (ks.map fun k => p.L.xs.getD k 0).map (ixL p.L.xs) = ks := by
  rw [List.map_map]
  conv => rhs; rw [← List.map_id ks]
  exact List.map_congr_left fun k h => ixL_at hp (hk k h)
theorem rels_ok {p : PlD} (hP : planB p = true) {m : Int} (hV : Pn.V (plOf p) p.I.xs p.St = some m) :
    (rels p).length = p.I.xs.length ∧ (∀ r ∈ rels p, r ∈ p.L.xs) ∧ (0 ≤ m ∧ m ≤ 1152921504606846976) ∧
      ∃ vs, Pn.costK (plOf p) p.I.xs ((rels p).map (ixL p.L.xs)) p.St = some (m, vs) ∧ vs.length = p.I.xs.length ∧ ∀ x ∈ vs, p.Rs ≤ x ∧ x ≤ p.Cp := by
  have hp := planB_ok hP
  obtain ⟨h1, h2, vs, h3⟩ := Pn.plan_cost p.I.xs p.St m hV
  have hb := Pn.V_bd hp.pn p.I.xs p.St m hp.inf hp.st.2 hV
  have hl := hp.il
  have hK : (p.I.xs.length : Int) * Pn.K ≤ 200 * Pn.K := Int.mul_le_mul_of_nonneg_right (by omega) (by decide)
  have hK2 : (200 : Int) * Pn.K ≤ 1152921504606846976 := by decide
  obtain ⟨hv1, hv2⟩ := Pn.cost_vols (p := plOf p) hp.rs.2 p.I.xs _ p.St m vs h1.symm h3
  refine ⟨by unfold rels; rw [List.length_map, h1], ?_, by omega, vs, ?_, hv1, hv2⟩
  · intro r hr
    obtain ⟨k, hk, rfl⟩ := List.mem_map.1 hr
    have hkl : k < p.L.xs.length := h2 k hk
    rw [List.getD, List.getElem?_eq_getElem hkl, Option.getD_some]
    exact List.getElem_mem hkl
  · unfold rels
    rw [rels_ix hp _ h2]
    exact h3
theorem cost_ge {p : PlD} {m : Int} (hV : Pn.V (plOf p) p.I.xs p.St = some m) {ks : List Nat} {d : Int} {vs : List Int} (hl : ks.length = p.I.xs.length) (hk : ∀ k ∈ ks, k < p.L.xs.length) (hc : Pn.costK (plOf p) p.I.xs ks p.St = some (d, vs)) : m ≤ d := by
  obtain ⟨x, h1, h2⟩ := Pn.V_le p.I.xs ks p.St d vs hl.symm hk hc
  rw [hV] at h1
  cases h1
  exact h2
theorem ix_lt {p : PlD} {rs : List Int} (h : ∀ r ∈ rs, r ∈ p.L.xs) : ∀ k ∈ rs.map (ixL p.L.xs), k < p.L.xs.length := by
  intro k hk
  obtain ⟨r, hr, rfl⟩ := List.mem_map.1 hk
  exact (ixL_mem (h r hr)).1
theorem relaxed_le {p : PlD} (hP : planB p = true) {m r : Int} (hV : Pn.V (plOf p) p.I.xs p.St = some m) (hr : RelaxIs p r) : r ≤ m := by
  have hp := planB_ok hP
  obtain ⟨h1, h2, vs, h3⟩ := Pn.plan_cost p.I.xs p.St m hV
  obtain ⟨mn, mx, hmn, hmx, rfl⟩ := hr
  obtain ⟨S, s0, s1, s2⟩ := Pn.relax (p := plOf p) hp.pn mn mx hmn hmx p.I.xs _ p.St m vs h1.symm h2 h3
  have s3 := s1 hp.st.2
  have e1 : (plOf p).C = p.Cp := rfl
  have e2 : (plOf p).W = p.W := rfl
  rw [e1] at s3
  rw [e2] at s2
  have hm : max 0 (p.St - p.Cp - p.I.xs.length * mx + Pn.sumL p.I.xs) ≤ S := by omega
  have := Int.mul_le_mul_of_nonneg_left hm hp.w.1
  omega

end Go.Proofs.YtoiakijmbghhlaaGreat

namespace Go.Proofs.YtoiakijmbghhlaaGreat
open Go.RowKit
set_option linter.unusedVariables false
set_option linter.unusedSimpArgs false

abbrev eU8 (x : Int) : List Value := [.int .u8 x]
abbrev gU8 : World → Int → Prop := fun _ n => (Lit.int .u8 n).wf = true
set_option maxRecDepth 100000 in
theorem openU8s {H : Type} {en : TypeId × Value → H} {W : World} {v : Value} {d : DataW H} {ps : List MemPlace} {r : Reach} {b0 : Nat} (hv : Value.okWide Tryz.prog W r b0 69 v) (h : DataW.Trod en Tryz.prog W 0 (fun _ => true) true 69 v d ps) :
    ∃ s : Sl Int, v = vSl s ∧ gSl eU8 1 gU8 W s := arg_slice (rdInt (t := 5) (k := .u8) (by kernel_rfl) (by kernel_rfl)) (by decide) (by kernel_rfl) (by kernel_rfl) hv h
set_option maxRecDepth 100000 in
theorem openRws {H : Type} {en : TypeId × Value → H} {W : World} {v : Value} {d : DataW H} {ps : List MemPlace} {r : Reach} {b0 : Nat} (hv : Value.okWide Tryz.prog W r b0 70 v) (h : DataW.Trod en Tryz.prog W 0 (fun _ => true) true 70 v d ps) :
    ∃ s : Sl (Sl Int), v = vSl s ∧ gSl (fun s : Sl Int => [vSl s]) 1 gInts W s := arg_slice rdInts (by decide) (by kernel_rfl) (by kernel_rfl) hv h
theorem u8_bd {x : Int} (h : (Lit.int .u8 x).wf = true) : 0 ≤ x ∧ x < 256 := by
  simp [Lit.wf, IntKind.min, IntKind.max, IntKind.signed, IntKind.bits] at h
  omega

theorem ent18 : ∀ args w, (callFunc 18 args).run Tryz.prog w = .ok (.enter 18 args) w := by
  intro args w
  simp [go_sem]
theorem ent25 : ∀ args w, (callFunc 25 args).run Tryz.prog w = .ok (.enter 25 args) w := by
  intro args w
  simp [go_sem]
def r200 (s : Sl Int) : Bool := decide (200 < s.xs.length)
theorem planned1_any (s : Sl Int) (w : World) : Calls Tryz.prog 18 #[vSl s] w fun e w' => e = .returned (.bool (r200 s)) ∧ Below w.heap.size w w' := by
  obtain ⟨b, hb⟩ : ∃ b, r200 s = b := ⟨_, rfl⟩
  rw [hb]
  unfold r200 at hb
  have hb2 : decide ((200 : Int) < s.xs.length) = b := by rw [← hb]; congr 1; apply propext; omega
  obtain ⟨n, hn⟩ : ∃ n, n = s.xs.length := ⟨_, rfl⟩
  simp only [vSl]
  rw [← hn] at hb hb2 ⊢
  clear hn
  go_enter Tryz.func18, Tryz.ntmps18
  go_wp2_with fail
  go_ret
  exact ⟨rfl, Below.refl _ _⟩
theorem planned2_any (x Rs Cp : Int) (B : Nat) (w : World) (h1 : w.cell? ⟨B, 1, none⟩ = some (.int .i64 Cp)) (h2 : w.cell? ⟨B, 2, none⟩ = some (.int .i64 Rs)) (hx : Rs ≤ x ∧ x ≤ Cp) :
    Calls Tryz.prog 25 #[.int .i64 x, .pointer (some ⟨B, 0, none⟩)] w fun e w' => e = .returned (.bool false) ∧ Below w.heap.size w w' := by
  have i1 : decide (x < Rs) = false := decide_eq_false (by omega)
  have i2 : decide (Cp < x) = false := decide_eq_false (by omega)
  clear hx
  go_enter Tryz.func25, Tryz.ntmps25
  go_wp2_with fail
  go_ret
  exact ⟨rfl, Below.refl _ _⟩

end Go.Proofs.YtoiakijmbghhlaaGreat
