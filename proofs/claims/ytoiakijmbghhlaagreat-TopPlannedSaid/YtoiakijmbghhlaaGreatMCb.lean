/- certificate.Check, Bound. Conditions: the plan and the rows read as data. | certificate.Bound, Gap. Conditions: the plan and the rows read as data. | certificate.Gap. Conditions: the plan, the rows and the list read as data; a schedule of the plan. | What a certificate says. Conditions: none but the certificate's own. -/
import Derived.Test.YtoiakijmbghhlaaGreatYcf
import Derived.Test.YtoiakijmbghhlaaGreatYpi
namespace Go.Proofs.YtoiakijmbghhlaaGreat
open Go.RowKit
set_option linter.unusedVariables false
set_option linter.unusedSimpArgs false

inductive CheckR (p : PlD) (rows : List (List Int)) : Value → Prop
  | bad : givenE p rows ≠ 0 → CheckR p rows (.tuple #[.bool false, .int .i64 0, .int .i64 (givenE p rows)])
  | no (k : Nat) : givenE p rows = 0 → k < rows.length → holdB p rows k = false → CheckR p rows (.tuple #[.bool false, .int .i64 k, .int .i64 0])
  | yes : givenE p rows = 0 → (∀ k, k < rows.length → holdB p rows k = true) → CheckR p rows (.tuple #[.bool true, .int .i64 0, .int .i64 0])

theorem given_ok {p : PlD} {rows : List (List Int)} (h : givenE p rows = 0) : planB p = true ∧ (∀ row ∈ rows, row.length ≤ 8000) ∧ rows.length = p.I.xs.length + 1 ∧ ∀ row ∈ rows, RowGood p row := by
  unfold givenE at h
  cases h1 : planB p
  · rw [if_pos h1] at h; cases h
  rw [if_neg (by rw [h1]; simp)] at h
  cases h2 : rows.any longB
  rotate_left
  · rw [if_pos h2] at h; cases h
  rw [if_neg (by rw [h2]; simp)] at h
  cases h3 : shapedB p rows
  · rw [if_pos h3] at h; cases h
  simp only [shapedB, Bool.and_eq_true, decide_eq_true_eq, List.all_eq_true] at h3
  refine ⟨rfl, fun row hr => ?_, h3.1, fun row hr => rowB_iff.1 (h3.2 row hr)⟩
  have := List.any_eq_false.1 h2 row hr
  simpa [longB] using this

set_option maxRecDepth 100000 in
set_option maxHeartbeats 8000000 in
theorem ccheck_any (p : PlD) (rs : List (Sl Int)) (v : Value) (w : World) (hg : gPl w p) (hr : IsRws w v rs) (hrl : rs.length < 2147483648) :
    Calls Tryz.prog 21 #[vPl p, v] w fun e w' => (∃ u, e = .returned u ∧ CheckR p (rs.map (·.xs)) u) ∧ Below w.heap.size w w' := by
  obtain ⟨va, vc, rfl, -, -, -⟩ := hr.1
  have hb0 : Below w.heap.size w (w.alloc (.cells (ePl p).toArray 68)) := (Below.refl _ _).alloc (Nat.le_refl _) _
  have HG := Lib.hid hg
  have HRW := Lib.hid hr
  have hgv := cgiven_any p rs _ _ (rdPl.mono hg hb0) (hr.mono hb0) hrl
  obtain ⟨m, hm⟩ : ∃ m, m = rs.length := ⟨_, rfl⟩
  have HM := Lib.hid hm
  rw [← hm] at hgv hrl ⊢
  clear hg hr hm
  obtain ⟨ge, hge⟩ : ∃ ge, ge = givenE p (rs.map (·.xs)) := ⟨_, rfl⟩
  rw [← hge] at hgv
  have HGE := Lib.hid hge
  clear hge
  go_enter Tryz.func21, Tryz.ntmps21
  go_wp2_with fail
  refine Calls.to hgv ?_
  rintro e w1 rfl hb1
  have hbw := hb0.trans (hb1.mono hb0.size)
  obtain ⟨c0, c1, c2, c3, c4, c5, c6⟩ := boxPl w w1 68 p _ rfl _ rfl (hb1.mono (by simp))
  clear hb1 hb0 hgv
  by_cases h0 : ge = 0
  rotate_left
  · have k1 : (ge != 0) = true := by simpa using h0
    have k2 : decide (ge = 0) = false := decide_eq_false h0
    have HH : Hid (CheckR p (rs.map (·.xs)) (.tuple #[.bool false, .int .i64 0, .int .i64 ge])) := Lib.hid (by rw [HGE.out]; exact .bad (by rw [← HGE.out]; exact h0))
    clear c0 c1 c2 c3 c4 c5 c6
    go_wp2_with fail
    go_ret3
    exact ⟨⟨_, rfl, HH.out⟩, hbw⟩
  have h0' : givenE p (rs.map (·.xs)) = 0 := by rw [← HGE.out]; exact h0
  have HGE := Lib.hid h0'
  have hok := given_ok h0'
  have hp := planB_ok hok.1
  have HOK := Lib.hid hok
  have HP := Lib.hid hp
  have hm201 : m ≤ 201 := by have h1 := hok.2.2.1; have h2 := hp.il; have h3 := HM.out; rw [List.length_map] at h1; omega
  have k1 : (ge != 0) = false := by simpa using h0
  have k2 : decide (ge = 0) = true := decide_eq_true h0
  clear hok hp h0' h0
  go_wp2_with fail
  clear k1 k2
  go_loopw [17] (fun s17 wr => ∃ k : Nat, k ≤ m ∧ s17 = .int .i64 k ∧ Below w1.heap.size w1 wr ∧ Hid (∀ j, j < k → holdB p (rs.map (·.xs)) j = true)) (fun s17 _ => m - (RowKit.intOf s17).toNat)
  case atStart => exact ⟨0, Nat.zero_le _, rfl, Below.refl _ _, Lib.hid (fun j hj => absurd hj (Nat.not_lt_zero _))⟩
  case round =>
    obtain ⟨k, hk, rfl, hb, hm⟩ := hrel
    have hbr := hbw.trans (hb.mono hbw.size)
    by_cases hkm : k < m
    · have c0 := cel_lt c0 hb
      have c1 := cel_lt c1 hb
      have c2 := cel_lt c2 hb
      have c3 := cel_lt c3 hb
      have c4 := cel_lt c4 hb
      have c5 := cel_lt c5 hb
      have c6 := cel_lt c6 hb
      have hch := chold_any p rs (.slice va rs.length vc) k wr (rdPl.mono HG.out hbr) HP.out (HRW.out.mono hbr) (fun s hs => HOK.out.2.2.2 _ (List.mem_map_of_mem hs)) (fun s hs => HOK.out.2.1 _ (List.mem_map_of_mem hs)) (by have := HOK.out.2.2.1; rwa [List.length_map] at this) (by rw [← HM.out]; exact hkm)
      rw [← HM.out] at hch
      have x7 : IntKind.i64.wrap ((k : Int) + 1) = k + 1 := IntWalk.i64_in _ (by omega)
      have i6 : decide (k < m) = true := decide_eq_true hkm
      go_wp2_with fail
      refine Calls.to hch ?_
      rintro e w2 rfl hb2
      have hb' := hb.trans (hb2.mono hb.size)
      have hbr2 := hbr.trans (hb2.mono hbr.size)
      clear c0 c1 c2 c3 c4 c5 c6 hch
      cases hH : holdB p (rs.map (·.xs)) k
      · have HH : Hid (CheckR p (rs.map (·.xs)) (.tuple #[.bool false, .int .i64 k, .int .i64 0])) := Lib.hid (.no k HGE.out (by rw [List.length_map, ← HM.out]; exact hkm) hH)
        clear hH
        go_wp2_with fail
        go_ret3
        exact ⟨⟨_, rfl, HH.out⟩, hbr2⟩
      · have hm2 : Hid (∀ j, j < k + 1 → holdB p (rs.map (·.xs)) j = true) := Lib.hid (fun j hj => by
          by_cases hjk : j < k
          · exact hm.out j hjk
          · rw [show j = k from by omega]; exact hH)
        clear hH
        go_wp2_with fail
        go_roundw
        case measure => simp [RowKit.intOf, x7]; omega
        case rel => exact ⟨k + 1, by omega, by go_num, hb', hm2⟩
    · have i6 : decide (k < m) = false := decide_eq_false hkm
      have HH : Hid (CheckR p (rs.map (·.xs)) (.tuple #[.bool true, .int .i64 0, .int .i64 0])) := Lib.hid (.yes HGE.out (fun j hj => hm.out j (by rw [List.length_map, ← HM.out] at hj; omega)))
      go_wp2_with fail
      go_ret3
      exact ⟨⟨_, rfl, HH.out⟩, hbr⟩

end Go.Proofs.YtoiakijmbghhlaaGreat

namespace Go.Proofs.YtoiakijmbghhlaaGreat
open Go.RowKit
set_option linter.unusedVariables false
set_option linter.unusedSimpArgs false

structure CertOk (p : PlD) (rows : List (List Int)) (b : Int) : Prop where
  given : givenE p rows = 0
  all : ∀ k, k < rows.length → holdB p rows k = true
  at0 : Pn.fnd (prs (rows.getD 0 [])) p.St = some b
  ne : b ≠ -1
inductive BoundR (p : PlD) (rows : List (List Int)) : Value → Prop
  | bad (e : Int) : e ≠ 0 → (∀ b, ¬ CertOk p rows b) → BoundR p rows (.tuple #[.int .i64 0, .int .i64 e])
  | ok (b : Int) : CertOk p rows b → BoundR p rows (.tuple #[.int .i64 b, .int .i64 0])

set_option maxRecDepth 100000 in
set_option maxHeartbeats 8000000 in
theorem cbound_any (p : PlD) (rs : List (Sl Int)) (v : Value) (w : World) (hg : gPl w p) (hr : IsRws w v rs) (hrl : rs.length < 2147483648) :
    Calls Tryz.prog 22 #[vPl p, v] w fun e w' => (∃ u, e = .returned u ∧ BoundR p (rs.map (·.xs)) u) ∧ Below w.heap.size w w' := by
  have hr1 := hr.1
  obtain ⟨va, vc, rfl, -, -, hC⟩ := hr1
  have hb0 : Below w.heap.size w (w.alloc (.cells (ePl p).toArray 68)) := (Below.refl _ _).alloc (Nat.le_refl _) _
  have HG := Lib.hid hg
  have HRW := Lib.hid hr
  have HC := Lib.hid hC
  have hgv := ccheck_any p rs _ _ (rdPl.mono hg hb0) (hr.mono hb0) hrl
  clear hg hr hC
  go_enter Tryz.func22, Tryz.ntmps22
  go_wp2_with fail
  refine Calls.to hgv ?_
  rintro e w1 ⟨u, rfl, hu⟩ hb1
  have hbw := hb0.trans (hb1.mono hb0.size)
  obtain ⟨c0, c1, c2, c3, c4, c5, c6⟩ := boxPl w w1 68 p _ rfl _ rfl (hb1.mono (by simp))
  clear hb1 hb0 hgv
  cases hu with
  | bad h0 =>
    obtain ⟨ge, hge⟩ : ∃ ge, ge = givenE p (rs.map (·.xs)) := ⟨_, rfl⟩
    rw [← hge] at h0 ⊢
    have k1 : (ge != 0) = true := by simpa using h0
    have k2 : decide (ge = 0) = false := decide_eq_false h0
    have HH : Hid (BoundR p (rs.map (·.xs)) (.tuple #[.int .i64 0, .int .i64 ge])) := Lib.hid (.bad _ h0 (fun b hb => h0 (by rw [hge]; exact hb.given)))
    clear c0 c1 c2 c3 c4 c5 c6 h0 hge
    go_wp2_with fail
    go_ret2
    exact ⟨⟨_, rfl, HH.out⟩, hbw⟩
  | no k h1 h2 h3 =>
    have HH : Hid (BoundR p (rs.map (·.xs)) (.tuple #[.int .i64 0, .int .i64 13])) := Lib.hid (.bad _ (by decide) (fun b hb => by have := hb.all k h2; rw [h3] at this; cases this))
    clear c0 c1 c2 c3 c4 c5 c6 h1 h2 h3
    go_wp2_with fail
    go_ret2
    exact ⟨⟨_, rfl, HH.out⟩, hbw⟩
  | yes h1 h2 =>
    obtain ⟨g1, g2, g3, g4⟩ := given_ok h1
    have hl0 : 0 < rs.length := by rw [List.length_map] at g3; omega
    have hgd : (rs.map (·.xs)).getD 0 [] = rs[0].xs := by simp [List.getD, List.getElem?_eq_getElem hl0]
    have hmem : rs[0].xs ∈ rs.map (·.xs) := List.mem_map_of_mem (List.getElem_mem hl0)
    have hgr := g4 _ hmem
    have h8 := g2 _ hmem
    have hH := h2 0 (by rw [List.length_map]; exact hl0)
    obtain ⟨b, off, rfl, d0⟩ := (HC.out.mono hbw).slAt 0 hl0
    have hrow := ((HRW.out.mono hbw).2 _ (List.getElem_mem hl0))
    have hff := fun x => cfind_any rs[0].xs (vSl rs[0]) p.St (more w1 x) (hrow.mono (below_more w1 x)) hgr.ev hgr.asc h8
    obtain ⟨y, hy⟩ : ∃ y, Pn.fnd (prs rs[0].xs) p.St = some y := by
      cases hf : Pn.fnd (prs rs[0].xs) p.St with
      | none =>
        unfold holdB at hH
        rw [hgd, hf] at hH
        simp at hH
      | some y => exact ⟨y, rfl⟩
    rw [hy] at hff
    have hco : y ≠ -1 → CertOk p (rs.map (·.xs)) y := fun h => ⟨h1, h2, by rw [hgd]; exact hy, h⟩
    have hcn : y = -1 → ∀ b, ¬ CertOk p (rs.map (·.xs)) b := fun h b hb => by
      have := hb.at0
      rw [hgd, hy] at this
      cases this
      exact hb.ne h
    have HCO := Lib.hid (And.intro hco hcn)
    obtain ⟨s, hs⟩ : ∃ s, s = rs[0] := ⟨_, rfl⟩
    rw [← hs] at d0 hff
    simp only [fndV] at hff
    have i3 : (0 : Int) < rs.length := by omega
    obtain ⟨m, hm⟩ : ∃ m, m = rs.length := ⟨_, rfl⟩
    rw [← hm] at i3 ⊢
    rw [Nat.add_zero] at d0
    have HFF := Lib.hid hff
    clear h1 h2 g1 g2 g3 g4 hgd hmem hgr h8 hH hrow hy hco hcn hs hm hff hl0
    go_upto_region 6 with (fail)
    refine wp_region_more_lit (by kernel_rfl) (by kernel_rfl) ?_
    repeat (go_big_quiet_step ((go_at_call 77; exact Calls.more_of (HFF.out _))))
    refine wpQuiet_nil ?_
    intro _ hwq
    obtain ⟨xq, hwq⟩ := hwq
    subst hwq
    have hbE := Below.more hbw hbw.size xq
    clear c0 c1 c2 c3 c4 c5 c6 d0
    by_cases hy1 : y = -1
    · have HH : Hid (BoundR p (rs.map (·.xs)) (.tuple #[.int .i64 0, .int .i64 12])) := Lib.hid (.bad _ (by decide) (HCO.out.2 hy1))
      subst hy1
      go_wp2_with fail
      go_ret2
      exact ⟨⟨_, rfl, HH.out⟩, hbE⟩
    · have HH : Hid (BoundR p (rs.map (·.xs)) (.tuple #[.int .i64 y, .int .i64 0])) := Lib.hid (.ok y (HCO.out.1 hy1))
      have k1 : (y == -1) = false := by simpa using hy1
      have k2 : decide (y = -1) = false := decide_eq_false hy1
      go_wp2_with fail
      go_ret2
      exact ⟨⟨_, rfl, HH.out⟩, hbE⟩

end Go.Proofs.YtoiakijmbghhlaaGreat

namespace Go.Proofs.YtoiakijmbghhlaaGreat
open Go.RowKit
set_option linter.unusedVariables false
set_option linter.unusedSimpArgs false

set_option maxRecDepth 100000 in
set_option maxHeartbeats 8000000 in
/-- Where bound and cost are right, the gap is their difference. -/
theorem cgap_any (p : PlD) (rs : List (Sl Int)) (v : Value) (xs : List Int) (xv : Value) (b m : Int) (vs : List Int) (w : World) (hg : gPl w p) (hr : IsRws w v rs) (hrl : rs.length < 2147483648) (hx : IsInts w xv xs)
    (hb : CertOk p (rs.map (·.xs)) b) (hbb : -1 ≤ b ∧ b ≤ 1152921504606846976) (hxl : xs.length = p.I.xs.length) (hxm : ∀ r ∈ xs, r ∈ p.L.xs) (hc : Pn.costK (plOf p) p.I.xs (xs.map (ixL p.L.xs)) p.St = some (m, vs)) (hmb : 0 ≤ m ∧ m ≤ 1152921504606846976) :
    Calls Tryz.prog 26 #[vPl p, v, xv] w fun e w' => e = .returned (.tuple #[.int .i64 (m - b), .int .i64 0]) ∧ Below w.heap.size w w' := by
  have hr1 := hr.1
  obtain ⟨va, vc, rfl, -, -, hC⟩ := hr1
  have hx1 := hx
  obtain ⟨xa, xc, rfl, -, -, -⟩ := hx1
  have hb0 : Below w.heap.size w (w.alloc (.cells (ePl p).toArray 68)) := (Below.refl _ _).alloc (Nat.le_refl _) _
  have HG := Lib.hid hg
  have HX := Lib.hid hx
  have HB := Lib.hid (And.intro hb (And.intro hxl (And.intro hxm hc)))
  have hgv := cbound_any p rs _ _ (rdPl.mono hg hb0) (hr.mono hb0) hrl
  have hpl := (given_ok hb.given).1
  have HPL := Lib.hid hpl
  obtain ⟨n, hn⟩ : ∃ n, n = xs.length := ⟨_, rfl⟩
  have HN := Lib.hid hn
  rw [← hn]
  have x1 : IntKind.i64.wrap (m - b) = m - b := IntWalk.i64_in _ (by omega)
  clear hg hr hC hx hb hxl hxm hc hpl hn
  go_enter Tryz.func26, Tryz.ntmps26
  go_wp2_with fail
  rw [HN.out]
  refine Calls.to hgv ?_
  rintro e w1 ⟨u, rfl, hu⟩ hb1
  rw [← HN.out]
  have hbw := hb0.trans (hb1.mono hb0.size)
  obtain ⟨c0, c1, c2, c3, c4, c5, c6⟩ := boxPl w w1 68 p _ rfl _ rfl (hb1.mono (by simp))
  clear hb1 hb0 hgv
  cases hu with
  | bad e he hn => exact absurd HB.out.1 (hn b)
  | ok b' hb' =>
    have hbe : b' = b := by
      have h1 := hb'.at0
      rw [HB.out.1.at0] at h1
      cases h1; rfl
    subst hbe
    have hct := pcost_any p xs _ w1 (rdPl.mono HG.out hbw) (HX.out.mono hbw)
    rw [← HN.out] at hct
    clear hb'
    go_wp2_with fail
    refine Calls.to hct ?_
    rintro e w2 ⟨u, rfl, hu⟩ hb2
    have hbw2 := hbw.trans (hb2.mono hbw.size)
    clear c0 c1 c2 c3 c4 c5 c6 hct hb2
    cases hu with
    | bad h => rw [HPL.out] at h; cases h
    | size h1 h2 => exact absurd HB.out.2.1 h2
    | range h1 h2 => obtain ⟨r, hr, hn⟩ := h2; exact absurd (HB.out.2.2.1 r hr) hn
    | dry h1 h2 h3 h4 => rw [HB.out.2.2.2] at h4; cases h4
    | ok m' u' vs' h1 h2 h3 h4 h5 =>
      rw [HB.out.2.2.2] at h4
      simp only [Option.some.injEq, Prod.mk.injEq] at h4
      obtain ⟨rfl, rfl⟩ := h4
      clear h1 h2 h3 h5
      go_wp2_with fail
      go_ret2
      exact ⟨rfl, hbw2⟩

end Go.Proofs.YtoiakijmbghhlaaGreat

namespace Go.Proofs.YtoiakijmbghhlaaGreat
open Go.RowKit
set_option linter.unusedVariables false
set_option linter.unusedSimpArgs false

theorem stepQ_iff {p : PlD} {nxt : List Int} {v i x : Int} {k : Nat} : stepQ p (fun w c => findB nxt w c x) v i k = true ↔ ∀ w c, Pn.stepP (plOf p) v i k = some (w, c) → ∃ y, Pn.fnd (prs nxt) w = some y ∧ (y = -1 ∨ (x ≠ -1 ∧ x ≤ c + y)) := by
  unfold stepQ
  cases hs : Pn.stepP (plOf p) v i k with
  | none => simp
  | some z =>
    obtain ⟨w, c⟩ := z
    simp only [Option.some.injEq, Prod.mk.injEq, and_imp]
    unfold findB
    cases hf : Pn.fnd (prs nxt) w with
    | none =>
      constructor
      · intro h; cases h
      · intro h
        obtain ⟨y, hy, _⟩ := h w c rfl rfl
        rw [hf] at hy; cases hy
    | some y =>
      simp only [Bool.or_eq_true, beq_iff_eq, Bool.and_eq_true, Bool.not_eq_true', beq_eq_false_iff_ne, decide_eq_true_eq]
      constructor
      · rintro h w' c' rfl rfl
        exact ⟨y, hf, h⟩
      · intro h
        obtain ⟨y', hy, h⟩ := h w c rfl rfl
        rw [hf] at hy; cases hy
        exact h
theorem pairs_iff {p : PlD} {row nxt : List Int} {i m : Nat} : allFrom (pairB p row nxt i m) 0 (row.length / 2) = true ↔ if i + 1 = m then (∀ x ∈ prs row, x.2 = 0) else Pn.rowH (plOf p) (p.I.xs.getD i 0) (prs row) (prs nxt) := by
  rw [allFrom_iff, ← prs_len]
  have hk : ∀ (Q : Int × Int → Prop), (∀ k, (h : k < (prs row).length) → Q (row.getD (2 * k) 0, row.getD (2 * k + 1) 0)) ↔ ∀ x ∈ prs row, Q x := by
    intro Q
    constructor
    · intro h x hx
      obtain ⟨k, hk, rfl⟩ := List.mem_iff_getElem.1 hx
      rw [(prs_at row k hk).1]
      exact h k hk
    · intro h k hk
      rw [← (prs_at row k hk).1]
      exact h _ (List.getElem_mem hk)
  by_cases hi : i + 1 = m
  · rw [if_pos hi, ← hk fun x => x.2 = 0]
    refine forall_congr' fun k => forall_congr' fun hk' => ?_
    unfold pairB
    rw [if_pos hi]
    simp
  · rw [if_neg hi]
    unfold Pn.rowH
    rw [← hk fun x => ∀ k, k < (plOf p).L.length → ∀ w c, Pn.stepP (plOf p) x.1 (p.I.xs.getD i 0) k = some (w, c) → ∃ y, Pn.fnd (prs nxt) w = some y ∧ (y = -1 ∨ (x.2 ≠ -1 ∧ x.2 ≤ c + y))]
    refine forall_congr' fun k => forall_congr' fun hk' => ?_
    unfold pairB
    rw [if_neg hi, allFrom_iff]
    refine forall_congr' fun j => forall_congr' fun hj => ?_
    exact stepQ_iff
theorem holdsC_iff (p : Pn.Pl) : ∀ (I : List Int) (rows : List (List (Int × Int))), rows.length = I.length + 1 → (Pn.holdsC p I rows ↔ ∀ k, k < rows.length → if k + 1 = rows.length then (∀ x ∈ rows.getD k [], x.2 = 0) else Pn.rowH p (I.getD k 0) (rows.getD k []) (rows.getD (k + 1) []))
  | [], [row], _ => by
    constructor
    · intro h k hk
      have : k = 0 := by simpa using hk
      subst this
      rw [if_pos (by simp)]
      exact h
    · intro h
      have := h 0 (by simp)
      rw [if_pos (by simp)] at this
      exact this
  | [], [], h => by simp at h
  | [], _ :: _ :: _, h => by simp at h
  | i :: I, [], h => by simp at h
  | i :: I, [row], h => by simp at h
  | i :: I, row :: nxt :: rest, hl => by
    have ih := holdsC_iff p I (nxt :: rest) (by simpa using hl)
    show (Pn.rowH p i row nxt ∧ Pn.holdsC p I (nxt :: rest)) ↔ _
    rw [ih]
    constructor
    · rintro ⟨h1, h2⟩ k hk
      cases k with
      | zero => rw [if_neg (by simp)]; exact h1
      | succ k =>
        have := h2 k (by simpa using hk)
        by_cases hke : k + 1 = (nxt :: rest).length
        · rw [if_pos hke] at this
          rw [if_pos (by simp at hke ⊢; omega)]
          exact this
        · rw [if_neg hke] at this
          rw [if_neg (by simp at hke ⊢; omega)]
          exact this
    · intro h
      refine ⟨?_, fun k hk => ?_⟩
      · have := h 0 (by simp)
        rw [if_neg (by simp)] at this
        exact this
      · have := h (k + 1) (by simpa using hk)
        by_cases hke : k + 1 = (nxt :: rest).length
        · rw [if_pos (by simp at hke ⊢; omega)] at this
          rw [if_pos hke]
          exact this
        · rw [if_neg (by simp at hke ⊢; omega)] at this
          rw [if_neg hke]
          exact this
theorem getD_map_prs (rows : List (List Int)) (k : Nat) : (rows.map prs).getD k [] = prs (rows.getD k []) := by
  simp only [List.getD, List.getElem?_map]
  cases rows[k]? <;> rfl
theorem hold_iff {p : PlD} {rows : List (List Int)} (hl : rows.length = p.I.xs.length + 1) : (∀ k, k < rows.length → holdB p rows k = true) ↔ Pn.holdsC (plOf p) p.I.xs (rows.map prs) ∧ (Pn.fnd (prs (rows.getD 0 [])) p.St).isSome = true := by
  rw [holdsC_iff _ _ _ (by rw [List.length_map]; exact hl)]
  simp only [List.length_map, getD_map_prs]
  constructor
  · intro h
    refine ⟨fun k hk => ?_, ?_⟩
    · have := h k hk
      unfold holdB at this
      rw [Bool.and_eq_true, pairs_iff] at this
      exact this.2
    · have := h 0 (by omega)
      unfold holdB at this
      rw [Bool.and_eq_true] at this
      have h1 := this.1
      cases hf : Pn.fnd (prs (rows.getD 0 [])) p.St with
      | none => rw [hf] at h1; simp at h1
      | some y => rfl
  · rintro ⟨h1, h2⟩ k hk
    unfold holdB
    rw [Bool.and_eq_true, pairs_iff]
    refine ⟨?_, h1 k hk⟩
    by_cases h0 : k = 0
    · subst h0
      cases hf : Pn.fnd (prs (rows.getD 0 [])) p.St with
      | none => rw [hf] at h2; cases h2
      | some y => rfl
    · simp [h0]

/-- No schedule costs less than a right certificate says. -/
theorem CertOk.le {p : PlD} {rows : List (List Int)} {b : Int} (h : CertOk p rows b) {ks : List Nat} {m : Int} {vs : List Int} (hl : ks.length = p.I.xs.length) (hk : ∀ k ∈ ks, k < p.L.xs.length) (hc : Pn.costK (plOf p) p.I.xs ks p.St = some (m, vs)) : b ≤ m := by
  have hg := (given_ok h.given).2.2.1
  have hh := (hold_iff hg).1 h.all
  refine (Pn.duality p.I.xs (rows.map prs) ks p.St b m vs hh.1 hl.symm hk ⟨prs (rows.getD 0 []), ?_, Pn.fnd_mem h.at0⟩ hc).2
  cases rows with
  | nil => simp at hg
  | cons r rest => rfl
theorem CertOk.bd {p : PlD} {rows : List (List Int)} {b : Int} (h : CertOk p rows b) : -1 ≤ b ∧ b ≤ 1152921504606846976 := by
  have hg := given_ok h.given
  have hl := hg.2.2.1
  refine fnd_bd (hg.2.2.2 (rows.getD 0 []) ?_) h.at0
  cases rows with
  | nil => simp at hl
  | cons r rest => simp

theorem prs_rowC (p : PlD) (i : Nat) : ∀ (row : List Int), prs (rowC p i row) = Pn.valR (plOf p) (p.I.xs.drop i) row
  | [] => rfl
  | v :: r => by
    have ih := prs_rowC p i r
    unfold rowC at ih ⊢
    rw [List.flatMap_cons]
    simp only [List.cons_append, List.nil_append, prs, ih]
    rfl
theorem certR_at (p : Pn.Pl) : ∀ (R : List (List Int)) (I : List Int) (k : Nat), k < R.length → (Pn.certR p I R).getD k [] = Pn.valR p (I.drop k) (R.getD k [])
  | r :: R, I, 0, _ => rfl
  | r :: R, I, k + 1, h => by
    have := certR_at p R I.tail k (by simpa using h)
    show (Pn.certR p I.tail R).getD k [] = _
    rw [this]
    simp [List.drop_one]
theorem certR_len (p : Pn.Pl) : ∀ (R : List (List Int)) (I : List Int), (Pn.certR p I R).length = R.length
  | [], _ => rfl
  | r :: R, I => by show _ + 1 = _ + 1; rw [certR_len p R]
theorem certI_at {p : PlD} {R : List (List Int)} {n k : Nat} (h : k < n) : (certI p R n).getD k [] = rowC p k (R.getD k []) := by
  simp [certI, List.getD, List.getElem?_map, List.getElem?_range h]
theorem certI_prs (p : PlD) (R : List (List Int)) : (certI p R R.length).map prs = Pn.certR (plOf p) p.I.xs R := by
  apply List.ext_getElem
  · rw [List.length_map, certI_len, certR_len]
  · intro k h1 h2
    have hk : k < R.length := by rwa [certR_len] at h2
    have e1 : ((certI p R R.length).map prs).getD k [] = Pn.valR (plOf p) (p.I.xs.drop k) (R.getD k []) := by rw [getD_map_prs, certI_at hk, prs_rowC]
    have e2 := certR_at (plOf p) R p.I.xs k hk
    have e3 : ((certI p R R.length).map prs).getD k [] = ((certI p R R.length).map prs)[k] := by simp [List.getD, List.getElem?_eq_getElem h1]
    have e4 : (Pn.certR (plOf p) p.I.xs R).getD k [] = (Pn.certR (plOf p) p.I.xs R)[k] := by simp [List.getD, List.getElem?_eq_getElem h2]
    rw [← e3, ← e4, e1, e2]
theorem chain_asc {p : PlD} {R : List (List Int)} (h : ChainI p R) : ∀ k, k < R.length → (R.getD k []).Pairwise (· < ·)
  | 0, _ => by rw [h.first]; simp
  | k + 1, hk => (h.next k hk).1
theorem cert_good {p : PlD} (hp : PlOk p) {R : List (List Int)} (h : ChainI p R) {k : Nat} (hk : k < R.length) : RowGood p (rowC p k (R.getD k [])) := by
  have hm := getD_mem hk
  have he := prs_rowC p k (R.getD k [])
  have hb := h.bd _ hm
  have ha := chain_asc h k hk
  refine ⟨?_, ?_, ?_⟩
  · rw [he, rowC_len]; simp [Pn.valR]
  · rw [he]
    intro i j hi hj hij
    simp only [Pn.valR, List.length_map] at hi hj
    simp only [Pn.valR, List.getElem_map]
    exact List.pairwise_iff_getElem.1 ha i j hi hj hij
  · rw [he]
    intro j hj
    simp only [Pn.valR, List.length_map] at hj
    simp only [Pn.valR, List.getElem_map]
    refine ⟨hb _ (List.getElem_mem hj), ?_⟩
    cases hV : Pn.V (plOf p) (p.I.xs.drop k) (R.getD k [])[j] with
    | none => simp
    | some y =>
      have h1 := Pn.V_bd hp.pn (p.I.xs.drop k) _ y (fun x hx => hp.inf x (List.mem_of_mem_drop hx)) (hb _ (List.getElem_mem hj)).2 hV
      have h2 : (p.I.xs.drop k).length ≤ 200 := by rw [List.length_drop]; have := hp.il; omega
      have h3 : ((p.I.xs.drop k).length : Int) * Pn.K ≤ 200 * Pn.K := Int.mul_le_mul_of_nonneg_right (by omega) (by decide)
      have h4 : (200 : Int) * Pn.K ≤ 1152921504606846976 := by decide
      simp only [Option.getD_some]
      omega
/-- The certificate that the program makes is right. -/
theorem make_ok {p : PlD} (hP : planB p = true) {R : List (List Int)} (h : ChainI p R) (hl : R.length = p.I.xs.length + 1) {m : Int} (hV : Pn.V (plOf p) p.I.xs p.St = some m) : CertOk p (certI p R R.length) m := by
  have hp := planB_ok hP
  have hmem : ∀ row ∈ certI p R R.length, ∃ k, k < R.length ∧ row = rowC p k (R.getD k []) := by
    intro row hr
    obtain ⟨k, hk, rfl⟩ := List.mem_map.1 hr
    exact ⟨k, List.mem_range.1 hk, rfl⟩
  have h0 : Pn.fnd (prs ((certI p R R.length).getD 0 [])) p.St = some m := by
    rw [certI_at h.ne, prs_rowC, h.first, Pn.fnd_valR (by simp), List.drop_zero, hV]
    rfl
  have hlc : (certI p R R.length).length = p.I.xs.length + 1 := by rw [certI_len, hl]
  refine ⟨?_, ?_, h0, ?_⟩
  · unfold givenE
    rw [if_neg (by rw [hP]; simp), if_neg, if_neg]
    · have : shapedB p (certI p R R.length) = true := by
        simp only [shapedB, Bool.and_eq_true, decide_eq_true_eq, List.all_eq_true]
        refine ⟨hlc, fun row hr => ?_⟩
        obtain ⟨k, hk, rfl⟩ := hmem row hr
        exact rowB_iff.2 (cert_good hp h hk)
      rw [this]; simp
    · intro ha
      obtain ⟨row, hr, h8⟩ := List.any_eq_true.1 ha
      obtain ⟨k, hk, rfl⟩ := hmem row hr
      have := h.short _ (getD_mem hk)
      unfold longB at h8
      rw [rowC_len, decide_eq_true_eq] at h8
      omega
  · refine (hold_iff hlc).2 ⟨?_, by rw [h0]; rfl⟩
    rw [certI_prs]
    obtain ⟨rest, hR, hrows⟩ := h.rows hl
    rw [hR]
    exact Pn.cert_holds hp.pn p.I.xs [p.St] rest hp.inf (fun v hv => by rw [List.mem_singleton] at hv; subst hv; exact hp.st.2) hrows
  · have := (Pn.V_bd hp.pn p.I.xs p.St m hp.inf hp.st.2 hV).1
    omega

end Go.Proofs.YtoiakijmbghhlaaGreat
