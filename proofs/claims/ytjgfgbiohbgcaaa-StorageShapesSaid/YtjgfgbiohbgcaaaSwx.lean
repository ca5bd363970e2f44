/- The reference's Shaft and Shape. Conditions: the table reads as data. -/
import Derived.Test.YtjgfgbiohbgcaaaSws
import Derived.Test.YtjgfgbiohbgcaaaMRef
namespace Go.Proofs.Ytjgfgbiohbgcaaa
open Go.RowKit
set_option linter.unusedVariables false
set_option linter.unusedSimpArgs false

set_option maxRecDepth 100000 in
set_option maxHeartbeats 2000000 in
theorem r29shaft_any (area depth : Int) (w : World) : Calls Try.prog 9 #[.int .i64 area, .int .i64 depth] w fun e w' =>
    (∃ v', e = .returned (.tuple #[v', .int .i64 (shaM area depth).2]) ∧ Own w.heap.size 33 eKn 2 w' v' (shaM area depth).1) ∧ Below w.heap.size w w' := by
  obtain ⟨⟨R, E⟩, hres⟩ : ∃ r, shaM area depth = r := ⟨_, rfl⟩
  rw [hres]
  have HRES := Lib.hid hres
  clear hres
  cases c1 : decide (area < 1)
  rotate_left
  · have h3 := HRES.out.symm.trans (show shaM area depth = ([], 2) from by unfold shaM; rw [if_pos]; simp only [decide_eq_true_eq] at c1; simp [shaB, btwB]; omega)
    simp only [Prod.mk.injEq] at h3
    obtain ⟨rfl, rfl⟩ := h3
    go_enter Try.func9, Try.ntmps9
    go_wp2_with fail
    go_ret2
    exact ⟨⟨_, rfl, World.ownsRow_nil _ _ _ _⟩, Below.refl _ _⟩
  cases c2 : decide ((1099511627776 : Int) < area)
  rotate_left
  · have h3 := HRES.out.symm.trans (show shaM area depth = ([], 2) from by unfold shaM; rw [if_pos]; simp only [decide_eq_true_eq] at c2; simp [shaB, btwB]; omega)
    simp only [Prod.mk.injEq] at h3
    obtain ⟨rfl, rfl⟩ := h3
    go_enter Try.func9, Try.ntmps9
    go_wp2_with fail
    go_ret2
    exact ⟨⟨_, rfl, World.ownsRow_nil _ _ _ _⟩, Below.refl _ _⟩
  cases c3 : decide (depth < 1)
  rotate_left
  · have h3 := HRES.out.symm.trans (show shaM area depth = ([], 2) from by unfold shaM; rw [if_pos]; simp only [decide_eq_true_eq] at c3; simp [shaB, btwB]; omega)
    simp only [Prod.mk.injEq] at h3
    obtain ⟨rfl, rfl⟩ := h3
    go_enter Try.func9, Try.ntmps9
    go_wp2_with fail
    go_ret2
    exact ⟨⟨_, rfl, World.ownsRow_nil _ _ _ _⟩, Below.refl _ _⟩
  cases c4 : decide ((4194304 : Int) < depth)
  rotate_left
  · have h3 := HRES.out.symm.trans (show shaM area depth = ([], 2) from by unfold shaM; rw [if_pos]; simp only [decide_eq_true_eq] at c4; simp [shaB, btwB]; omega)
    simp only [Prod.mk.injEq] at h3
    obtain ⟨rfl, rfl⟩ := h3
    go_enter Try.func9, Try.ntmps9
    go_wp2_with fail
    go_ret2
    exact ⟨⟨_, rfl, World.ownsRow_nil _ _ _ _⟩, Below.refl _ _⟩
  have hsb : shaB area depth = true := by
    simp only [decide_eq_false_iff_not] at c1 c2 c3 c4
    simp [shaB, btwB]; omega
  obtain ⟨m1, m2, m3, m4⟩ := shaV_bd hsb
  have x1 : IntKind.i64.wrap (area * depth) = area * depth := IntWalk.i64_in _ (by omega)
  have x2 : IntKind.i64.wrap ((area * depth).tdiv 1000) = shaV area depth := by
    rw [Int.tdiv_eq_ediv_of_nonneg m1]; exact IntWalk.i64_in _ (by unfold shaV at m3 m4; omega)
  obtain ⟨V, hV⟩ : ∃ V, shaV area depth = V := ⟨_, rfl⟩
  rw [hV] at x2
  have hM : shaM area depth = if 1125899906842624 < V then ([], 5) else ([⟨0, 0⟩, ⟨depth, V⟩], 0) := by
    unfold shaM; rw [hsb, if_neg (by simp), hV]
  clear m1 m2 m3 m4 hsb hV
  by_cases q : 1125899906842624 < V
  · have h3 := HRES.out.symm.trans (hM.trans (if_pos q))
    simp only [Prod.mk.injEq] at h3
    obtain ⟨rfl, rfl⟩ := h3
    have u := decide_eq_true q
    clear q hM
    go_enter Try.func9, Try.ntmps9
    go_wp2_with fail
    go_ret2
    exact ⟨⟨_, rfl, World.ownsRow_nil _ _ _ _⟩, Below.refl _ _⟩
  · have h3 := HRES.out.symm.trans (hM.trans (if_neg q))
    simp only [Prod.mk.injEq] at h3
    obtain ⟨rfl, rfl⟩ := h3
    have u := decide_eq_false q
    clear q hM
    have hown : Own w.heap.size 33 eKn 2 (w.alloc (.cells #[.int .i64 0, .int .i64 0, .int .i64 depth, .int .i64 V] 33)) (.slice (some ⟨w.heap.size, 0, none⟩) 2 2) [⟨0, 0⟩, ⟨depth, V⟩] :=
      ⟨rfl, .inr ⟨w.heap.size, 2, _, rfl, Nat.le_refl _, heap_alloc_new w _, Nat.le_refl _, by decide, rfl, rfl⟩⟩
    go_enter Try.func9, Try.ntmps9
    go_wp2_with fail
    go_ret2
    exact ⟨⟨_, rfl, hown⟩, alloc_below _ _⟩

set_option maxRecDepth 100000 in
set_option maxHeartbeats 2000000 in
theorem r29shape_any (xs : List Kn) (v : Value) (w : World) (hv : IsKns w v xs) : Calls Try.prog 12 #[v] w fun e w' => e = .returned (.bool (shB xs)) ∧ Below w.heap.size w w' := by
  have hva := r6valid_any xs v w hv
  obtain ⟨a, cap, rfl, hcap, hbig, hs⟩ := hv
  obtain ⟨r, hr⟩ : ∃ r, shB xs = r := ⟨_, rfl⟩
  rw [hr]
  cases ht : tabB xs
  · have hR : r = false := by rw [← hr]; unfold shB; rw [ht]; rfl
    subst hR
    rw [ht] at hva
    clear hr ht hs
    go_enter Try.func12, Try.ntmps12
    go_wp2_with fail
    refine Calls.to hva ?_
    rintro e w1 rfl hb1
    go_wp2_with fail
    go_ret
    exact ⟨rfl, hb1⟩
  have hlen := tabB_len ht
  have hl0 : 0 < xs.length := by omega
  have hl1 : xs.length - 1 < xs.length := by omega
  rw [ht] at hva
  unfold shB at hr
  rw [ht, kn_get0 hl0, lastK_eq hlen.1] at hr
  simp only [Bool.true_and] at hr
  obtain ⟨⟨k0x, k0y⟩, hK⟩ : ∃ K, xs[0] = K := ⟨_, rfl⟩
  obtain ⟨⟨lx, ly⟩, hL⟩ : ∃ K, xs[xs.length - 1] = K := ⟨_, rfl⟩
  rw [hK, hL] at hr
  simp only at hr
  have x1 : IntKind.i64.wrap ((xs.length : Int) - 1) = ((xs.length - 1 : Nat) : Int) := by rw [IntKind.wrap_i64]; omega
  generalize hN : xs.length - 1 = N at *
  have i2 : (N : Int) < xs.length := by omega
  have i1 : (0 : Int) < xs.length := by omega
  obtain ⟨b1, h1⟩ : ∃ b, decide (1 ≤ lx) = b := ⟨_, rfl⟩
  obtain ⟨b2, h2⟩ : ∃ b, decide (lx ≤ 4194304) = b := ⟨_, rfl⟩
  obtain ⟨b3, h3⟩ : ∃ b, decide (ly ≤ 1125899906842624) = b := ⟨_, rfl⟩
  simp only [btwB, h1, h2, h3] at hr
  clear hlen hN ht
  by_cases hz1 : k0x = 0
  · by_cases hz2 : k0y = 0
    · subst hz1
      subst hz2
      simp only [and_self, decide_true, Bool.true_and] at hr
      cases b1 <;> cases b2 <;> cases b3
      all_goals
        subst hr
        go_enter Try.func12, Try.ntmps12
        go_wp2_with fail
        refine Calls.to hva ?_
        rintro e w1 rfl hb1
        obtain ⟨b, off, rfl, d1, d2⟩ := (hs.mono hb1).kn 0 hl0
        obtain ⟨b', off', hbo, d3, d4⟩ := (hs.mono hb1).kn N hl1
        simp only [Option.some.injEq, Addr.mk.injEq] at hbo
        obtain ⟨rfl, rfl, _⟩ := hbo
        rw [hK] at d1 d2
        rw [hL] at d3 d4
        simp only [Nat.zero_mul, Nat.add_zero] at d1 d2 d3 d4
        clear hs hva
        go_wp2_with fail
        go_ret
        exact ⟨rfl, hb1.alloc hb1.size _⟩
    · have hR : r = false := by rw [← hr, decide_eq_false (fun q => hz2 q.2)]; rfl
      subst hR
      subst hz1
      have z2b : (k0y == 0) = false := beqF hz2
      clear hr
      go_enter Try.func12, Try.ntmps12
      go_wp2_with fail
      refine Calls.to hva ?_
      rintro e w1 rfl hb1
      obtain ⟨b, off, rfl, d1, d2⟩ := (hs.mono hb1).kn 0 hl0
      obtain ⟨b', off', hbo, d3, d4⟩ := (hs.mono hb1).kn N hl1
      simp only [Option.some.injEq, Addr.mk.injEq] at hbo
      obtain ⟨rfl, rfl, _⟩ := hbo
      rw [hK] at d1 d2
      rw [hL] at d3 d4
      simp only [Nat.zero_mul, Nat.add_zero] at d1 d2 d3 d4
      clear hs hva
      go_wp2_with fail
      go_ret
      exact ⟨rfl, hb1.alloc hb1.size _⟩
  · have hR : r = false := by rw [← hr, decide_eq_false (fun q => hz1 q.1)]; rfl
    subst hR
    have z1b : (k0x == 0) = false := beqF hz1
    clear hr
    go_enter Try.func12, Try.ntmps12
    go_wp2_with fail
    refine Calls.to hva ?_
    rintro e w1 rfl hb1
    obtain ⟨b, off, rfl, d1, d2⟩ := (hs.mono hb1).kn 0 hl0
    obtain ⟨b', off', hbo, d3, d4⟩ := (hs.mono hb1).kn N hl1
    simp only [Option.some.injEq, Addr.mk.injEq] at hbo
    obtain ⟨rfl, rfl, _⟩ := hbo
    rw [hK] at d1 d2
    rw [hL] at d3 d4
    simp only [Nat.zero_mul, Nat.add_zero] at d1 d2 d3 d4
    clear hs hva
    go_wp2_with fail
    go_ret
    exact ⟨rfl, hb1.alloc hb1.size _⟩

end Go.Proofs.Ytjgfgbiohbgcaaa
