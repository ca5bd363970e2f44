/- storage.shape and Shaft, and the reference's. Conditions: the table reads as data. -/
import Derived.Test.YtjgfgbiohbgcaaaGreatStl
import Derived.Test.YtjgfgbiohbgcaaaGreatMRef
namespace Go.Proofs.YtjgfgbiohbgcaaaGreat
open Go.RowKit
set_option linter.unusedVariables false
set_option linter.unusedSimpArgs false

def shB (xs : List Kn) : Bool := tabB xs && decide ((xs.getD 0 default).X = 0 ∧ (xs.getD 0 default).Y = 0) && btwB (lastK xs).X 1 4194304 && decide ((lastK xs).Y ≤ 1125899906842624)
theorem kn_get0 {xs : List Kn} (h : 0 < xs.length) : xs.getD 0 default = xs[0] := by rw [List.getD_eq_getElem?_getD, List.getElem?_eq_getElem h]; rfl

set_option maxRecDepth 100000 in
set_option maxHeartbeats 2000000 in
theorem sshape_any (xs : List Kn) (v : Value) (w : World) (hv : IsKns w v xs) : Calls Tryz.prog 64 #[v] w fun e w' => e = .returned (.bool (shB xs)) ∧ Below w.heap.size w w' := by
  have hva := tvalid_any xs v w hv
  have hla := fun W (hW : IsKns W v xs) h1 => slast_any xs v W hW h1
  have hfd0 : ∀ (a b : Int) (w : World), (Instr.field 71 (.agg #[.int .i64 a, .int .i64 b]) 0).run Tryz.prog w = .ok (.int .i64 a) w := fun _ _ _ => by kernel_rfl
  have hfd1 : ∀ (a b : Int) (w : World), (Instr.field 71 (.agg #[.int .i64 a, .int .i64 b]) 1).run Tryz.prog w = .ok (.int .i64 b) w := fun _ _ _ => by kernel_rfl
  have HV := Lib.hid hv
  obtain ⟨a, cap, rfl, hcap, hbig, hs⟩ := hv
  obtain ⟨r, hr⟩ : ∃ r, shB xs = r := ⟨_, rfl⟩
  rw [hr]
  cases ht : tabB xs
  · have hR : r = false := by rw [← hr]; unfold shB; rw [ht]; rfl
    subst hR
    rw [ht] at hva
    clear hr ht hla hs
    go_enter Tryz.func64, Tryz.ntmps64
    go_wp2_with fail
    refine Calls.to hva ?_
    rintro e w1 rfl hb1
    go_wp2_with fail
    go_ret
    exact ⟨rfl, hb1⟩
  have hlen := tabB_len ht
  have hla := fun W hW => hla W hW hlen.1
  have hl0 : 0 < xs.length := by omega
  rw [ht] at hva
  unfold shB at hr
  rw [ht, kn_get0 hl0] at hr
  generalize lastK xs = lk at *
  obtain ⟨lx, ly⟩ := lk
  simp only [vKn] at hla
  simp only [Bool.true_and] at hr
  obtain ⟨⟨k0x, k0y⟩, hK⟩ : ∃ K, xs[0] = K := ⟨_, rfl⟩
  rw [hK] at hr
  simp only at hr
  have hwi := fun W => swithin_any lx 1 4194304 W
  by_cases hz : k0x = 0 ∧ k0y = 0
  · obtain ⟨rfl, rfl⟩ := hz
    simp only [and_self, decide_true, Bool.true_and] at hr
    cases hb : btwB lx 1 4194304
    · rw [hb] at hr hwi
      obtain rfl : r = false := by rw [← hr]; rfl
      clear hr
      go_enter Tryz.func64, Tryz.ntmps64
      go_wp2_with fail
      refine Calls.to hva ?_
      rintro e w1 rfl hb1
      obtain ⟨b, off, rfl, d1, d2⟩ := (hs.mono hb1).kn 0 hl0
      rw [hK] at d1 d2
      simp only [Nat.zero_mul, Nat.add_zero] at d1 d2
      clear hs hva
      go_wp2_with fail
      refine Calls.go hb1 (hla _ (HV.out.mono hb1)) ?_
      rintro e w2 rfl _ hb2
      go_wp2_with fail
      refine (hwi _).mono ?_
      rintro _ _ ⟨rfl, rfl⟩
      go_wp2_with fail
      go_ret
      exact ⟨rfl, hb2⟩
    · rw [hb] at hr hwi
      obtain ⟨u, hu⟩ : ∃ u, decide (ly ≤ 1125899906842624) = u := ⟨_, rfl⟩
      rw [hu] at hr
      simp only [Bool.true_and] at hr
      subst hr
      cases u
      all_goals
        go_enter Tryz.func64, Tryz.ntmps64
        go_wp2_with fail
        refine Calls.to hva ?_
        rintro e w1 rfl hb1
        obtain ⟨b, off, rfl, d1, d2⟩ := (hs.mono hb1).kn 0 hl0
        rw [hK] at d1 d2
        simp only [Nat.zero_mul, Nat.add_zero] at d1 d2
        clear hs hva
        go_wp2_with fail
        refine Calls.go hb1 (hla _ (HV.out.mono hb1)) ?_
        rintro e w2 rfl hb2' hb2
        go_wp2_with fail
        refine (hwi _).mono ?_
        rintro _ _ ⟨rfl, rfl⟩
        go_wp2_with fail
        refine Calls.go hb2 (hla _ ((HV.out.mono hb1).mono hb2')) ?_
        rintro e w3 rfl _ hb3
        go_wp2_with fail
        go_ret
        exact ⟨rfl, hb3⟩
  · have hR : r = false := by rw [← hr, decide_eq_false hz]; rfl
    subst hR
    have hzb : ((k0x == 0) && (k0y == 0)) = false := by
      rw [Bool.eq_false_iff]; intro q; simp at q; exact hz q
    clear hr hla
    go_enter Tryz.func64, Tryz.ntmps64
    go_wp2_with fail
    refine Calls.to hva ?_
    rintro e w1 rfl hb1
    obtain ⟨b, off, rfl, d1, d2⟩ := (hs.mono hb1).kn 0 hl0
    rw [hK] at d1 d2
    simp only [Nat.zero_mul, Nat.add_zero] at d1 d2
    clear hs hva
    by_cases z1 : k0x = 0
    · subst z1
      have z2 : ¬ k0y = 0 := fun q => hz ⟨rfl, q⟩
      have z2b : (k0y == 0) = false := beqF z2
      go_wp2_with fail
      go_ret
      exact ⟨rfl, hb1⟩
    · have z1b : (k0x == 0) = false := beqF z1
      go_wp2_with fail
      go_ret
      exact ⟨rfl, hb1⟩

/-- What Shaft answers: the area over a depth. -/
def shaV (area depth : Int) : Int := area * depth / 1000
def shaB (area depth : Int) : Bool := btwB area 1 1099511627776 && btwB depth 1 4194304
theorem shaV_bd {area depth : Int} (h : shaB area depth = true) : 0 ≤ area * depth ∧ area * depth ≤ 4611686018427387904 ∧ 0 ≤ shaV area depth ∧ shaV area depth ≤ 4611686018427388 := by
  simp only [shaB, btwB, Bool.and_eq_true, decide_eq_true_eq] at h
  have m1 : 0 ≤ area * depth := Int.mul_nonneg (by omega) (by omega)
  have m2 : area * depth ≤ 1099511627776 * 4194304 := Int.mul_le_mul (by omega) (by omega) (by omega) (by decide)
  unfold shaV
  generalize area * depth = p at *
  omega
def shaM (area depth : Int) : List Kn × Int := if shaB area depth = false then ([], 2) else if 1125899906842624 < shaV area depth then ([], 5) else ([⟨0, 0⟩, ⟨depth, shaV area depth⟩], 0)

set_option maxRecDepth 100000 in
set_option maxHeartbeats 2000000 in
theorem sshaft_any (area depth : Int) (w : World) : Calls Tryz.prog 35 #[.int .i64 area, .int .i64 depth] w fun e w' =>
    (∃ v', e = .returned (.tuple #[v', .int .i64 (shaM area depth).2]) ∧ Own w.heap.size 71 eKn 2 w' v' (shaM area depth).1) ∧ Below w.heap.size w w' := by
  have hw1 := fun W => swithin_any area 1 1099511627776 W
  have hw2 := fun W => swithin_any depth 1 4194304 W
  obtain ⟨⟨R, E⟩, hres⟩ : ∃ r, shaM area depth = r := ⟨_, rfl⟩
  rw [hres]
  have HRES := Lib.hid hres
  clear hres
  cases h1 : btwB area 1 1099511627776
  · have h3 := HRES.out.symm.trans (show shaM area depth = ([], 2) from by simp [shaM, shaB, h1])
    simp only [Prod.mk.injEq] at h3
    obtain ⟨rfl, rfl⟩ := h3
    rw [h1] at hw1
    go_enter Tryz.func35, Tryz.ntmps35
    go_wp2_with fail
    refine (hw1 _).mono ?_
    rintro _ _ ⟨rfl, rfl⟩
    go_wp2_with fail
    go_ret2
    exact ⟨⟨_, rfl, World.ownsRow_nil _ _ _ _⟩, Below.refl _ _⟩
  rw [h1] at hw1
  cases h2 : btwB depth 1 4194304
  · have h3 := HRES.out.symm.trans (show shaM area depth = ([], 2) from by simp [shaM, shaB, h1, h2])
    simp only [Prod.mk.injEq] at h3
    obtain ⟨rfl, rfl⟩ := h3
    rw [h2] at hw2
    go_enter Tryz.func35, Tryz.ntmps35
    go_wp2_with fail
    refine (hw1 _).mono ?_
    rintro _ _ ⟨rfl, rfl⟩
    go_wp2_with fail
    refine (hw2 _).mono ?_
    rintro _ _ ⟨rfl, rfl⟩
    go_wp2_with fail
    go_ret2
    exact ⟨⟨_, rfl, World.ownsRow_nil _ _ _ _⟩, Below.refl _ _⟩
  rw [h2] at hw2
  have hsb : shaB area depth = true := by simp [shaB, h1, h2]
  obtain ⟨m1, m2, m3, m4⟩ := shaV_bd hsb
  have x1 : IntKind.i64.wrap (area * depth) = area * depth := IntWalk.i64_in _ (by omega)
  have x2 : IntKind.i64.wrap ((area * depth).tdiv 1000) = shaV area depth := by
    rw [Int.tdiv_eq_ediv_of_nonneg m1]; exact IntWalk.i64_in _ (by unfold shaV at m3 m4; omega)
  obtain ⟨V, hV⟩ : ∃ V, shaV area depth = V := ⟨_, rfl⟩
  rw [hV] at x2
  have hM : shaM area depth = if 1125899906842624 < V then ([], 5) else ([⟨0, 0⟩, ⟨depth, V⟩], 0) := by
    unfold shaM; rw [hsb, if_neg (by simp), hV]
  clear m1 m2 m3 m4 h1 h2 hsb hV
  by_cases q : 1125899906842624 < V
  · have h3 := HRES.out.symm.trans (hM.trans (if_pos q))
    simp only [Prod.mk.injEq] at h3
    obtain ⟨rfl, rfl⟩ := h3
    have u := decide_eq_true q
    clear q hM
    go_enter Tryz.func35, Tryz.ntmps35
    go_wp2_with fail
    refine (hw1 _).mono ?_
    rintro _ _ ⟨rfl, rfl⟩
    go_wp2_with fail
    refine (hw2 _).mono ?_
    rintro _ _ ⟨rfl, rfl⟩
    go_wp2_with fail
    go_ret2
    exact ⟨⟨_, rfl, World.ownsRow_nil _ _ _ _⟩, Below.refl _ _⟩
  · have h3 := HRES.out.symm.trans (hM.trans (if_neg q))
    simp only [Prod.mk.injEq] at h3
    obtain ⟨rfl, rfl⟩ := h3
    have u := decide_eq_false q
    clear q hM
    have hown : Own w.heap.size 71 eKn 2 (w.alloc (.cells #[.int .i64 0, .int .i64 0, .int .i64 depth, .int .i64 V] 71)) (.slice (some ⟨w.heap.size, 0, none⟩) 2 2) [⟨0, 0⟩, ⟨depth, V⟩] :=
      ⟨rfl, .inr ⟨w.heap.size, 2, _, rfl, Nat.le_refl _, heap_alloc_new w _, Nat.le_refl _, by decide, rfl, rfl⟩⟩
    go_enter Tryz.func35, Tryz.ntmps35
    go_wp2_with fail
    refine (hw1 _).mono ?_
    rintro _ _ ⟨rfl, rfl⟩
    go_wp2_with fail
    refine (hw2 _).mono ?_
    rintro _ _ ⟨rfl, rfl⟩
    go_wp2_with fail
    go_ret2
    exact ⟨⟨_, rfl, hown⟩, alloc_below _ _⟩

end Go.Proofs.YtjgfgbiohbgcaaaGreat
