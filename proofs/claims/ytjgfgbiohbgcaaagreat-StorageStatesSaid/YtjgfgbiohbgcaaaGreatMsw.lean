/- storage.shape and Shaft, and the reference's. Conditions: the table reads as data. | A shape that is widened, plainly. No function of the program is named. Conditions: the table is a shape. -/
import Derived.Test.YtjgfgbiohbgcaaaGreatStl
import Derived.Test.YtjgfgbiohbgcaaaGreatMRef
namespace Go.Proofs.YtjgfgbiohbgcaaaGreat
open Go.RowKit
set_option linter.unusedVariables false
set_option linter.unusedSimpArgs false

def shB (xs : List Kn) : Bool := tabB xs && decide ((xs.getD 0 default).X = 0 ∧ (xs.getD 0 default).Y = 0) && btwB (lastK xs).X 1 4194304 && decide ((lastK xs).Y ≤ 1125899906842624)
theorem kn_get0 {xs : List Kn} (h : 0 < xs.length) : xs.getD 0 default = xs[0] := by rw [List.getD_eq_getElem?_getD, List.getElem?_eq_getElem h]; rfl

set_option maxRecDepth 100000 in
set_option maxHeartbeats 2000000 in
theorem sshape_any (xs : List Kn) (v : Value) (w : World) (hv : IsKns w v xs) : Calls Tryz.prog 64 #[v] w fun e w' => e = .returned (.bool (shB xs)) ∧ Below w.heap.size w w' := by
  have hva := tvalid_any xs v w hv
  have hla := fun W (hW : IsKns W v xs) h1 => slast_any xs v W hW h1
  have hfd0 : ∀ (a b : Int) (w : World), (Instr.field 71 (.agg #[.int .i64 a, .int .i64 b]) 0).run Tryz.prog w = .ok (.int .i64 a) w := fun _ _ _ => by kernel_rfl
  have hfd1 : ∀ (a b : Int) (w : World), (Instr.field 71 (.agg #[.int .i64 a, .int .i64 b]) 1).run Tryz.prog w = .ok (.int .i64 b) w := fun _ _ _ => by kernel_rfl
  have HV := Lib.hid hv
  obtain ⟨a, cap, rfl, hcap, hbig, hs⟩ := hv
  obtain ⟨r, hr⟩ : ∃ r, shB xs = r := ⟨_, rfl⟩
  rw [hr]
  cases ht : tabB xs
  · have hR : r = false := by rw [← hr]; unfold shB; rw [ht]; rfl
    subst hR
    rw [ht] at hva
    clear hr ht hla hs
    go_enter Tryz.func64, Tryz.ntmps64
    go_wp2_with fail
    refine Calls.to hva ?_
    rintro e w1 rfl hb1
    go_wp2_with fail
    go_ret
    exact ⟨rfl, hb1⟩
  have hlen := tabB_len ht
  have hla := fun W hW => hla W hW hlen.1
  have hl0 : 0 < xs.length := by omega
  rw [ht] at hva
  unfold shB at hr
  rw [ht, kn_get0 hl0] at hr
  generalize lastK xs = lk at *
  obtain ⟨lx, ly⟩ := lk
  simp only [vKn] at hla
  simp only [Bool.true_and] at hr
  obtain ⟨⟨k0x, k0y⟩, hK⟩ : ∃ K, xs[0] = K := ⟨_, rfl⟩
  rw [hK] at hr
  simp only at hr
  have hwi := fun W => swithin_any lx 1 4194304 W
  by_cases hz : k0x = 0 ∧ k0y = 0
  · obtain ⟨rfl, rfl⟩ := hz
    simp only [and_self, decide_true, Bool.true_and] at hr
    cases hb : btwB lx 1 4194304
    · rw [hb] at hr hwi
      obtain rfl : r = false := by rw [← hr]; rfl
      clear hr
      go_enter Tryz.func64, Tryz.ntmps64
      go_wp2_with fail
      refine Calls.to hva ?_
      rintro e w1 rfl hb1
      obtain ⟨b, off, rfl, d1, d2⟩ := (hs.mono hb1).kn 0 hl0
      rw [hK] at d1 d2
      simp only [Nat.zero_mul, Nat.add_zero] at d1 d2
      clear hs hva
      go_wp2_with fail
      refine Calls.go hb1 (hla _ (HV.out.mono hb1)) ?_
      rintro e w2 rfl _ hb2
      go_wp2_with fail
      refine (hwi _).mono ?_
      rintro _ _ ⟨rfl, rfl⟩
      go_wp2_with fail
      go_ret
      exact ⟨rfl, hb2⟩
    · rw [hb] at hr hwi
      obtain ⟨u, hu⟩ : ∃ u, decide (ly ≤ 1125899906842624) = u := ⟨_, rfl⟩
      rw [hu] at hr
      simp only [Bool.true_and] at hr
      subst hr
      cases u
      all_goals
        go_enter Tryz.func64, Tryz.ntmps64
        go_wp2_with fail
        refine Calls.to hva ?_
        rintro e w1 rfl hb1
        obtain ⟨b, off, rfl, d1, d2⟩ := (hs.mono hb1).kn 0 hl0
        rw [hK] at d1 d2
        simp only [Nat.zero_mul, Nat.add_zero] at d1 d2
        clear hs hva
        go_wp2_with fail
        refine Calls.go hb1 (hla _ (HV.out.mono hb1)) ?_
        rintro e w2 rfl hb2' hb2
        go_wp2_with fail
        refine (hwi _).mono ?_
        rintro _ _ ⟨rfl, rfl⟩
        go_wp2_with fail
        refine Calls.go hb2 (hla _ ((HV.out.mono hb1).mono hb2')) ?_
        rintro e w3 rfl _ hb3
        go_wp2_with fail
        go_ret
        exact ⟨rfl, hb3⟩
  · have hR : r = false := by rw [← hr, decide_eq_false hz]; rfl
    subst hR
    have hzb : ((k0x == 0) && (k0y == 0)) = false := by
      rw [Bool.eq_false_iff]; intro q; simp at q; exact hz q
    clear hr hla
    go_enter Tryz.func64, Tryz.ntmps64
    go_wp2_with fail
    refine Calls.to hva ?_
    rintro e w1 rfl hb1
    obtain ⟨b, off, rfl, d1, d2⟩ := (hs.mono hb1).kn 0 hl0
    rw [hK] at d1 d2
    simp only [Nat.zero_mul, Nat.add_zero] at d1 d2
    clear hs hva
    by_cases z1 : k0x = 0
    · subst z1
      have z2 : ¬ k0y = 0 := fun q => hz ⟨rfl, q⟩
      have z2b : (k0y == 0) = false := beqF z2
      go_wp2_with fail
      go_ret
      exact ⟨rfl, hb1⟩
    · have z1b : (k0x == 0) = false := beqF z1
      go_wp2_with fail
      go_ret
      exact ⟨rfl, hb1⟩

/-- What Shaft answers: the area over a depth. -/
def shaV (area depth : Int) : Int := area * depth / 1000
def shaB (area depth : Int) : Bool := btwB area 1 1099511627776 && btwB depth 1 4194304
theorem shaV_bd {area depth : Int} (h : shaB area depth = true) : 0 ≤ area * depth ∧ area * depth ≤ 4611686018427387904 ∧ 0 ≤ shaV area depth ∧ shaV area depth ≤ 4611686018427388 := by
  simp only [shaB, btwB, Bool.and_eq_true, decide_eq_true_eq] at h
  have m1 : 0 ≤ area * depth := Int.mul_nonneg (by omega) (by omega)
  have m2 : area * depth ≤ 1099511627776 * 4194304 := Int.mul_le_mul (by omega) (by omega) (by omega) (by decide)
  unfold shaV
  generalize area * depth = p at *
  omega
def shaM (area depth : Int) : List Kn × Int := if shaB area depth = false then ([], 2) else if 1125899906842624 < shaV area depth then ([], 5) else ([⟨0, 0⟩, ⟨depth, shaV area depth⟩], 0)

set_option maxRecDepth 100000 in
set_option maxHeartbeats 2000000 in
theorem sshaft_any (area depth : Int) (w : World) : Calls Tryz.prog 35 #[.int .i64 area, .int .i64 depth] w fun e w' =>
    (∃ v', e = .returned (.tuple #[v', .int .i64 (shaM area depth).2]) ∧ Own w.heap.size 71 eKn 2 w' v' (shaM area depth).1) ∧ Below w.heap.size w w' := by
  have hw1 := fun W => swithin_any area 1 1099511627776 W
  have hw2 := fun W => swithin_any depth 1 4194304 W
  obtain ⟨⟨R, E⟩, hres⟩ : ∃ r, shaM area depth = r := ⟨_, rfl⟩
  rw [hres]
  have HRES := Lib.hid hres
  clear hres
  cases h1 : btwB area 1 1099511627776
  · have h3 := HRES.out.symm.trans (show shaM area depth = ([], 2) from by simp [shaM, shaB, h1])
    simp only [Prod.mk.injEq] at h3
    obtain ⟨rfl, rfl⟩ := h3
    rw [h1] at hw1
    go_enter Tryz.func35, Tryz.ntmps35
    go_wp2_with fail
    refine (hw1 _).mono ?_
    rintro _ _ ⟨rfl, rfl⟩
    go_wp2_with fail
    go_ret2
    exact ⟨⟨_, rfl, World.ownsRow_nil _ _ _ _⟩, Below.refl _ _⟩
  rw [h1] at hw1
  cases h2 : btwB depth 1 4194304
  · have h3 := HRES.out.symm.trans (show shaM area depth = ([], 2) from by simp [shaM, shaB, h1, h2])
    simp only [Prod.mk.injEq] at h3
    obtain ⟨rfl, rfl⟩ := h3
    rw [h2] at hw2
    go_enter Tryz.func35, Tryz.ntmps35
    go_wp2_with fail
    refine (hw1 _).mono ?_
    rintro _ _ ⟨rfl, rfl⟩
    go_wp2_with fail
    refine (hw2 _).mono ?_
    rintro _ _ ⟨rfl, rfl⟩
    go_wp2_with fail
    go_ret2
    exact ⟨⟨_, rfl, World.ownsRow_nil _ _ _ _⟩, Below.refl _ _⟩
  rw [h2] at hw2
  have hsb : shaB area depth = true := by simp [shaB, h1, h2]
  obtain ⟨m1, m2, m3, m4⟩ := shaV_bd hsb
  have x1 : IntKind.i64.wrap (area * depth) = area * depth := IntWalk.i64_in _ (by omega)
  have x2 : IntKind.i64.wrap ((area * depth).tdiv 1000) = shaV area depth := by
    rw [Int.tdiv_eq_ediv_of_nonneg m1]; exact IntWalk.i64_in _ (by unfold shaV at m3 m4; omega)
  obtain ⟨V, hV⟩ : ∃ V, shaV area depth = V := ⟨_, rfl⟩
  rw [hV] at x2
  have hM : shaM area depth = if 1125899906842624 < V then ([], 5) else ([⟨0, 0⟩, ⟨depth, V⟩], 0) := by
    unfold shaM; rw [hsb, if_neg (by simp), hV]
  clear m1 m2 m3 m4 h1 h2 hsb hV
  by_cases q : 1125899906842624 < V
  · have h3 := HRES.out.symm.trans (hM.trans (if_pos q))
    simp only [Prod.mk.injEq] at h3
    obtain ⟨rfl, rfl⟩ := h3
    have u := decide_eq_true q
    clear q hM
    go_enter Tryz.func35, Tryz.ntmps35
    go_wp2_with fail
    refine (hw1 _).mono ?_
    rintro _ _ ⟨rfl, rfl⟩
    go_wp2_with fail
    refine (hw2 _).mono ?_
    rintro _ _ ⟨rfl, rfl⟩
    go_wp2_with fail
    go_ret2
    exact ⟨⟨_, rfl, World.ownsRow_nil _ _ _ _⟩, Below.refl _ _⟩
  · have h3 := HRES.out.symm.trans (hM.trans (if_neg q))
    simp only [Prod.mk.injEq] at h3
    obtain ⟨rfl, rfl⟩ := h3
    have u := decide_eq_false q
    clear q hM
    have hown : Own w.heap.size 71 eKn 2 (w.alloc (.cells #[.int .i64 0, .int .i64 0, .int .i64 depth, .int .i64 V] 71)) (.slice (some ⟨w.heap.size, 0, none⟩) 2 2) [⟨0, 0⟩, ⟨depth, V⟩] :=
      ⟨rfl, .inr ⟨w.heap.size, 2, _, rfl, Nat.le_refl _, heap_alloc_new w _, Nat.le_refl _, by decide, rfl, rfl⟩⟩
    go_enter Tryz.func35, Tryz.ntmps35
    go_wp2_with fail
    refine (hw1 _).mono ?_
    rintro _ _ ⟨rfl, rfl⟩
    go_wp2_with fail
    refine (hw2 _).mono ?_
    rintro _ _ ⟨rfl, rfl⟩
    go_wp2_with fail
    go_ret2
    exact ⟨⟨_, rfl, hown⟩, alloc_below _ _⟩

end Go.Proofs.YtjgfgbiohbgcaaaGreat

namespace Go.Proofs.YtjgfgbiohbgcaaaGreat
open Go.RowKit
set_option linter.unusedVariables false
set_option linter.unusedSimpArgs false

def widK (area depth : Int) (k : Kn) : Kn := if depth < k.X then ⟨k.X, k.Y + area * (k.X - depth) / 1000⟩ else k
def insL (xs : List Kn) (depth : Int) : List Kn := if hitX xs depth = true then xs else xs.take (cntX xs depth) ++ ⟨depth, tabV xs depth⟩ :: xs.drop (cntX xs depth)
def widL (xs : List Kn) (depth area : Int) : List Kn := (insL xs depth).map (widK area depth)
def bigB (k : Kn) : Bool := decide (1125899906842624 < k.Y)
def widM (xs : List Kn) (depth area : Int) : List Kn × Int :=
  if shB xs = false then ([], 1) else if (btwB depth 0 (lastK xs).X && btwB area 0 1099511627776) = false then ([], 2)
  else if 100 < (insL xs depth).length then ([], 4) else if (widL xs depth area).any bigB = true then ([], 5) else (widL xs depth area, 0)

theorem shB_parts {xs : List Kn} (h : shB xs = true) : tabB xs = true ∧ ∃ hl : 0 < xs.length, (xs[0]'hl).X = 0 ∧ (xs[0]'hl).Y = 0 ∧ (xs[xs.length - 1]'(by omega)) = lastK xs ∧ 1 ≤ (lastK xs).X ∧ (lastK xs).X ≤ 4194304 ∧ (lastK xs).Y ≤ 1125899906842624 := by
  simp only [shB, Bool.and_eq_true, decide_eq_true_eq, btwB] at h
  obtain ⟨⟨⟨ht, h0⟩, h1⟩, h2⟩ := h
  have hl := tabB_len ht
  have hl0 : 0 < xs.length := by omega
  rw [kn_get0 hl0] at h0
  exact ⟨ht, hl0, h0.1, h0.2, (lastK_eq hl.1).symm, h1.1, h1.2, h2⟩
/-- All knots of a shape lie within its ends. -/
theorem shB_at {xs : List Kn} (h : shB xs = true) (j : Nat) (hj : j < xs.length) : 0 ≤ xs[j].X ∧ xs[j].X ≤ 4194304 ∧ 0 ≤ xs[j].Y ∧ xs[j].Y ≤ 1125899906842624 := by
  obtain ⟨ht, hl, e1, e2, e3, e4, e5, e6⟩ := shB_parts h
  have lo : 0 ≤ xs[j].X ∧ 0 ≤ xs[j].Y := by
    rcases Nat.eq_zero_or_pos j with rfl | q
    · omega
    · have := tabB_lt ht 0 j q hj; omega
  have hi : xs[j].X ≤ (lastK xs).X ∧ xs[j].Y ≤ (lastK xs).Y := by
    rcases Nat.lt_or_eq_of_le (show j ≤ xs.length - 1 by omega) with q | q
    · have := tabB_lt ht j (xs.length - 1) q (by omega); rw [e3] at this; omega
    · subst q; rw [e3]; omega
  omega
theorem shB_val {xs : List Kn} (h : shB xs = true) (x : Int) : 0 ≤ tabV xs x ∧ tabV xs x ≤ 1125899906842624 := by
  obtain ⟨ht, hl, e1, e2, e3, e4, e5, e6⟩ := shB_parts h
  obtain ⟨b1, b2⟩ := tabV_bd ht x
  rw [e3] at b2
  omega
/-- A place within the ends is ahead of the last knot, or at it. -/
theorem shB_cnt {xs : List Kn} (h : shB xs = true) {depth : Int} (hd : depth ≤ (lastK xs).X) : cntX xs depth < xs.length := by
  obtain ⟨ht, hl, e1, e2, e3, e4, e5, e6⟩ := shB_parts h
  have hc := cntX_le xs depth
  rcases Nat.lt_or_eq_of_le hc with q | q
  · exact q
  · have := (cntX_lt ht depth (xs.length - 1) (by omega)).1 (by omega)
    rw [e3] at this; omega
theorem insL_len (xs : List Kn) (depth : Int) : xs.length ≤ (insL xs depth).length ∧ (insL xs depth).length ≤ xs.length + 1 := by
  unfold insL
  have := cntX_le xs depth
  split <;> simp <;> omega
theorem insL_pre {xs : List Kn} (h : shB xs = true) (depth : Int) (j : Nat) (hj : j < (insL xs depth).length) (hji : j < cntX xs depth) : (insL xs depth)[j].X < depth ∧ (insL xs depth)[j].Y ≤ 1125899906842624 := by
  have ht := (shB_parts h).1
  have hc := cntX_le xs depth
  have hj2 : j < xs.length := by omega
  have e : (insL xs depth)[j] = xs[j] := by
    unfold insL
    split
    · rfl
    · rw [List.getElem_append_left (by simp; omega), List.getElem_take]
  rw [e]
  exact ⟨(cntX_lt ht depth j hj2).1 hji, (shB_at h j hj2).2.2.2⟩
theorem insL_post {xs : List Kn} (h : shB xs = true) {depth : Int} (hd : depth ≤ (lastK xs).X) (j : Nat) (hj : j < (insL xs depth).length) (hji : cntX xs depth ≤ j) : depth ≤ (insL xs depth)[j].X ∧ (insL xs depth)[j].X ≤ 4194304 ∧ 0 ≤ (insL xs depth)[j].Y ∧ (insL xs depth)[j].Y ≤ 1125899906842624 := by
  obtain ⟨ht, hl, e1, e2, e3, e4, e5, e6⟩ := shB_parts h
  have hc := cntX_le xs depth
  have hlen := insL_len xs depth
  have hp : ∀ q (hq : q < xs.length), cntX xs depth ≤ q → depth ≤ xs[q].X ∧ xs[q].X ≤ 4194304 ∧ 0 ≤ xs[q].Y ∧ xs[q].Y ≤ 1125899906842624 := by
    intro q hq hcq
    have h1 := cntX_lt ht depth q hq
    have h2 := shB_at h q hq
    have : ¬ xs[q].X < depth := fun g => by have := h1.2 g; omega
    omega
  by_cases hh : hitX xs depth = true
  · have e : insL xs depth = xs := by unfold insL; rw [if_pos hh]
    have hj2 : j < xs.length := by rw [e] at hj; exact hj
    have e' : (insL xs depth)[j] = xs[j] := by simp only [e]
    rw [e']; exact hp j hj2 hji
  · have e : insL xs depth = xs.take (cntX xs depth) ++ ⟨depth, tabV xs depth⟩ :: xs.drop (cntX xs depth) := by unfold insL; rw [if_neg hh]
    have hlt : (xs.take (cntX xs depth)).length = cntX xs depth := by simp; omega
    have e' : (insL xs depth)[j] = (xs.take (cntX xs depth) ++ ⟨depth, tabV xs depth⟩ :: xs.drop (cntX xs depth))[j]'(by rw [e] at hj; exact hj) := by simp only [e]
    rw [e', List.getElem_append_right (by omega)]
    rcases Nat.lt_or_eq_of_le hji with g | g
    · obtain ⟨q, hq⟩ : ∃ q, j = cntX xs depth + (q + 1) := ⟨j - cntX xs depth - 1, by omega⟩
      have hq2 : cntX xs depth + q < xs.length := by rw [e] at hj; simp at hj; omega
      have e2 : ((⟨depth, tabV xs depth⟩ : Kn) :: xs.drop (cntX xs depth))[j - (xs.take (cntX xs depth)).length]'(by simp; omega) = xs[cntX xs depth + q] := by
        simp only [hlt, hq, Nat.add_sub_cancel_left, List.getElem_cons_succ, List.getElem_drop]
      rw [e2]; exact hp _ hq2 (by omega)
    · have e2 : ((⟨depth, tabV xs depth⟩ : Kn) :: xs.drop (cntX xs depth))[j - (xs.take (cntX xs depth)).length]'(by simp; omega) = ⟨depth, tabV xs depth⟩ := by
        simp only [hlt, ← g, Nat.sub_self, List.getElem_cons_zero]
      rw [e2]
      have := shB_val h depth
      simp only; omega
/-- The row behind the knots ahead of k were turned. -/
def widR (L : List Kn) (area depth : Int) (k : Nat) : List Kn := (L.take k).map (widK area depth) ++ L.drop k
theorem widR_len (L : List Kn) (area depth : Int) (k : Nat) (hk : k ≤ L.length) : (widR L area depth k).length = L.length := by simp [widR]; omega
theorem widR_at (L : List Kn) (area depth : Int) (k : Nat) (hk : k < L.length) : (widR L area depth k)[k]'(by rw [widR_len _ _ _ _ (by omega)]; exact hk) = L[k] := by
  unfold widR
  rw [List.getElem_append_right (by simp; omega)]
  simp only [List.length_map, List.length_take, Nat.min_eq_left (Nat.le_of_lt hk), Nat.sub_self, List.getElem_drop, Nat.add_zero]
theorem widR_step (L : List Kn) (area depth : Int) (k : Nat) (hk : k < L.length) : (widR L area depth k).set k (widK area depth L[k]) = widR L area depth (k + 1) := by
  unfold widR
  rw [List.set_append_right _ _ (by simp; omega)]
  have e : k - (List.map (widK area depth) (L.take k)).length = 0 := by simp; omega
  rw [e, List.drop_eq_getElem_cons hk, List.set_cons_zero, List.take_succ_eq_append_getElem hk, List.map_append]
  simp
theorem widR_end (L : List Kn) (area depth : Int) : widR L area depth L.length = L.map (widK area depth) := by
  unfold widR; rw [List.take_of_length_le (Nat.le_refl _), List.drop_eq_nil_of_le (Nat.le_refl _), List.append_nil]
theorem widR_start {L : List Kn} {area depth : Int} {i : Nat} (h : ∀ j (hj : j < L.length), j < i → L[j].X < depth) : widR L area depth i = L := by
  unfold widR
  have e : (L.take i).map (widK area depth) = L.take i := by
    apply List.ext_getElem
    · simp
    · intro j h1 h2
      rw [List.getElem_map, List.getElem_take]
      have hj : j < L.length := by simp at h2; omega
      have hji : j < i := by simp at h2; omega
      have := h j hj hji
      unfold widK
      rw [if_neg (by omega)]
  rw [e, List.take_append_drop]

end Go.Proofs.YtjgfgbiohbgcaaaGreat
