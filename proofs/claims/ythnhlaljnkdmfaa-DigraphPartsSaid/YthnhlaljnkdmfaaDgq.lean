/- Orders and depths: digraph.Order, digraph.Depths. Conditions: the edges read as data. -/
import Derived.Test.YthnhlaljnkdmfaaDgr
import Derived.Test.YthnhlaljnkdmfaaDgv
import Derived.Test.YthnhlaljnkdmfaaGqd
namespace Go.Proofs.Ythnhlaljnkdmfaa
open Go.RowKit
set_option linter.unusedVariables false
set_option linter.unusedSimpArgs false

theorem validB_ok {n : Nat} {E : List (Nat × Nat)} (hv : Gp.vtx n E) (hn : n ≤ 300) (hl : E.length ≤ 1000) : validB (n : Int) (edI E) = true := by
  unfold validB
  simp only [Bool.and_eq_true, decide_eq_true_eq, List.all_eq_true, edI_len]
  refine ⟨by omega, by omega, hl, fun e he => ?_⟩
  obtain ⟨x, hx, rfl⟩ := List.mem_map.1 he
  have := hv x hx
  simp [okE, isB]; omega
theorem validB_nat {n : Int} {E : List (Int × Int)} (h : validB n E = true) : ∃ (N : Nat) (G : List (Nat × Nat)), n = (N : Int) ∧ E = edI G ∧ Gp.vtx N G ∧ N ≤ 300 ∧ G.length ≤ 1000 := by
  unfold validB at h
  simp only [Bool.and_eq_true, decide_eq_true_eq, List.all_eq_true] at h
  obtain ⟨h1, h2, h3, h4⟩ := h
  refine ⟨n.toNat, E.map fun e => (e.1.toNat, e.2.toNat), by omega, ?_, ?_, by omega, by simpa using h3⟩
  · unfold edI
    rw [List.map_map]
    refine ((List.map_congr_left (fun e he => ?_)).trans (List.map_id _)).symm
    have := h4 e he
    simp only [okE, isB, Bool.and_eq_true, decide_eq_true_eq] at this
    simp only [Function.comp_apply, id_eq]
    obtain ⟨x, y⟩ := e
    simp only at this ⊢
    rw [Int.toNat_of_nonneg (by omega), Int.toNat_of_nonneg (by omega)]
  · intro e he
    obtain ⟨x, hx, rfl⟩ := List.mem_map.1 he
    have := h4 x hx
    simp only [okE, isB, Bool.and_eq_true, decide_eq_true_eq] at this
    simp only
    omega

set_option maxRecDepth 100000 in
set_option maxHeartbeats 2000000 in
theorem order_bad (n : Int) (E : List (Int × Int)) (v : Value) (w : World) (hE : IsEis w v E) (hbad : validB n E = false) :
    Calls Try.prog 13 #[.int .i64 n, v] w fun e w' => e = .returned (.tuple #[.slice none 0 0, .int .i64 1]) ∧ Below w.heap.size w w' := by
  have hc := valid_any n E v w hE
  rw [hbad] at hc
  go_enter Try.func13, Try.ntmps13
  go_wp2_with fail
  refine Calls.to hc ?_
  rintro e w1 rfl hb
  go_wp2_with fail
  go_ret2
  exact ⟨rfl, hb⟩

set_option maxRecDepth 100000 in
set_option maxHeartbeats 2000000 in
theorem order_ok (n : Nat) (E : List (Nat × Nat)) (v : Value) (w : World) (hE : IsEds w v E) (hv : Gp.vtx n E) (hn : n ≤ 300) (hl : E.length ≤ 1000) :
    Calls Try.prog 13 #[.int .i64 n, v] w fun e w' => (∃ u c, e = .returned (.tuple #[u, .int .i64 c]) ∧ (((Gp.ordL n E).length = n ∧ c = 0 ∧ Own w.heap.size 3 eNat 1 w' u (Gp.ordL n E)) ∨ ((Gp.ordL n E).length < n ∧ c = 22 ∧ u = .slice none 0 0))) ∧ Below w.heap.size w w' := by
  have hc := valid_any n (edI E) v w (isL_edI.2 hE)
  rw [validB_ok hv hn hl] at hc
  go_enter Try.func13, Try.ntmps13
  go_wp2_with fail
  refine Calls.to hc ?_
  rintro e w1 rfl hb
  go_wp2_with fail
  refine Calls.to (order0_any n E v w1 (hE.mono hb) hv (by omega) (by omega)) ?_
  rintro e w2 ⟨u, rfl, hO⟩ hb2
  have hOb := hO.base hb.size
  have hbb := hb.trans (hb2.mono hb.size)
  obtain ⟨ua, uc, rfl⟩ := hO.isSlice
  have hle := (Gp.ordL_inv n E).len
  obtain ⟨L, hLe⟩ : ∃ L, L = Gp.ordL n E := ⟨_, rfl⟩
  rw [← hLe] at hO hOb hle ⊢
  have HLe := Lib.hid hLe
  clear hLe
  by_cases h : L.length = n
  · have h1 : decide (L.length < n) = false := decide_eq_false (by omega)
    have h2 : decide ((L.length : Int) < n) = false := decide_eq_false (by omega)
    have HH := Lib.hid h
    clear h
    go_wp2_with fail
    go_ret2
    rw [← HLe.out]
    exact ⟨⟨_, _, rfl, .inl ⟨HH.out, rfl, hOb⟩⟩, hbb⟩
  · have h1 : decide (L.length < n) = true := decide_eq_true (by omega)
    have h2 : decide ((L.length : Int) < n) = true := decide_eq_true (by omega)
    go_wp2_with fail
    go_ret2
    rw [← HLe.out]
    exact ⟨⟨_, _, rfl, .inr ⟨by omega, rfl, rfl⟩⟩, hbb⟩

/-- 'make([]int, n)', known by its run: where it may come at any step of a region. -/
theorem make_ints (n : Nat) (hn : n < 2147483648) : ∃ MC : Array Value, (∀ W, (Instr.makeSlice 25 (.int .i64 (n : Int)) (.int .i64 (n : Int))).run Try.prog W = .ok (.slice (some ⟨W.heap.size, 0, none⟩) n n) (W.alloc (.cells MC 3))) ∧
    ∀ (W : World) (base : Nat), base ≤ W.heap.size → Own base 3 eInt 1 (W.alloc (.cells MC 3)) (.slice (some ⟨W.heap.size, 0, none⟩) n n) (List.replicate n 0) := by
  obtain ⟨i, hi, hi0, hi1, hi2⟩ := info_parts infInt
  have hb' : (i.bytes : Int) * (n : Int) ≤ 281474976710656 := by rw [hi2]; omega
  refine ⟨madeCells (Value.int .i64 0).cells (n * i.size), fun W => ?_, fun W base hbase => ?_⟩
  · have hr := run_make (P := Try.prog) W 25 3 i (.int .i64 0) undInts hi hi0 .i64 .i64 n n (by omega) (Int.le_refl _) hb' (by omega)
    simp only [Int.toNat_natCast] at hr
    exact hr
  · have r1 := World.ownsRow_lit (base := base) (e := 3) (size := i.size) W (madeCells (Value.int .i64 0).cells (n * i.size)) n hbase (by simp only [maxLen]; omega) (size_madeCells _ _)
    rw [hi1, Nat.mul_one] at r1
    rw [hi1, Nat.mul_one]
    have hflat : (List.replicate n (0 : Int)).flatMap eInt = List.replicate n (Value.int .i64 0) := by
      clear r1 hb' hn
      induction n with
      | zero => rfl
      | succ n ih => simp only [List.replicate_succ, List.flatMap_cons, ih]; rfl
    have hm : (madeCells (Value.int .i64 0).cells n).toList = List.replicate n (Value.int .i64 0) := toList_madeCells_one _ _
    unfold Own
    rw [hflat, List.length_replicate, ← hm]
    exact r1

theorem OwnR.kept {α : Type} {base : Nat} {et e : TypeId} {enc : α → List Value} {k : Nat} {w w' : World} {v : Value} {vs : List Value} {xss : List (List α)} (h : OwnR base et e enc k w v vs xss) {OB : Nat} (hg : w.grownBy w' (some OB))
    (h1 : v.ownBlock ≠ some OB) (h2 : ∀ (i : Nat) (hi : i < vs.length), vs[i].ownBlock ≠ some OB) : OwnR base et e enc k w' v vs xss :=
  ⟨Own.kept h.out hg (fun g hg' e => h1 (by rw [hg', e])), h.len, fun i h3 h4 => Own.kept (h.row i h3 h4) hg (fun g hg' e => h2 i h3 (by rw [hg', e])), h.apart, h.off⟩
theorem grownBy_drew (w : World) (r : Option Nat) : w.grownBy w.drew r := ⟨rfl, rfl, rfl, Nat.le_refl _, fun _ _ _ => rfl⟩
theorem grownBy_alloc' (w : World) (o : Obj) (r : Option Nat) : w.grownBy (w.alloc o) r := ⟨rfl, rfl, rfl, by simp, fun j hj _ => heap_alloc_old w _ hj⟩
theorem below_grown {w w1 w2 : World} {B OB : Nat} (h : Below B w w1) (hg : w1.grownBy w2 (some OB)) (hB : B ≤ w1.heap.size) (hO : B ≤ OB) : Below B w w2 :=
  h.grown hg hB (fun k hk => by injection hk with hk; omega)

/-- What stands ahead of the loops: the rows, and the lengths in a block of their own. -/
structure DepZ (n : Nat) (E : List (Nat × Nat)) (w1 : World) (OB : Nat) (wz : World) (u5 : Value) (vs : List Value) : Prop where
  bel : Below w1.heap.size w1 wz
  ob : w1.heap.size ≤ OB
  out : Own w1.heap.size 3 eInt 1 wz (.slice (some ⟨OB, 0, none⟩) n n) (List.replicate n 0)
  rows : OwnR w1.heap.size 25 3 eNat 1 wz u5 vs ((List.range n).map (Gp.nxt n E))
  off : u5.ownBlock ≠ some OB
  offs : ∀ (i : Nat) (hi : i < vs.length), vs[i].ownBlock ≠ some OB

set_option maxRecDepth 100000 in
set_option maxHeartbeats 2000000 in
theorem depths_bad (n : Int) (E : List (Int × Int)) (v : Value) (w : World) (hE : IsEis w v E) (hbad : validB n E = false) :
    Calls Try.prog 14 #[.int .i64 n, v] w fun e w' => e = .returned (.tuple #[.slice none 0 0, .int .i64 1]) ∧ Below w.heap.size w w' := by
  go_enter Try.func14, Try.ntmps14
  go_wp2_with fail
  refine Calls.to (order_bad n E v w hE hbad) ?_
  rintro e w1 rfl hb
  go_wp2_with fail
  go_ret2
  exact ⟨rfl, hb⟩

set_option maxRecDepth 100000 in
set_option maxHeartbeats 8000000 in
theorem depths_ok (n : Nat) (E : List (Nat × Nat)) (v : Value) (w : World) (hE : IsEds w v E) (hv : Gp.vtx n E) (hn : n ≤ 300) (hl : E.length ≤ 1000) :
    Calls Try.prog 14 #[.int .i64 n, v] w fun e w' => (∃ u c, e = .returned (.tuple #[u, .int .i64 c]) ∧ (((Gp.ordL n E).length = n ∧ c = 0 ∧ Own w.heap.size 3 eInt 1 w' u (Gp.depL n E)) ∨ ((Gp.ordL n E).length < n ∧ c = 22 ∧ u = .slice none 0 0))) ∧ Below w.heap.size w w' := by
  go_enter Try.func14, Try.ntmps14
  go_wp2_with fail
  refine Calls.to (order_ok n E v w hE hv hn hl) ?_
  rintro e w1 ⟨u, c, rfl, ⟨hlen, rfl, hL⟩ | ⟨hlen, rfl, rfl⟩⟩ hb
  rotate_left
  · go_wp2_with fail
    go_ret2
    exact ⟨⟨_, _, rfl, .inr ⟨hlen, rfl, rfl⟩⟩, hb⟩
  · have hE1 := hE.mono hb
    have hLl := hL.isL (fun _ => rfl)
    obtain ⟨la, lc, rfl⟩ := hL.isSlice
    have hLc := hL.isC
    have HLN := Lib.hid hlen
    have hself := Gp.ordL_self n E
    have hlt := (Gp.ordL_inv n E).lt
    have hll : n < 2147483648 := by omega
    have hdep : Hid (Gp.depL n E = Gp.depF n E (Gp.ordL n E)) := rfl
    obtain ⟨L, hLe⟩ : ∃ L, L = Gp.ordL n E := ⟨_, rfl⟩
    rw [← hLe] at HLN hself hlt hdep hLc ⊢
    have HLe := Lib.hid hLe
    clear hlen hL hLl hLe
    go_wp2_with fail
    have hb12 : ∀ W, Below w1.heap.size w1 W → Below w.heap.size w W := fun W hW => hb.trans (hW.mono hb.size)
    obtain ⟨MC, hmk, hmo⟩ := make_ints n hll
    first
    | (go_region_held3 (fun w' => True) (first | exact trivial) ((go_at_call 47; refine Calls.to (next_any n E _ _ (hE1.mono (by repeat' (first | exact Below.refl _ _ | assumption | refine Below.more ?_ ?_ _ | refine Below.alloc ?_ ?_ _ | refine Below.drew ?_ | refine below_drewN ?_ _ | refine Below.setCell ?_ ?_ _ | exact Below.size (by assumption) | (simp [go_sem, size_more]; done) | (simp [go_sem, size_more]; omega)))) hv (by omega) (by omega)) ?_; rintro e w5 ⟨u5, vs, rfl, hR5⟩ hb5)))
    | fail "region 4"
    all_goals
      first
      | (have hz : DepZ n E w1 w5.heap.size (w5.alloc (.cells MC 3)) u5 vs := (by
           have h1 : w1.drew.heap.size ≤ w5.heap.size := hb5.size
           refine ⟨?_, h1, hmo w5 w1.heap.size h1, hR5.below (alloc_below _ _), ?_, ?_⟩
           · exact (Below.drew (Below.refl _ _)).trans (hb5.trans ((alloc_below w5 _).mono h1))
           · intro e; have := (hR5.out.lt _ e).2; omega
           · intro i hi e
             have := ((hR5.row i hi (by rw [← hR5.len]; exact hi)).lt _ e).2; omega)
         clear hR5 hb5 hmk hmo
         obtain ⟨wz, hwz⟩ : ∃ wz, wz = w5.alloc (.cells MC 3) := ⟨_, rfl⟩
         rw [← hwz] at hz ⊢
         obtain ⟨OB, hOB⟩ : ∃ OB, OB = w5.heap.size := ⟨_, rfl⟩
         rw [← hOB] at hz ⊢
         clear hwz hOB)
      | (have hz : DepZ n E w1 w1.heap.size w5 u5 vs := (by
           have h1 : (w1.alloc (.cells MC 3)).drew.heap.size = w1.heap.size + 1 := by simp
           rw [h1] at hR5 hb5
           refine ⟨?_, Nat.le_refl _, (hmo w1 w1.heap.size (Nat.le_refl _)).below (w' := w5) ?_, hR5.base' (by omega), ?_, ?_⟩
           · exact (Below.drew (alloc_below w1 (.cells MC 3))).trans (hb5.mono (by omega))
           · have h2 : (w1.alloc (.cells MC 3)).heap.size = w1.heap.size + 1 := by simp
             rw [h2]
             exact (Below.drew (Below.refl _ _)).trans hb5
           · intro e; have := (hR5.out.lt _ e).1; omega
           · intro i hi e
             have := ((hR5.row i hi (by rw [← hR5.len]; exact hi)).lt _ e).1; omega)
         clear hR5 hb5 hmk hmo
         obtain ⟨OB, hOB⟩ : ∃ OB, OB = w1.heap.size := ⟨_, rfl⟩
         rw [← hOB] at hz ⊢
         obtain ⟨wz, hwz⟩ : ∃ wz, wz = w5 := ⟨_, rfl⟩
         rw [← hwz] at hz ⊢
         clear hwz hOB)
      have HZ := Lib.hid hz
      have hvl : vs.length = n := by have := hz.rows.len; simpa using this
      have HVL := Lib.hid hvl
      have hlt1 : w1.heap.size < wz.heap.size := by
        have := hz.out.lt OB rfl
        omega
      have hO0 := hz.out
      have hb0 := hz.bel
      have hob := hz.ob
      obtain ⟨ra, rc, hre⟩ := hz.rows.out.isSlice
      rw [hvl] at hre
      clear hz hvl
      subst hre
      have hG0 := World.grownBy.refl wz (some OB)
      go_wp2_with fail
      go_loopw [30] (fun s30 wr => ∃ (j : Nat), j ≤ L.length ∧ s30 = .int .i64 j ∧ wz.grownBy wr (some OB) ∧ Own w1.heap.size 3 eInt 1 wr (.slice (some ⟨OB, 0, none⟩) n n) (Gp.depF n E (L.take j))) (fun i _ => L.length - (intOf i).toNat)
      case atStart => exact ⟨0, Nat.zero_le _, rfl, hG0, by rw [List.take_zero]; exact hO0⟩
      clear hO0 hG0
      case round =>
        obtain ⟨j, hj, rfl, hG, HO⟩ := hrel
        by_cases hjl : j < L.length
        · have hbr := below_grown hb0 hG (by omega) hob
          obtain ⟨lb, lo, rfl, c1⟩ := (hLc.mono hbr).nat j hjl
          have hin : L[j] < n := hlt _ (List.getElem_mem hjl)
          have hself := hself _ (List.getElem_mem hjl)
          have hiv : L[j] < vs.length := by have := HVL.out; omega
          obtain ⟨rg, rc', hrp, _⟩ := HZ.out.rows.out.place (by omega)
          rw [HVL.out] at hrp
          simp only [Value.slice.injEq] at hrp
          obtain ⟨rfl, _, rfl⟩ := hrp
          have hRk := fun W (hW : wz.grownBy W (some OB)) => OwnR.kept HZ.out.rows hW HZ.out.off HZ.out.offs
          have q3 := OwnR.cellv (hRk wr hG) L[j] hiv
          have hrow := fun W (hW : wz.grownBy W (some OB)) => (hRk W hW).row L[j] hiv (by simpa using hin)
          simp only [List.getElem_map, List.getElem_range] at hrow
          obtain ⟨ka, kc, hke⟩ := (hrow wz (World.grownBy.refl _ _)).isSlice
          simp only [hke] at q3 hrow
          clear hke hRk
          have hks : ∀ k ∈ Gp.nxt n E L[j], k < n := fun k hk => (Gp.mem_nxt.1 hk).1
          have hni : L[j] ∉ Gp.nxt n E L[j] := fun h => by
            have := (Gp.mem_nxt.1 h).2
            rw [hself] at this; cases this
          have hkl : (Gp.nxt n E L[j]).length < 2147483648 := by have := Gp.nxt_len n E L[j]; omega
          have hol := Gp.depF_len n E (L.take j)
          have hstep : Hid (Gp.depG L[j] (Gp.nxt n E L[j]) (Gp.depF n E (L.take j)) = Gp.depF n E (L.take (j + 1))) := Lib.hid (by
            rw [Gp.depG_is hself hol, List.take_succ_eq_append_getElem hjl, Gp.depF_snoc])
          have hsm := Gp.depF_small E (n := n) (L.take j) L[j]
          rw [List.length_take] at hsm
          have hsm2 : Hid (0 ≤ (Gp.depF n E (L.take j)).getD L[j] 0 ∧ (Gp.depF n E (L.take j)).getD L[j] 0 ≤ 1000000) := Lib.hid ⟨hsm.1, by have := HLN.out; omega⟩
          have hol := Lib.hid hol
          clear hsm
          generalize Gp.depF n E (L.take j) = o at *
          generalize L[j] = i at *
          generalize Gp.nxt n E i = ks at *
          obtain ⟨d0, hd0⟩ : ∃ d0, d0 = o.getD i 0 := ⟨_, rfl⟩
          rw [← hd0] at hsm2
          have hd1 := Lib.hid hd0.symm
          have hd2 : 0 ≤ d0 ∧ d0 ≤ 1000000 := hsm2.out
          clear hd0 hsm2
          go_wp2_with fail
          go_loopw [39] (fun s39 wr => ∃ (m : Nat) (o3 : List Int), m ≤ ks.length ∧ s39 = .int .i64 m ∧ wz.grownBy wr (some OB) ∧ Own w1.heap.size 3 eInt 1 wr (.slice (some ⟨OB, 0, none⟩) n n) o3 ∧ Hid (o3.length = n) ∧ Hid (o3.getD i 0 = d0) ∧ Hid (Gp.depG i (ks.drop m) o3 = Gp.depG i ks o)) (fun i _ => ks.length - (intOf i).toNat)
          case atStart => exact ⟨0, o, Nat.zero_le _, rfl, hG, HO, hol, hd1, Lib.hid (by rw [List.drop_zero])⟩
          clear hG HO hol hd1 q3 c1 hbr
          case round =>
            obtain ⟨m, o3, hm, rfl, hG, HO, HL3, HD3, HF3⟩ := hrel
            by_cases hml : m < ks.length
            · obtain ⟨kb, ko, rfl, c2⟩ := (hrow wr hG).isC.nat m hml
              have hkn : ks[m] < n := hks _ (List.getElem_mem hml)
              have hko : ks[m] < o3.length := by have := HL3.out; omega
              have hio : i < o3.length := by have := HL3.out; omega
              have hki : ks[m] ≠ i := fun e => hni (e ▸ List.getElem_mem hml)
              have q4 := HO.inti ks[m] hko
              have q5 := HO.inti i hio
              have e5 := HD3.out
              rw [getD_at hio] at e5
              rw [e5] at q5
              have f4 : wr.frozen? ⟨OB, ks[m], none⟩ = false := Own.free HO _
              have hOs := (HO.seti ks[m] hko (max o3[ks[m]] (d0 + 1))).below (Below.drew (Below.refl _ _))
              have hst : Hid (Gp.depG i (ks.drop m) o3 = Gp.depG i (ks.drop (m + 1)) (o3.set ks[m] (max o3[ks[m]] (d0 + 1)))) := by
                rw [List.drop_eq_getElem_cons hml, ← getD_at hko 0, ← HD3.out]; rfl
              have hls : Hid ((o3.set ks[m] (max o3[ks[m]] (d0 + 1))).length = n) := Lib.hid (by rw [List.length_set]; exact HL3.out)
              have hds : Hid ((o3.set ks[m] (max o3[ks[m]] (d0 + 1))).getD i 0 = d0) := Lib.hid (by rw [Gp.getD_set_ne hki]; exact HD3.out)
              have x8 : IntKind.i64.wrap ((m : Int) + 1) = m + 1 := IntWalk.i64_in _ (by omega)
              have x9 : IntKind.i64.wrap (d0 + 1) = d0 + 1 := IntWalk.i64_in _ (by omega)
              have hGs := (hG.trans (grownBy_set wr ⟨OB, ks[m], none⟩ (.int .i64 (max o3[ks[m]] (d0 + 1))))).trans (grownBy_drew _ (some OB))
              clear hrow HO hG e5 HD3
              generalize o3[ks[m]] = x at *
              generalize ks[m] = k at *
              go_wp2_with fail
              go_region
              clear q4 q5 f4 c2
              go_wp2_with fail
              go_roundw
              case measure => simp [intOf]; omega
              case rel => exact ⟨m + 1, o3.set k (max x (d0 + 1)), by omega, by go_num, hGs, hOs, hls, hds, Lib.hid (hst.out.symm.trans HF3.out)⟩
            · obtain rfl : m = ks.length := by omega
              have h1 : Hid (o3 = Gp.depF n E (L.take (j + 1))) := Lib.hid (by
                rw [← hstep.out, ← HF3.out, List.drop_length]; rfl)
              have x7 : IntKind.i64.wrap ((j : Int) + 1) = j + 1 := IntWalk.i64_in _ (by have := HLN.out; omega)
              clear hrow
              go_wp2_with fail
              go_roundw
              case measure => simp [intOf]; omega
              case rel => exact ⟨j + 1, by omega, by go_num, hG, by rw [← h1.out]; exact HO⟩
        · obtain rfl : j = L.length := by omega
          rw [List.take_length] at HO
          have hbr := below_grown hb0 hG (by omega) hob
          go_wp2_with fail
          go_ret2
          rw [← HLe.out]
          refine ⟨⟨_, _, rfl, .inl ⟨HLN.out, rfl, ?_⟩⟩, hb.trans (hbr.mono hb.size)⟩
          rw [hdep.out]
          exact HO.base hb.size

end Go.Proofs.Ythnhlaljnkdmfaa
