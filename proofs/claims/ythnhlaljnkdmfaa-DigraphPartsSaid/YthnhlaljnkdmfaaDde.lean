/- slices.Delete at [][2]int: one edge is struck, in place, on a row of the call's own. Conditions: the place is below the length. -/
import Derived.Test.YthnhlaljnkdmfaaDgk
import Derived.Lib.SlicesDelete
import Derived.Lib.SliceRun
import Derived.Deep.RegionLaw
namespace Go.Proofs.Ythnhlaljnkdmfaa
open Go.RowKit
set_option linter.unusedVariables false
set_option linter.unusedSimpArgs false

theorem take_of_get (L : Array Value) (xs : List Value) (h : ∀ (j : Nat) (u : Value), xs[j]? = some u → L[j]? = some u) : L.toList.take xs.length = xs := by
  apply List.ext_getElem?
  intro j
  by_cases hj : j < xs.length
  · rw [List.getElem?_take_of_lt hj, Array.getElem?_toList, List.getElem?_eq_getElem hj]
    exact h j _ (List.getElem?_eq_getElem hj)
  · rw [List.getElem?_eq_none (by rw [List.length_take]; omega), List.getElem?_eq_none (by omega)]
theorem own_of_cells {α : Type} {enc : α → List Value} {k : Nat} (hk : ∀ x, (enc x).length = k) {base g cap : Nat} {w : World} {L : Array Value} {T : TypeId} (hb : base ≤ g) (hh : w.heap[g]? = some (.cells L T (0, 0))) (ys : List α)
    (hn : ys.length ≤ cap) (hm : cap ≤ maxLen) (hs : L.size = cap * k) (h : ∀ (j : Nat) (u : Value), (ys.flatMap enc)[j]? = some u → w.cell? ⟨g, j, none⟩ = some u) : Own base T enc k w (.slice (some ⟨g, 0, none⟩) ys.length cap) ys :=
  ⟨flat_len enc k hk ys, .inr ⟨g, cap, L, rfl, hb, hh, hn, hm, hs, by
    have := take_of_get L (ys.flatMap enc) (fun j u hu => by rw [← blk_cell hh]; exact h j u hu)
    rwa [flat_len enc k hk ys] at this⟩⟩
theorem run_clear_row {P : Program} (w : World) (t e ty : TypeId) (z : Value) (ht : P.underlying t = some (.slice e)) (hv : ∀ w, (zeroValue e).run P w = .ok z w) (b o n c : Nat) (hn : 0 < n) (vs : List Value)
    (hvs : (Builtin.zeroCells z.cells n).toList = vs) (h1 : ∀ u ∈ vs, u.oneCell' = true)
    (hc : ∀ j, j < vs.length → (w.cell? ⟨b, o + j, none⟩).isSome = true) (hf : ∀ j, j < vs.length → w.frozen? ⟨b, o + j, none⟩ = false) :
    (Builtin.clear_ #[t] ty #[.slice (some ⟨b, o, none⟩) n c]).run P w = .ok (.tuple #[]) (w.setCells b o vs) := by
  have hst := run_storeCells_cells (P := P) b o vs 0 w (by simpa using hc) (by simpa using hf) h1
  simp only [Nat.add_zero] at hst
  obtain ⟨m, rfl⟩ : ∃ m, n = m + 1 := ⟨n - 1, by omega⟩
  simp [Builtin.clear_, run_underlying ht, hv, hvs, hst]
theorem below_setCells' {B b : Nat} {a : World} (hb : B ≤ b) : ∀ (vs : List Value) (o : Nat) (w : World), Below B a w → Below B a (w.setCells b o vs)
  | [], _, _, h => h
  | v :: r, o, w, h => below_setCells' hb r (o + 1) _ (h.setCell (by exact hb) v)
theorem zeroEd (w : World) : (zeroValue 35).run Try.prog w = .ok (.agg #[.int .i64 0, .int .i64 0]) w := by simp [go_sem]
/-- The list less one place, as cells. -/
theorem flat_del (E : List (Nat × Nat)) (i m : Nat) (h : E.length = i + 1 + m) : (E.take i ++ E.drop (i + 1)).flatMap eEd = (E.take i).flatMap eEd ++ (E.drop (i + 1)).flatMap eEd ∧ ((E.take i).flatMap eEd).length = i * 2 ∧ ((E.drop (i + 1)).flatMap eEd).length = m * 2 := by
  refine ⟨List.flatMap_append, ?_, ?_⟩
  · rw [flat_len eEd 2 eEd_len, List.length_take]; omega
  · rw [flat_len eEd 2 eEd_len, List.length_drop]; omega
theorem flat_at (xs : List (Nat × Nat)) (j : Nat) (u : Value) (hu : (xs.flatMap eEd)[j]? = some u) : ∃ (q : Nat) (hq : q < xs.length), u = (eEd xs[q]).getD (j % 2) undef ∧ j = q * 2 + j % 2 := by
  have hj : j < xs.length * 2 := by have := (List.getElem?_eq_some_iff.1 hu).1; rwa [flat_len eEd 2 eEd_len] at this
  refine ⟨j / 2, by omega, ?_, by omega⟩
  have := flat_get eEd 2 eEd_len xs (j / 2) (j % 2) (by omega) (Nat.mod_lt _ (by omega))
  rw [show j / 2 * 2 + j % 2 = j by omega, hu] at this
  exact Option.some.inj this

set_option maxRecDepth 1000000 in
set_option maxHeartbeats 4000000 in
theorem delE_any (E : List (Nat × Nat)) (i : Nat) (v : Value) (base : Nat) (w : World) (hown : Own base 35 eEd 2 w v E) (hi : i < E.length) (hl : E.length ≤ 1000000) :
    Calls Try.prog 44 #[v, .int .i64 (i : Int), .int .i64 ((i : Int) + 1)] w fun e w' => (∃ v', e = .returned v' ∧ Own base 35 eEd 2 w' v' (E.take i ++ E.drop (i + 1))) ∧ Below base w w' := by
  obtain ⟨m, hm⟩ : ∃ m, E.length = i + 1 + m := ⟨E.length - (i + 1), by omega⟩
  obtain ⟨i0, hi0, hz0, hzs, hzb⟩ := info_parts infEd
  rcases hown.2 with ⟨rfl, hn⟩ | ⟨g, cap, cur, rfl, hbg, hg, hnc, hcm, hcs, htake⟩
  · omega
  have hm63 : cap ≤ 9223372036854775807 := by simpa [maxLen] using hcm
  have hcell : ∀ (j : Nat) (u : Value), (E.flatMap eEd)[j]? = some u → w.cell? ⟨g, j, none⟩ = some u := fun j u hu => by
    rw [blk_cell hg, ← Array.getElem?_toList]
    have h2 := hu
    rw [← htake] at h2
    have hj : j < E.length * 2 := by have := (List.getElem?_eq_some_iff.1 hu).1; rwa [flat_len eEd 2 eEd_len] at this
    rwa [List.getElem?_take_of_lt hj] at h2
  have hsome : ∀ j, j < cap * 2 → (w.cell? ⟨g, j, none⟩).isSome = true := fun j hj => by
    rw [blk_cell hg, Array.getElem?_eq_getElem (by omega)]; rfl
  have hfz : ∀ j, w.frozen? ⟨g, j, none⟩ = false := fun j => by simp [World.frozen?, hg]
  obtain ⟨f1, f2, f3⟩ := flat_del E i m hm
  obtain ⟨news, hnews⟩ : ∃ news, news = (E.drop (i + 1)).flatMap eEd := ⟨_, rfl⟩
  rw [← hnews] at f1 f3
  have hfl : E.flatMap eEd = (E.take (i + 1)).flatMap eEd ++ news := by
    rw [hnews, ← List.flatMap_append, List.take_append_drop]
  have hft : ((E.take (i + 1)).flatMap eEd).length = (i + 1) * 2 := by
    rw [flat_len eEd 2 eEd_len, List.length_take]; omega
  obtain ⟨A, hA, hsrc⟩ : ∃ A : Addr, (if cap = i + 1 then (some ⟨g, 0, none⟩ : Option Addr) else some ⟨g, (i + 1) * 2, none⟩) = some A ∧ Hid (∀ (t : Nat) (u : Value), news[t]? = some u → w.drew.cell? (A.add t) = some u) := by
    by_cases h : cap = i + 1
    · refine ⟨⟨g, 0, none⟩, by simp [h], fun t u hu => ?_⟩
      have h0 : news.length = 0 := by omega
      rw [List.length_eq_zero_iff.1 h0] at hu
      simp at hu
    · refine ⟨⟨g, (i + 1) * 2, none⟩, by simp [h], fun t u hu => ?_⟩
      rw [Addr.add_lit]
      exact hcell _ u (by rw [hfl, List.getElem?_append_right (by omega), hft, Nat.add_sub_cancel_left]; exact hu)
  have s1 : Hid (news.length = m * 2) := f3
  have s2 : Hid (∀ u ∈ news, u.oneCell' = true) := by
    intro u hu
    rw [hnews, List.mem_flatMap] at hu
    obtain ⟨x, _, hx⟩ := hu
    simp at hx
    rcases hx with rfl | rfl <;> rfl
  have s3 : Hid (∀ t, t < news.length → (w.drew.cell? ⟨g, 0 + i * 2 + t, none⟩).isSome = true ∧ w.drew.frozen? ⟨g, 0 + i * 2 + t, none⟩ = false) := by
    intro t ht
    exact ⟨hsome _ (by omega), hfz _⟩
  obtain ⟨W1, hW1⟩ : ∃ W1, W1 = w.drew.setCells g (0 + i * 2) news := ⟨_, rfl⟩
  obtain ⟨L1, hL1, hL1s⟩ := block_setCells g 35 news (0 + i * 2) w.drew cur (by exact hg)
  rw [← hW1] at hL1
  obtain ⟨zs, hzsE⟩ : ∃ zs, (Builtin.zeroCells (Value.cells (.agg #[.int .i64 0, .int .i64 0])) 1).toList = zs := ⟨_, rfl⟩
  obtain ⟨L2, hL2, hL2s⟩ := block_setCells g 35 zs ((i + m) * 2) W1 L1 hL1
  have hzl : zs.length = 2 := by rw [← hzsE]; simp [Builtin.zeroCells, Value.cells]
  have hz1 : ∀ u ∈ zs, u.oneCell' = true := by
    intro u hu
    rw [← hzsE] at hu
    simp only [Builtin.zeroCells, Array.toList_map, List.mem_map] at hu
    obtain ⟨q, _, rfl⟩ := hu
    have : q % 2 = 0 ∨ q % 2 = 1 := by omega
    rcases this with h | h <;> simp [Value.cells, h, Value.oneCell']
  have hcl : ∀ ty, (Builtin.clear_ #[22] ty #[.slice (some ⟨g, (i + m) * 2, none⟩) 1 (cap - (i + m))]).run Try.prog W1 = .ok (.tuple #[]) (W1.setCells g ((i + m) * 2) zs) :=
    fun ty => run_clear_row W1 _ _ ty _ undEds zeroEd g ((i + m) * 2) 1 _ (by omega) zs hzsE hz1
      (fun j hj => by rw [blk_cell hL1, Array.getElem?_eq_getElem (by omega)]; rfl) (fun j _ => by simp [World.frozen?, hL1])
  have hfin : Own base 35 eEd 2 (W1.setCells g ((i + m) * 2) zs) (.slice (some ⟨g, 0, none⟩) (i + m) cap) (E.take i ++ E.drop (i + 1)) := by
    have hlen : (E.take i ++ E.drop (i + 1)).length = i + m := by simp; omega
    have := own_of_cells (enc := eEd) (k := 2) eEd_len (cap := cap) hbg hL2 (E.take i ++ E.drop (i + 1)) (by omega) hcm (by omega) (fun j u hu => by
      have hj : j < (i + m) * 2 := by have := (List.getElem?_eq_some_iff.1 hu).1; rwa [flat_len eEd 2 eEd_len, hlen] at this
      rw [World.cell?_setCells_out g _ _ _ _ (fun _ _ => .inl (by show j < _; omega)), hW1]
      rw [f1] at hu
      by_cases h : j < i * 2
      · rw [World.cell?_setCells_out g _ _ _ _ (fun _ _ => .inl (by show j < _; omega))]
        rw [List.getElem?_append_left (by omega)] at hu
        refine hcell j u ?_
        have e0 : E.flatMap eEd = (E.take i).flatMap eEd ++ (E.drop i).flatMap eEd := by rw [← List.flatMap_append, List.take_append_drop]
        rw [e0, List.getElem?_append_left (by omega)]; exact hu
      · rw [List.getElem?_append_right (by omega), f2] at hu
        obtain ⟨hjl, hju⟩ := List.getElem?_eq_some_iff.1 hu
        have := World.cell?_setCells_in g news (0 + i * 2) w.drew (fun k hk => (s3.out k hk).1) (j - i * 2) (by omega)
        rw [show 0 + i * 2 + (j - i * 2) = j by omega] at this
        rw [this, hju])
    rwa [hlen] at this
  have HF := Lib.hid hfin
  have hbl : Below base w (W1.setCells g ((i + m) * 2) zs) := by
    rw [hW1]
    exact below_setCells' hbg _ _ _ (below_setCells' hbg _ _ _ (Below.drew (Below.refl _ _)))
  have hel : Try.prog.elem 22 = 35 := by kernel_rfl
  have ht : Try.prog.underlying 22 = some (.slice (Try.prog.elem 22)) := by rw [hel]; exact undEds
  have hsz : ∀ W, (sizeOf (Try.prog.elem 22)).run Try.prog W = .ok 2 W := by rw [hel]; exact Try.sizeOf35
  obtain ⟨U, q1⟩ : ∃ U, ∀ W, (Instr.sliceAt 22 (.slice (some ⟨g, 0, none⟩) (i + 1 + m) cap) (some (.int .i64 (i : Int))) (some (.int .i64 ((i : Int) + 1))) (some (.int .i64 ((i + 1 + m : Nat) : Int)))).run Try.prog W = .ok U W := ⟨_, fun W => by
    rw [run_sliceAt_slice _ _ _ _ _ _ ht, run_slice_lhm W 22 _ _ _ ht .i64 .i64 .i64 i ((i : Int) + 1) ((i + 1 + m : Nat) : Int) (by omega) (by omega) (by omega) (by omega), hsz]
    rfl⟩
  have q2 : ∀ W, (Instr.sliceAt 22 (.slice (some ⟨g, 0, none⟩) (i + 1 + m) cap) none (some (.int .i64 (i : Int))) none).run Try.prog W = .ok (.slice (some ⟨g, 0, none⟩) i cap) W := fun W => by
    rw [shrinkE_run _ _ _ _ (by omega)]
    have hc0 : ¬ cap = 0 := by omega
    have e1 : (⟨g, 0, none⟩ : Addr).add (0 * 2) = ⟨g, 0, none⟩ := Addr.add_lit ..
    simp [hc0, e1]
  have q3 : ∀ W, (Instr.sliceAt 22 (.slice (some ⟨g, 0, none⟩) (i + 1 + m) cap) (some (.int .i64 ((i : Int) + 1))) none none).run Try.prog W = .ok (.slice (some A) m (cap - (i + 1))) W := fun W => by
    rw [run_sliceAt_slice _ _ _ _ _ _ ht, run_slice_l W 22 _ _ _ ht .i64 ((i : Int) + 1) (by omega) (by omega), hsz]
    rw [← hA]
    have e0 : ((i : Int) + 1).toNat = i + 1 := by omega
    have e1 : (⟨g, 0, none⟩ : Addr).add ((i + 1) * 2) = ⟨g, 0 + (i + 1) * 2, none⟩ := Addr.add_lit ..
    by_cases h : cap = i + 1
    · simp [sliced, e0, h]
    · simp [sliced, e0, h, e1]
  have q4 : ∀ W, (Instr.sliceAt 22 (.slice (some ⟨g, 0, none⟩) (i + m) cap) (some (.int .i64 ((i + m : Nat) : Int))) (some (.int .i64 ((i + 1 + m : Nat) : Int))) none).run Try.prog W = .ok (.slice (some ⟨g, (i + m) * 2, none⟩) 1 (cap - (i + m))) W := fun W => by
    rw [run_sliceAt_slice _ _ _ _ _ _ ht, run_slice_lh W 22 _ _ _ ht .i64 .i64 ((i + m : Nat) : Int) ((i + 1 + m : Nat) : Int) (by omega) (by omega) (by omega), hsz]
    have h : ¬ cap = i + m := by omega
    have e1 : (⟨g, 0, none⟩ : Addr).add ((i + m) * 2) = ⟨g, 0 + (i + m) * 2, none⟩ := Addr.add_lit ..
    have e2 : i + 1 + m - (i + m) = 1 := by omega
    simp only [sliced, Int.toNat_natCast, h, if_false, e2, Option.map_some, Result.andThen]
    rw [e1, Nat.zero_add]
  have u0 : ((i : Int) == (i : Int) + 1) = false := by rw [beq_eq_false_iff_ne]; omega
  have hW : Hid (W1 = w.drew.setCells g (0 + i * 2) news) := hW1
  have hr1 : i + m ≤ cap := by omega
  have hlt : ((i + m : Nat) : Int) < ((i + 1 + m : Nat) : Int) := by omega
  have hML : i + m + 1 = i + 1 + m := by omega
  rw [hm]
  obtain ⟨M, hM⟩ : ∃ M, M = i + m := ⟨_, rfl⟩
  have hM' := Lib.hid hM
  rw [← hM] at q4 hr1 hbl HF hcl hlt hML
  obtain ⟨L, hL⟩ : ∃ L, L = i + 1 + m := ⟨_, rfl⟩
  rw [← hL] at q1 q2 q3 q4 hlt hML ⊢
  have hML' := Lib.hid hML
  clear ht hel hsz hM hL hm hML hnc hi hl hown htake hcs hcell hsome hfz f1 f2 f3 hnews hfl hft hA hW1 hL1 hL1s hL2 hL2s hzsE hzl hz1 hfin hg hz0 hzb
  go_enter Try.func44, Try.ntmps44
  go_wp2_with fail
  go_region_law (refine step_append_room rfl (.tmp 22) (.tmp 25) 22 rfl 35 i0 2 undEds hi0 hzs g 0 i cap (by simp [Act.eval, Act.put]) A m (cap - (i + 1)) news (by simp [Act.eval, Act.put]) s1.out hsrc.out s2.out (by have := hM'.out; omega) s3.out ?_; rw [← hW.out, ← hM'.out])
  go_wp2_with fail
  go_ret
  exact ⟨⟨_, rfl, HF.out⟩, hbl⟩

end Go.Proofs.Ythnhlaljnkdmfaa
