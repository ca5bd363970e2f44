/- slices.DeleteFunc at events, in place on a row of the call's own: the contract. Conditions: the predicate gives its answer in every later world. -/
import Derived.Test.YtdlaghjijfgncaaEvd
namespace Go.Proofs.Ytdlaghjijfgncaa
open Go.RowKit
set_option linter.unusedVariables false
set_option linter.unusedSimpArgs false

theorem keep_step {p : Ev → Bool} {xs ys : List Ev} {i j : Nat} (hj : j < xs.length) (hyl : ys.length = xs.length) (hij : i < j) (h1 : ys.take i = (xs.take j).filter fun x => !p x) (h2 : ys.drop j = xs.drop j) (hx : p xs[j] = false) :
    (ys.set i xs[j]).take (i + 1) = (xs.take (j + 1)).filter (fun x => !p x) ∧ (ys.set i xs[j]).drop (j + 1) = xs.drop (j + 1) := by
  constructor
  · rw [List.take_succ_eq_append_getElem (by simp; omega), List.take_set_of_le (Nat.le_refl _), h1, List.getElem_set_self, List.take_succ_eq_append_getElem hj, List.filter_append]
    simp [hx]
  · rw [List.drop_set_of_lt (by omega)]
    have := congrArg List.tail h2
    simpa [List.tail_drop] using this
theorem skip_step {p : Ev → Bool} {xs ys : List Ev} {i j : Nat} (hj : j < xs.length) (h1 : ys.take i = (xs.take j).filter fun x => !p x) (h2 : ys.drop j = xs.drop j) (hx : p xs[j] = true) :
    ys.take i = (xs.take (j + 1)).filter (fun x => !p x) ∧ ys.drop (j + 1) = xs.drop (j + 1) := by
  constructor
  · rw [h1, List.take_succ_eq_append_getElem hj, List.filter_append]
    simp [hx]
  · have := congrArg List.tail h2
    simpa [List.tail_drop] using this
theorem same_at {xs ys : List Ev} {j : Nat} (hj : j < xs.length) (hyl : ys.length = xs.length) (h2 : ys.drop j = xs.drop j) : ys[j]'(by omega) = xs[j] := by
  rw [List.drop_eq_getElem_cons hj, List.drop_eq_getElem_cons (show j < ys.length by omega)] at h2
  exact (List.cons.inj h2).1

theorem zeroEv (w : World) : (zeroValue 34).run Try.prog w = .ok (.agg #[.int .i64 0, .int .i64 0, .int .i64 0, .int .i64 0]) w := by simp [go_sem]

set_option maxRecDepth 100000 in
set_option maxHeartbeats 4000000 in
theorem delEv_any (g : Nat) (lb : Array Value) (eg : ∀ args w, (callFunc g args).run Try.prog w = .ok (.enter g args) w) (p : Ev → Bool) (xs : List Ev) (v : Value) (base : Nat) (w : World) (hown : Own base 34 eEv 4 w v xs) (hbase : base ≤ w.heap.size) (hlen : xs.length ≤ 1000000)
    (hp : ∀ W, Below base w W → ∀ x, x ∈ xs → Calls Try.prog g (#[vEv x] ++ lb) W fun e w' => e = .returned (.bool (p x)) ∧ Below W.heap.size W w') :
    Calls Try.prog 40 #[v, .func (.func g) #[] lb] w fun e w' => (∃ v', e = .returned v' ∧ Own base 34 eEv 4 w' v' (xs.filter fun x => !p x)) ∧ Below base w w' := by
  have is := hown.isL eEv_len
  rcases idxFrom_some (p := p) xs 0 with h0 | ⟨m, h0, hm, hf, hpm⟩
  · rw [idxFrom_none h0]
    obtain ⟨a, c, rfl⟩ := hown.isSlice
    go_enter Try.func40, Try.ntmps40
    go_wp2_with fail
    refine Calls.to (indexEv g lb eg p xs _ w is (fun W hW x hx => hp W (hW.mono hbase) x hx)) ?_
    rintro e w1 rfl hb1
    rw [h0]
    have hown := hown.below hb1
    clear hp is h0
    go_wp2_with fail
    go_ret
    exact ⟨⟨_, rfl, hown⟩, hb1.mono hbase⟩
  · rw [Nat.zero_add] at h0
    obtain ⟨gg, cap, rfl, hbg, hgl, hcap, hbig⟩ := hown.place (by omega)
    have u : ((m : Int) == -1) = false := by rw [beq_eq_false_iff_ne]; omega
    have HF := Lib.hid hf
    have HM := Lib.hid (hpm hm)
    clear hf hpm
    go_enter Try.func40, Try.ntmps40
    go_wp2_with fail
    refine Calls.to (indexEv g lb eg p xs _ w is (fun W hW x hx => hp W (hW.mono hbase) x hx)) ?_
    rintro e w1 rfl hb1
    rw [h0]
    have hown := hown.below hb1
    clear is h0
    have hb1' := hb1.mono hbase
    clear hb1
    have x0 : IntKind.i64.wrap ((m : Int) + 1) = m + 1 := IntWalk.i64_in _ (by omega)
    go_wp2_with fail
    go_loopw [5, 6] (fun s5 s6 wr => ∃ (i j : Nat) (ys : List Ev), s5 = .int .i64 i ∧ s6 = .int .i64 j ∧ i < j ∧ j ≤ xs.length ∧ Hid (ys.length = xs.length) ∧ Own base 34 eEv 4 wr (.slice (some ⟨gg, 0, none⟩) xs.length cap) ys ∧ Below base w wr ∧ Hid (ys.take i = (xs.take j).filter fun x => !p x) ∧ Hid (ys.drop j = xs.drop j)) (fun _ s6 _ => xs.length - (intOf s6).toNat)
    case atStart =>
      refine ⟨m, m + 1, xs, rfl, by go_num, by omega, by omega, rfl, hown, hb1', ?_, rfl⟩
      show _ = _
      rw [List.take_succ_eq_append_getElem hm, List.filter_append, HF.out]
      simp [HM.out]
    case round =>
      as_aux_lemma =>
      obtain ⟨i, j, ys, rfl, rfl, hij, hj, hyl, hown, hb, h1, h2⟩ := hrel
      by_cases hlt : j < xs.length
      · have hjy : j < ys.length := by have := hyl.out; omega
        have hiy : i < ys.length := by omega
        have c0 := hown.cellAt' eEv_len j 0 hjy (by omega)
        have c1 := hown.cellAt' eEv_len j 1 hjy (by omega)
        have c2 := hown.cellAt' eEv_len j 2 hjy (by omega)
        have c3 := hown.cellAt' eEv_len j 3 hjy (by omega)
        have d0 := hown.cellAt' eEv_len i 0 hiy (by omega)
        have d1 := hown.cellAt' eEv_len i 1 hiy (by omega)
        have d2 := hown.cellAt' eEv_len i 2 hiy (by omega)
        have d3 := hown.cellAt' eEv_len i 3 hiy (by omega)
        have HS := Lib.hid (same_at hlt hyl.out h2.out)
        rw [HS.out] at c0 c1 c2 c3
        have HK := fun h => keep_step (p := p) hlt hyl.out hij h1.out h2.out h
        have HKK := Lib.hid HK
        have HQ := fun h => skip_step (p := p) hlt h1.out h2.out h
        have HQQ := Lib.hid HQ
        clear HK HQ HS
        have hx0 := List.getElem_mem hlt
        generalize ys[i] = old at *
        generalize xs[j] = x at *
        simp at c0 c1 c2 c3 d0 d1 d2 d3
        have hbA : Below base w (wr.alloc (.cells #[.int .i64 x.From, .int .i64 x.To, .int .i64 x.Total, .int .i64 x.Peak] 34)) := hb.alloc (Nat.le_trans hbase hb.size) _
        have hx := hp _ hbA x hx0
        clear hp hx0
        have x1 : IntKind.i64.wrap ((i : Int) + 1) = i + 1 := IntWalk.i64_in _ (by omega)
        have x2 : IntKind.i64.wrap ((j : Int) + 1) = j + 1 := IntWalk.i64_in _ (by omega)
        have y1 : (i : Int) < xs.length := by omega
        cases hpx : p x
        · rw [hpx] at hx
          have HPX := Lib.hid hpx
          clear hpx
          go_wp2_with fail
          refine Calls.to hx ?_
          rintro e w2 rfl hb2
          have e0 : w2.cell? ⟨wr.heap.size, 0, none⟩ = some (.int .i64 x.From) := (hb2.cell (p := ⟨wr.heap.size, 0, none⟩) (by simp)).trans (by simp [go_sem])
          have e1 : w2.cell? ⟨wr.heap.size, 1, none⟩ = some (.int .i64 x.To) := (hb2.cell (p := ⟨wr.heap.size, 1, none⟩) (by simp)).trans (by simp [go_sem])
          have e2 : w2.cell? ⟨wr.heap.size, 2, none⟩ = some (.int .i64 x.Total) := (hb2.cell (p := ⟨wr.heap.size, 2, none⟩) (by simp)).trans (by simp [go_sem])
          have e3 : w2.cell? ⟨wr.heap.size, 3, none⟩ = some (.int .i64 x.Peak) := (hb2.cell (p := ⟨wr.heap.size, 3, none⟩) (by simp)).trans (by simp [go_sem])
          have hbX : Below wr.heap.size wr w2 := ((Below.refl _ _).alloc (Nat.le_refl _) _).trans (hb2.mono (by simp))
          have hown := hown.below hbX
          have hb := hb.trans (hbX.mono (Nat.le_trans hbase hb.size))
          have d0 := box_lt d0 hbX
          have d1 := box_lt d1 hbX
          have d2 := box_lt d2 hbX
          have d3 := box_lt d3 hbX
          have f0 := hown.free (i * 4)
          have f1 := hown.free (i * 4 + 1)
          have f2 := hown.free (i * 4 + 2)
          have f3 := hown.free (i * 4 + 3)
          clear hb2 hbX hbA c0 c1 c2 c3
          go_wp2_with fail
          go_roundw
          case measure => simp [intOf]; omega
          case rel => exact ⟨i + 1, j + 1, ys.set i x, by go_num, by go_num, by omega, by omega, by show _ = _; simpa using hyl.out, hown.store4 i hiy x, by repeat' (first | exact Below.refl _ _ | assumption | refine Below.more ?_ ?_ _ | refine Below.alloc ?_ ?_ _ | refine Below.drew ?_ | refine below_drewN ?_ _ | refine Below.setCell ?_ ?_ _ | exact Below.size (by assumption) | (simp [go_sem, size_more]; done) | (simp [go_sem, size_more]; omega)), (HKK.out HPX.out).1, (HKK.out HPX.out).2⟩
        · rw [hpx] at hx
          have HPX := Lib.hid hpx
          clear hpx
          go_wp2_with fail
          refine Calls.to hx ?_
          rintro e w2 rfl hb2
          have hbX : Below wr.heap.size wr w2 := ((Below.refl _ _).alloc (Nat.le_refl _) _).trans (hb2.mono (by simp))
          have hown := hown.below hbX
          have hb := hb.trans (hbX.mono (Nat.le_trans hbase hb.size))
          clear hb2 hbX hbA c0 c1 c2 c3 d0 d1 d2 d3
          go_wp2_with fail
          go_roundw
          case measure => simp [intOf]; omega
          case rel => exact ⟨i, j + 1, ys, rfl, by go_num, by omega, by omega, hyl, hown, hb, (HQQ.out HPX.out).1, (HQQ.out HPX.out).2⟩
      · obtain rfl : j = xs.length := by omega
        have HE : Hid (ys.take i = xs.filter fun x => !p x) := h1.out.trans (by rw [List.take_length])
        obtain ⟨vs, hvs⟩ : ∃ vs, (Builtin.zeroCells (Value.cells (.agg #[.int .i64 0, .int .i64 0, .int .i64 0, .int .i64 0])) (xs.length - i)).toList = vs := ⟨_, rfl⟩
        have hvl : vs.length = (xs.length - i) * 4 := by rw [← hvs]; simp [Builtin.zeroCells, Value.cells]
        have hv1 : ∀ u ∈ vs, u.oneCell' = true := by
          intro u hu
          rw [← hvs] at hu
          simp only [Builtin.zeroCells, Array.toList_map, List.mem_map] at hu
          obtain ⟨q, _, rfl⟩ := hu
          have : q % 4 = 0 ∨ q % 4 = 1 ∨ q % 4 = 2 ∨ q % 4 = 3 := by omega
          rcases this with h | h | h | h <;> simp [Value.cells, h, Value.oneCell']
        have hisc : ∀ t, t < vs.length → (wr.cell? ⟨gg, i * 4 + t, none⟩).isSome = true := by
          intro t ht
          have h3 := hown.cellAt' eEv_len (i + t / 4) (t % 4) (by have := hyl.out; omega) (Nat.mod_lt _ (by omega))
          rw [show (i + t / 4) * 4 + t % 4 = i * 4 + t from by omega] at h3
          rw [h3]; rfl
        have hfr : ∀ t, t < vs.length → wr.frozen? ⟨gg, i * 4 + t, none⟩ = false := fun t _ => hown.free _
        have hcl : ∀ ty, (Builtin.clear_ #[27] ty #[.slice (some ⟨gg, i * 4, none⟩) (xs.length - i) (cap - i)]).run Try.prog wr = .ok (.tuple #[]) (wr.setCells gg (i * 4) vs) :=
          fun ty => run_clear_row wr _ _ ty _ undEvs zeroEv gg (i * 4) _ _ (by omega) vs hvs hv1 hisc hfr
        have hown2 := hown.cleared eEv_len i (by have := hyl.out; omega) vs
        rw [HE.out] at hown2
        have hb2 : Below base w (wr.setCells gg (i * 4) vs) := below_setCells' hbg _ _ _ hb
        have y0 : (i : Int) < xs.length := by omega
        clear hvs hvl hv1 hisc hfr hp HM HF
        go_wp2_with fail
        go_ret
        exact ⟨⟨_, rfl, hown2⟩, hb2⟩

end Go.Proofs.Ytdlaghjijfgncaa
