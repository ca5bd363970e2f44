/- slices.DeleteFunc at events, in place on a row of the call's own. Conditions: the predicate gives its answer in every later world. -/
import Derived.Test.YtdlaghjijfgncaaEvs
namespace Go.Proofs.Ytdlaghjijfgncaa
open Go.RowKit
set_option linter.unusedVariables false
set_option linter.unusedSimpArgs false

theorem box_lt {w w' : World} {b off : Nat} {v : Value} (h : w.cell? ⟨b, off, none⟩ = some v) (hb : Below w.heap.size w w') : w'.cell? ⟨b, off, none⟩ = some v := by
  rw [hb.cell (World.block_lt_of_cell? _ _ h)]; exact h

theorem run_clear_row {P : Program} (w : World) (t e ty : TypeId) (z : Value) (ht : P.underlying t = some (.slice e)) (hv : ∀ w, (zeroValue e).run P w = .ok z w) (b o n c : Nat) (hn : 0 < n) (vs : List Value)
    (hvs : (Builtin.zeroCells z.cells n).toList = vs) (h1 : ∀ u ∈ vs, u.oneCell' = true)
    (hc : ∀ j, j < vs.length → (w.cell? ⟨b, o + j, none⟩).isSome = true) (hf : ∀ j, j < vs.length → w.frozen? ⟨b, o + j, none⟩ = false) :
    (Builtin.clear_ #[t] ty #[.slice (some ⟨b, o, none⟩) n c]).run P w = .ok (.tuple #[]) (w.setCells b o vs) := by
  have hst := run_storeCells_cells (P := P) b o vs 0 w (by simpa using hc) (by simpa using hf) h1
  simp only [Nat.add_zero] at hst
  obtain ⟨m, rfl⟩ : ∃ m, n = m + 1 := ⟨n - 1, by omega⟩
  simp [Builtin.clear_, run_underlying ht, hv, hvs, hst]

theorem below_setCells' {B b : Nat} {a : World} (hb : B ≤ b) : ∀ (vs : List Value) (o : Nat) (w : World), Below B a w → Below B a (w.setCells b o vs)
  | [], _, _, h => h
  | v :: r, o, w, h => below_setCells' hb r (o + 1) _ (h.setCell (by exact hb) v)

theorem ownsRow_setCells {base : Nat} {e : TypeId} {size : Nat} {g n cap : Nat} (m : Nat) : ∀ (vs : List Value) (o : Nat) (w : World) (L : List Value), m ≤ o → w.ownsRow base e size (.slice (some ⟨g, 0, none⟩) n cap) n L →
    ∃ L', (w.setCells g o vs).ownsRow base e size (.slice (some ⟨g, 0, none⟩) n cap) n L' ∧ L'.take m = L.take m
  | [], _, _, L, _, h => ⟨L, h, rfl⟩
  | v :: r, o, w, L, ho, h => by
    obtain ⟨L', h1, h2⟩ := ownsRow_setCells m r (o + 1) _ _ (by omega) (World.ownsRow.stored h o v).1
    refine ⟨L', h1, h2.trans ?_⟩
    rw [List.take_set_of_le ho]

theorem ownsRow_cut {base : Nat} {e : TypeId} {size : Nat} {w : World} {g n cap : Nat} {L : List Value} (h : w.ownsRow base e size (.slice (some ⟨g, 0, none⟩) n cap) n L) (m : Nat) (hm : m ≤ n) :
    w.ownsRow base e size (.slice (some ⟨g, 0, none⟩) m cap) m (L.take (m * size)) := by
  have hms : m * size ≤ n * size := Nat.mul_le_mul_right _ hm
  refine ⟨by rw [List.length_take, h.1]; omega, .inr ?_⟩
  rcases h.2 with ⟨h0, _⟩ | ⟨g', cap', cur, h0, hb, hg, hnc, hcm, hcs, htake⟩
  · simp at h0
  · simp only [Value.slice.injEq, Option.some.injEq, Addr.mk.injEq, and_true, true_and] at h0
    obtain ⟨rfl, rfl⟩ := h0
    exact ⟨g, cap, cur, rfl, hb, hg, by omega, hcm, hcs, by rw [← htake, List.take_take, Nat.min_eq_left hms]⟩

theorem flat_take {α : Type} (enc : α → List Value) (k : Nat) (hk : ∀ x, (enc x).length = k) : ∀ (xs : List α) (m : Nat), m ≤ xs.length → (xs.flatMap enc).take (m * k) = (xs.take m).flatMap enc
  | [], m, hm => by simp
  | x :: r, 0, _ => by simp
  | x :: r, m + 1, hm => by
    simp only [List.take_succ_cons, List.flatMap_cons]
    rw [show (m + 1) * k = k + m * k from by rw [Nat.add_mul]; omega, List.take_append, hk]
    rw [List.take_of_length_le (by rw [hk]; omega), show k + m * k - k = m * k from by omega, flat_take enc k hk r m (by simpa using hm)]

/-- The row behind 'clear(s[m:])', cut to its first m elements. -/
theorem Own.cleared {α : Type} {base : Nat} {e : TypeId} {enc : α → List Value} {k : Nat} (hk : ∀ x, (enc x).length = k) {w : World} {g n cap : Nat} {xs : List α} (h : Own base e enc k w (.slice (some ⟨g, 0, none⟩) n cap) xs) (m : Nat) (hm : m ≤ xs.length) (vs : List Value) :
    Own base e enc k (w.setCells g (m * k) vs) (.slice (some ⟨g, 0, none⟩) m cap) (xs.take m) := by
  obtain ⟨a, c, e'⟩ := h.isSlice
  simp only [Value.slice.injEq] at e'
  obtain ⟨_, rfl, _⟩ := e'
  obtain ⟨L', h1, h2⟩ := ownsRow_setCells (m * k) vs (m * k) w _ (Nat.le_refl _) h
  have h3 := ownsRow_cut h1 m hm
  unfold Own
  rw [h2, flat_take enc k hk xs m hm] at h3
  rw [List.length_take, Nat.min_eq_left hm]
  exact h3

theorem idxFrom_none {α : Type} {p : α → Bool} : ∀ {xs : List α} {i : Nat}, idxFrom p xs i = -1 → xs.filter (fun x => !p x) = xs
  | [], _, _ => rfl
  | x :: r, i, h => by
    cases hp : p x
    · simp only [idxFrom, hp, Bool.false_eq_true, if_false] at h
      rw [List.filter_cons, hp]
      simp [idxFrom_none h]
    · simp only [idxFrom, hp, if_true] at h
      omega
theorem idxFrom_some {α : Type} {p : α → Bool} : ∀ (xs : List α) (i : Nat), idxFrom p xs i = -1 ∨ ∃ m, idxFrom p xs i = ((i + m : Nat) : Int) ∧ m < xs.length ∧ (xs.take m).filter (fun x => !p x) = xs.take m ∧ ∀ h : m < xs.length, p xs[m] = true
  | [], _ => .inl rfl
  | x :: r, i => by
    cases hp : p x
    · rcases idxFrom_some (p := p) r (i + 1) with h | ⟨m, h1, h2, h3, h4⟩
      · left; simp [idxFrom, hp, h]
      · refine .inr ⟨m + 1, ?_, by simp; omega, ?_, fun h => ?_⟩
        · simp only [idxFrom, hp, Bool.false_eq_true, if_false, h1]; congr 1; omega
        · simp [List.filter_cons, hp, h3]
        · simpa using h4 h2
    · exact .inr ⟨0, by simp [idxFrom, hp], by simp, by simp, fun _ => by simpa using hp⟩

set_option maxHeartbeats 1000000 in
theorem indexEv (g : Nat) (lb : Array Value) (eg : ∀ args w, (callFunc g args).run Try.prog w = .ok (.enter g args) w) (p : Ev → Bool) (xs : List Ev) (v : Value) (w : World)
    (hv : IsEvs w v xs) (hp : PredOn Try.prog g lb vEv p xs w) :
    Calls Try.prog 58 #[v, .func (.func g) #[] lb] w fun e w' => e = .returned (.int .i64 (idxFrom p xs 0)) ∧ Below w.heap.size w w' := by
  obtain ⟨a, cap, rfl, hcap, hbig, hs⟩ := hv
  go_enter Try.func58, Try.ntmps58
  go_wp2
  go_loopw [5, 8] (fun _ s8 wr => ∃ k : Nat, k ≤ xs.length ∧ s8 = .int .i64 k ∧ Below w.heap.size w wr ∧ Hid (idxFrom p xs 0 = idxFrom p (xs.drop k) k)) (fun _ i _ => xs.length - (intOf i).toNat)
  case atStart => exact ⟨0, Nat.zero_le _, rfl, Below.refl _ _, rfl⟩
  case round =>
    obtain ⟨k, hk, rfl, hb, hm⟩ := hrel
    by_cases hlt : k < xs.length
    · obtain ⟨b, off, rfl, c0, c1, c2, c3⟩ := (hs.mono hb).ev k hlt
      have hx := hp wr hb xs[k] (List.getElem_mem hlt)
      have hstep : Hid (idxFrom p (xs.drop k) k = if p xs[k] then (k : Int) else idxFrom p (xs.drop (k + 1)) (k + 1)) := by
        rw [List.drop_eq_getElem_cons hlt]; rfl
      clear hs hp
      generalize xs[k] = y at *
      cases hpy : p y
      all_goals
        rw [hpy] at hx hstep
        clear hpy
        go_wp2_with fail
        refine (Calls.to hx ?_)
        rintro e w1 rfl hb1
        have hbb := hb.trans (hb1.mono hb.size)
        go_wp2_with fail
      · go_roundw
        case rel => exact ⟨k + 1, by omega, by go_num, by repeat' (first | exact Below.refl _ _ | assumption | refine Below.more ?_ ?_ _ | refine Below.alloc ?_ ?_ _ | refine Below.drew ?_ | refine below_drewN ?_ _ | refine Below.setCell ?_ ?_ _ | exact Below.size (by assumption) | (simp [go_sem, size_more]; done) | (simp [go_sem, size_more]; omega)), hm.out.trans (hstep.out.trans (by simp))⟩
        case measure => simp [intOf]; omega
      · go_ret
        exact ⟨ret_int (hm.out.trans (hstep.out.trans (by simp))).symm, by repeat' (first | exact Below.refl _ _ | assumption | refine Below.more ?_ ?_ _ | refine Below.alloc ?_ ?_ _ | refine Below.drew ?_ | refine below_drewN ?_ _ | refine Below.setCell ?_ ?_ _ | exact Below.size (by assumption) | (simp [go_sem, size_more]; done) | (simp [go_sem, size_more]; omega))⟩
    · go_wp2
      go_ret
      refine ⟨ret_int ?_, by repeat' (first | exact Below.refl _ _ | assumption | refine Below.more ?_ ?_ _ | refine Below.alloc ?_ ?_ _ | refine Below.drew ?_ | refine below_drewN ?_ _ | refine Below.setCell ?_ ?_ _ | exact Below.size (by assumption) | (simp [go_sem, size_more]; done) | (simp [go_sem, size_more]; omega))⟩
      rw [hm.out, List.drop_eq_nil_of_le (by omega)]; rfl


end Go.Proofs.Ytdlaghjijfgncaa
