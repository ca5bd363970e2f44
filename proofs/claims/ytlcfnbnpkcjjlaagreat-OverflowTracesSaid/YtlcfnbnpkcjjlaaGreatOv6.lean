/- The chapter's examples hold: awake returns true. Conditions: none. -/
import Derived.Test.YtlcfnbnpkcjjlaaGreatOv5
import Derived.Deep.DeepMust
namespace Go.Proofs.YtlcfnbnpkcjjlaaGreat
open Go.RowKit
set_option linter.unusedVariables false
set_option linter.unusedSimpArgs false

set_option maxHeartbeats 1000000 in
theorem eqInts (xs ys : List Int) (v v2 : Value) (w : World) (hv : IsInts w v xs) (hv2 : IsInts w v2 ys) :
    Calls Tryz.prog 18 #[v, v2] w fun e w' => e = .returned (.bool (decide (xs = ys))) ∧ Below w.heap.size w w' := by
  obtain ⟨a, cap, rfl, hcap, hbig, hs⟩ := hv
  obtain ⟨a2, cap2, rfl, hcap2, hbig2, hs2⟩ := hv2
  by_cases hl : xs.length = ys.length
  · rw [← eqGo_iff xs ys hl]
    have Hl : Hid (xs.length = ys.length) := hl
    rw [← hl]
    clear hl
    go_enter Tryz.func18, Tryz.ntmps18
    go_wp2_with fail
    go_loopw [13] (fun s6 wr => ∃ k : Nat, k ≤ xs.length ∧ s6 = .int .i64 k ∧ Below w.heap.size w wr ∧ Hid (eqGo xs ys = eqGo (xs.drop k) (ys.drop k))) (fun i _ => xs.length - (intOf i).toNat)
    case atStart => exact ⟨0, Nat.zero_le _, rfl, Below.refl _ _, rfl⟩
    case round =>
      obtain ⟨k, hk, rfl, hb, hm⟩ := hrel
      by_cases hlt : k < xs.length
      · have hlt2 : k < ys.length := by have := Hl.out; omega
        obtain ⟨b, off, rfl, c1⟩ := (hs.mono hb).int k hlt
        obtain ⟨b', off', rfl, d1⟩ := (hs2.mono hb).int k hlt2
        have hstep : Hid (eqGo (xs.drop k) (ys.drop k) = (decide (xs[k] = ys[k]) && eqGo (xs.drop (k + 1)) (ys.drop (k + 1)))) := by
          rw [List.drop_eq_getElem_cons hlt, List.drop_eq_getElem_cons hlt2]; rfl
        clear hs hs2
        generalize xs[k] = x at *
        generalize ys[k] = y at *
        have i1 : (0 : Int) ≤ k := by omega
        have i2 : (k : Int) < xs.length := by omega
        by_cases hxy : x = y
        · subst hxy
          have hne : (x != x) = false := by simp
          go_wp2_with fail
          go_quiet (fail)
          go_wp2_with fail
          go_roundw
          case rel => exact ⟨k + 1, by omega, by go_num, by repeat' (first | exact Below.refl _ _ | assumption | refine Below.more ?_ ?_ _ | refine Below.alloc ?_ ?_ _ | refine Below.drew ?_ | refine below_drewN ?_ _ | refine Below.setCell ?_ ?_ _ | exact Below.size (by assumption) | (simp [go_sem, size_more]; done) | (simp [go_sem, size_more]; omega)), hm.out.trans (hstep.out.trans (by simp))⟩
          case measure => simp [intOf]; omega
        · have hne : (x != y) = true := by rw [bne_iff_ne]; exact hxy
          go_wp2_with fail
          go_quiet (fail)
          go_wp2_with fail
          go_ret
          exact ⟨ret_bool (hm.out.trans (hstep.out.trans (by simp [hxy]))).symm, by repeat' (first | exact Below.refl _ _ | assumption | refine Below.more ?_ ?_ _ | refine Below.alloc ?_ ?_ _ | refine Below.drew ?_ | refine below_drewN ?_ _ | refine Below.setCell ?_ ?_ _ | exact Below.size (by assumption) | (simp [go_sem, size_more]; done) | (simp [go_sem, size_more]; omega))⟩
      · go_wp2_with fail
        go_ret
        refine ⟨ret_bool ?_, hb⟩
        rw [hm.out, List.drop_eq_nil_of_le (by omega)]; rfl
  · have hd : decide (xs = ys) = false := by
      simp; intro h; exact hl (by rw [h])
    rw [hd]
    clear hd
    have hlb : ((xs.length : Int) != ys.length) = true := by rw [bne_iff_ne]; omega
    go_enter Tryz.func18, Tryz.ntmps18
    go_wp2_with fail
    go_ret
    exact ⟨rfl, Below.refl _ _⟩

/-- A slice written out: its cells lie in one new block. -/
theorem isL_lit {α : Type} (enc : α → List Value) (k : Nat) (hk : ∀ x, (enc x).length = k) (w : World) (b : Nat) (e : TypeId) (cs : Array Value) (xs : List α) (n cap : Nat) (hb : w.heap[b]? = some (.cells cs e (0, 0))) (hn : n = xs.length) (hcs : cs.toList = xs.flatMap enc) (hc : xs.length ≤ cap) (hc2 : cap ≤ 9223372036854775807) :
    IsL enc k w (.slice (some ⟨b, 0, none⟩) n cap) xs := by
  refine ⟨some ⟨b, 0, none⟩, cap, by rw [hn], hc, hc2, fun i hi => ⟨b, 0, rfl, fun j hj => ?_⟩⟩
  have h1 := flat_get enc k hk xs i j hi hj
  rw [← hcs] at h1
  simp only [World.cell?, hb, Nat.zero_add]
  simpa using h1

theorem sorted_unique {R : Int → Int → Prop} (ha : ∀ x y, R x y → ¬ R y x) : ∀ (S1 S2 : List Int), S1.Perm S2 → S1.Pairwise R → S2.Pairwise R → S1 = S2
  | [], S2, hp, _, _ => (List.nil_perm.1 hp).symm
  | x :: S1, [], hp, _, _ => by have := hp.length_eq; simp at this
  | x :: S1, y :: S2, hp, h1, h2 => by
    rw [List.pairwise_cons] at h1 h2
    have hxy : x = y := by
      have hx : x ∈ y :: S2 := hp.mem_iff.1 (by simp)
      have hy : y ∈ x :: S1 := hp.mem_iff.2 (by simp)
      rcases List.mem_cons.1 hx with h | h
      · exact h
      · rcases List.mem_cons.1 hy with h' | h'
        · exact h'.symm
        · exact absurd (h1.1 y h') (ha _ _ (h2.1 x h))
    subst hxy
    rw [sorted_unique ha S1 S2 (List.Perm.cons_inv hp) h1.2 h2.2]

theorem wR_asymm (l : List Ev) : ∀ x y, wR l x y → ¬ wR l y x := by
  intro x y h1 h2
  unfold wR at *
  rcases h1 with h1 | ⟨h1, h1'⟩ <;> rcases h2 with h2 | ⟨h2, h2'⟩ <;> omega

def ex1 : List Ev := [⟨1, 2, 3, 3⟩, ⟨3, 4, 2, 2⟩, ⟨6, 7, 5, 5⟩]
def ex2 : List Ev := [⟨1, 4, 5, 3⟩, ⟨6, 7, 5, 5⟩]
theorem ex1_is : spillsM [0, 3, 0, 2, 0, 0, 5] 1 = (ex1, 0) := by decide +kernel
theorem ex2_is : spillsM [0, 3, 0, 2, 0, 0, 5] 2 = (ex2, 0) := by decide +kernel
theorem ex1_right : rightM ex1 = true := by decide +kernel
theorem ex1_worst (S : List Int) (h : SortedOf (wR ex1) (iota ex1.length) S) : S = [2, 0, 1] := by
  have e : iota ex1.length = [0, 1, 2] := by decide
  rw [e] at h
  refine sorted_unique (wR_asymm ex1) S [2, 0, 1] (h.1.trans ?_) h.2 ?_
  · decide
  · simp [wR, totalAt, ex1]

set_option maxRecDepth 100000 in
set_option maxHeartbeats 2000000 in
theorem awake_any (w : World) : Calls Tryz.prog 4 #[] w fun e w' => e = .returned (.bool true) ∧ Below w.heap.size w w' := by
  go_enter Tryz.func4, Tryz.ntmps4
  go_wp2_with fail
  have hl := isL_lit eInt 1 (fun _ => rfl) (w.alloc (.cells #[.int .i64 0, .int .i64 3, .int .i64 0, .int .i64 2, .int .i64 0, .int .i64 0, .int .i64 5] 3)) w.heap.size 3 _ [0, 3, 0, 2, 0, 0, 5] 7 7 (heap_alloc_new w _) rfl rfl (by decide) (by decide)
  have hb0 : Below w.heap.size w (w.alloc (.cells #[.int .i64 0, .int .i64 3, .int .i64 0, .int .i64 2, .int .i64 0, .int .i64 0, .int .i64 5] 3)) := (Below.refl _ _).alloc (Nat.le_refl _) _
  refine Calls.to (spillsX_any [0, 3, 0, 2, 0, 0, 5] _ 1 _ hl) ?_
  rintro e w1 ⟨v1, rfl, hown1⟩ hb1
  rw [ex1_is] at hown1 ⊢
  have hs1 := hown1.isL eEv_len
  have hl1 := hl.mono hb1
  have hbb1 := hb0.trans (hb1.mono hb0.size)
  clear hown1
  go_wp2_with fail
  refine Calls.to (spillsX_any [0, 3, 0, 2, 0, 0, 5] _ 2 _ hl1) ?_
  rintro e w2 ⟨v2, rfl, hown2⟩ hb2
  rw [ex2_is] at hown2 ⊢
  have hs2 := hown2.isL eEv_len
  have hs1 := hs1.mono hb2
  have hbb2 := hbb1.trans (hb2.mono hbb1.size)
  clear hown2
  go_wp2_with fail
  refine Calls.to (worst_any ex1 _ 1 _ hs1) ?_
  rintro e w3 ⟨v3, code, rfl, hout⟩ hb3
  have hs1 := hs1.mono hb3
  have hs2 := hs2.mono hb3
  have hbb3 := hbb2.trans (hb3.mono hbb2.size)
  have hw3 : code = 0 ∧ IsInts w3 v3 [2] := by
    rcases hout with ⟨h, _⟩ | ⟨_, h, _⟩ | ⟨_, _, h, S, hS, hI⟩
    · rw [ex1_right] at h; cases h
    · omega
    · rw [ex1_worst S hS] at hI; exact ⟨h, hI⟩
  obtain ⟨rfl, hs3⟩ := hw3
  clear hout
  go_wp2_with fail
  have hq1 := isL_lit eEv 4 eEv_len (w3.alloc (.cells #[.int .i64 1, .int .i64 2, .int .i64 3, .int .i64 3, .int .i64 3, .int .i64 4, .int .i64 2, .int .i64 2, .int .i64 6, .int .i64 7, .int .i64 5, .int .i64 5] 59)) w3.heap.size 59 _ ex1 3 3 (heap_alloc_new w3 _) rfl rfl (by decide) (by decide)
  have hb3' : Below w3.heap.size w3 (w3.alloc (.cells #[.int .i64 1, .int .i64 2, .int .i64 3, .int .i64 3, .int .i64 3, .int .i64 4, .int .i64 2, .int .i64 2, .int .i64 6, .int .i64 7, .int .i64 5, .int .i64 5] 59)) := (Below.refl _ _).alloc (Nat.le_refl _) _
  refine Calls.to (eqEvs ex1 ex1 _ _ _ (hs1.mono hb3') hq1) ?_
  rintro e w4 rfl hb4
  have hb4' := hb3'.trans (hb4.mono hb3'.size)
  have hs2 := hs2.mono hb4'
  have hs3 := hs3.mono hb4'
  have hbb4 := hbb3.trans (hb4'.mono hbb3.size)
  rw [decide_eq_true (rfl : ex1 = ex1)]
  clear hq1 hb3' hb4 hs1 hb1 hb2 hb3
  go_wp2_with fail
  have hq2 := isL_lit eEv 4 eEv_len (w4.alloc (.cells #[.int .i64 1, .int .i64 4, .int .i64 5, .int .i64 3, .int .i64 6, .int .i64 7, .int .i64 5, .int .i64 5] 59)) w4.heap.size 59 _ ex2 2 2 (heap_alloc_new w4 _) rfl rfl (by decide) (by decide)
  have hb4'' : Below w4.heap.size w4 (w4.alloc (.cells #[.int .i64 1, .int .i64 4, .int .i64 5, .int .i64 3, .int .i64 6, .int .i64 7, .int .i64 5, .int .i64 5] 59)) := (Below.refl _ _).alloc (Nat.le_refl _) _
  refine Calls.to (eqEvs ex2 ex2 _ _ _ (hs2.mono hb4'') hq2) ?_
  rintro e w5 rfl hb5
  have hb5' := hb4''.trans (hb5.mono hb4''.size)
  have hs3 := hs3.mono hb5'
  have hbb5 := hbb4.trans (hb5'.mono hbb4.size)
  rw [decide_eq_true (rfl : ex2 = ex2)]
  clear hq2 hb4'' hb5 hs2 hb4'
  go_wp2_with fail
  have hq3 := isL_lit eInt 1 (fun _ => rfl) (w5.alloc (.cells #[.int .i64 2] 3)) w5.heap.size 3 _ [2] 1 1 (heap_alloc_new w5 _) rfl rfl (by decide) (by decide)
  have hb5'' : Below w5.heap.size w5 (w5.alloc (.cells #[.int .i64 2] 3)) := (Below.refl _ _).alloc (Nat.le_refl _) _
  refine Calls.to (eqInts [2] [2] _ _ _ (hs3.mono hb5'') hq3) ?_
  rintro e w6 rfl hb6
  have hb6' := hb5''.trans (hb6.mono hb5''.size)
  have hbb6 := hbb5.trans (hb6'.mono hbb5.size)
  rw [decide_eq_true (rfl : ([2] : List Int) = [2])]
  clear hq3
  go_wp2_with fail
  go_ret
  exact ⟨rfl, hbb6⟩

end Go.Proofs.YtlcfnbnpkcjjlaaGreat
