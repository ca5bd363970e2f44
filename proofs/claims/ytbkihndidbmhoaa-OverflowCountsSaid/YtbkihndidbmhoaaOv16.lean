/- The reference's Worst: insertion by hand. Conditions: none. -/
import Derived.Test.YtbkihndidbmhoaaOv15
import Derived.Test.YtbkihndidbmhoaaRnk
namespace Go.Proofs.Ytbkihndidbmhoaa
open Go.RowKit
set_option linter.unusedVariables false
set_option linter.unusedSimpArgs false

/-- The insertion's result is in order. -/
theorem worst_insert (A : List Ev) (i j : Nat) (S : List Int) (hS : SortedOf (wR A) (iota i) S) (hj : j ≤ S.length) (h1 : ∀ x ∈ S.drop j, totalAt A x < totalAt A i) (h2 : ∀ h : 0 < j, ¬ totalAt A (S[j - 1]'(by omega)) < totalAt A i) :
    SortedOf (wR A) (iota (i + 1)) (S.take j ++ (i : Int) :: S.drop j) := by
  have hmem : ∀ x ∈ S, 0 ≤ x ∧ x < i := fun x hx => (iota_mem i x).1 (hS.1.mem_iff.1 hx)
  constructor
  · rw [iota_succ]
    have e : (S.take j ++ (i : Int) :: S.drop j).Perm ((i : Int) :: S) := by
      have := List.perm_middle (a := (i : Int)) (l₁ := S.take j) (l₂ := S.drop j)
      rw [List.take_append_drop] at this
      exact this
    refine e.trans ?_
    refine (List.Perm.cons _ hS.1).trans ?_
    exact (List.perm_append_singleton (i : Int) (iota i)).symm
  · have hp := hS.2
    rw [← List.take_append_drop j S, List.pairwise_append] at hp
    obtain ⟨p1, p2, p3⟩ := hp
    rw [List.pairwise_append]
    refine ⟨p1, List.pairwise_cons.2 ⟨fun y hy => .inl (h1 y hy), p2⟩, ?_⟩
    intro x hx y hy
    have hxi : wR A x i := by
      have hj0 : 0 < j := by
        apply Nat.pos_of_ne_zero; intro h
        subst h; simp at hx
      have hlast := h2 hj0
      have hxm := hmem x (List.mem_of_mem_take hx)
      obtain ⟨q, hq, rfl⟩ := List.mem_iff_getElem.1 hx
      simp only [List.length_take] at hq
      rw [List.getElem_take] at hxm ⊢
      by_cases hqj : q = j - 1
      · subst hqj
        unfold wR
        rcases Int.lt_trichotomy (totalAt A (i : Int)) (totalAt A (S[j - 1]'(by omega))) with h | h | h
        · exact .inl h
        · exact .inr ⟨h.symm, hxm.2⟩
        · exact absurd h hlast
      · have hw := List.pairwise_iff_getElem.1 hS.2 q (j - 1) (by omega) (by omega) (by omega)
        unfold wR at hw ⊢
        rcases hw with hw | ⟨hw, _⟩
        · exact .inl (by omega)
        · rcases Int.lt_trichotomy (totalAt A (i : Int)) (totalAt A S[q]) with h | h | h
          · exact .inl h
          · exact .inr ⟨h.symm, hxm.2⟩
          · exact absurd (by rw [← hw]; exact h) hlast
    rcases List.mem_cons.1 hy with rfl | hy
    · exact hxi
    · exact wR_trans A _ _ _ hxi (.inl (h1 y hy))

/-- The list while the gap moves down. -/
def gapAt (S : List Int) (j : Nat) (z : Int) : List Int := S.take j ++ z :: S.drop j
theorem gapAt_len (S : List Int) (j : Nat) (z : Int) (h : j ≤ S.length) : (gapAt S j z).length = S.length + 1 := by simp [gapAt]; omega
theorem gapAt_get (S : List Int) (j : Nat) (z : Int) (h : j ≤ S.length) (h0 : 0 < j) : (gapAt S j z)[j - 1]'(by rw [gapAt_len S j z h]; omega) = S[j - 1]'(by omega) := by
  unfold gapAt
  rw [List.getElem_append_left (by simp; omega), List.getElem_take]
theorem gapAt_step (S : List Int) (j : Nat) (z : Int) (h : j ≤ S.length) (h0 : 0 < j) : (gapAt S j z).set j (S[j - 1]'(by omega)) = gapAt S (j - 1) (S[j - 1]'(by omega)) := by
  unfold gapAt
  have e1 : (S.take j).length = j := by simp; omega
  rw [List.set_append_right _ _ (by omega), e1, Nat.sub_self, List.set_cons_zero]
  have e2 : S.take j = S.take (j - 1) ++ [S[j - 1]'(by omega)] := by
    have := List.take_add_one (l := S) (i := j - 1)
    rw [show j - 1 + 1 = j by omega, List.getElem?_eq_getElem (by omega)] at this
    simpa using this
  have e3 : S.drop (j - 1) = (S[j - 1]'(by omega)) :: S.drop j := by
    have := List.drop_eq_getElem_cons (l := S) (i := j - 1) (by omega)
    rw [show j - 1 + 1 = j by omega] at this
    exact this
  rw [e2, e3, List.append_assoc]; rfl
theorem gapAt_at (S : List Int) (j : Nat) (z : Int) (h : j ≤ S.length) : (gapAt S j z)[j]'(by rw [gapAt_len S j z h]; omega) = z := by
  unfold gapAt
  have e1 : (S.take j).length = j := by simp; omega
  rw [List.getElem_append_right (by omega)]
  simp [e1]
theorem eInt_len (x : Int) : (eInt x).length = 1 := rfl
theorem gapAt_set (S : List Int) (j : Nat) (z u : Int) (h : j ≤ S.length) : (gapAt S j z).set j u = gapAt S j u := by
  unfold gapAt
  have e1 : (S.take j).length = j := by simp; omega
  rw [List.set_append_right _ _ (by omega), e1, Nat.sub_self, List.set_cons_zero]

set_option maxRecDepth 100000 in
set_option maxHeartbeats 8000000 in
theorem rworst_any (l : List Ev) (v : Value) (k : Int) (w : World) (hv : IsEvs w v l) :
    Calls Try.prog 31 #[v, .int .i64 k] w fun e w' => (∃ v' code, e = .returned (.tuple #[v', .int .i64 code]) ∧ WorstOut l k w' v' code) ∧ Below w.heap.size w w' := by
  obtain ⟨a, cap, rfl, hcap, hbig, hs⟩ := hv
  have hv0 : IsEvs w (.slice a l.length cap) l := ⟨a, cap, rfl, hcap, hbig, hs⟩
  cases hr : rightM l
  · have HR := Lib.hid hr
    clear hr
    go_enter Try.func31, Try.ntmps31
    go_wp2_with fail
    refine Calls.to (rright_any l _ _ hv0) ?_
    rintro e w1 rfl hb1
    rw [HR.out]
    go_wp2_with fail
    go_ret2
    exact ⟨⟨_, _, rfl, .inl ⟨HR.out, rfl, rfl⟩⟩, hb1⟩
  · have HR := Lib.hid hr
    have hl : l.length ≤ 10000 := by
      unfold rightM at hr
      split at hr
      · cases hr
      · omega
    clear hr
    by_cases hk : k < 0
    · have HK := Lib.hid hk
      go_enter Try.func31, Try.ntmps31
      go_wp2_with fail
      refine Calls.to (rright_any l _ _ hv0) ?_
      rintro e w1 rfl hb1
      rw [HR.out]
      go_wp2_with fail
      go_ret2
      exact ⟨⟨_, _, rfl, .inr (.inl ⟨HR.out, HK.out, rfl, rfl⟩)⟩, hb1⟩
    · go_enter Try.func31, Try.ntmps31
      go_wp2_with fail
      refine Calls.to (rright_any l _ _ hv0) ?_
      rintro e w1 rfl hb1
      rw [HR.out]
      have hs1 := hs.mono hb1
      clear hs hv0
      go_wp2_with fail
      go_loopw [6, 7] (fun s6 s7 wr => ∃ (i : Nat) (S : List Int), i ≤ l.length ∧ s7 = .int .i64 i ∧ Own w1.heap.size 3 eInt 1 wr s6 S ∧ Below w1.heap.size w1 wr ∧ Hid (S.length = i) ∧ Hid (SortedOf (wR l) (iota i) S)) (fun _ i _ => l.length - (intOf i).toNat)
      case atStart => exact ⟨0, [], Nat.zero_le _, rfl, World.ownsRow_nil _ _ _ _, Below.refl _ _, rfl, by show SortedOf _ _ _; exact ⟨by simp [iota], List.Pairwise.nil⟩⟩
      case round =>
        as_aux_lemma =>
        obtain ⟨i, S, hi, rfl, hown, hb, hSl, hSS⟩ := hrel
        have hsz := hb.size
        by_cases hlt : i < l.length
        · have hlo : S.length < 2147483648 := by have := hSl.out; omega
          obtain ⟨a6, c6, rfl⟩ := hown.isSlice
          have hSle : S.length ≤ 10000 := by have := hSl.out; omega
          go_wp2_with (at_builtin; go_must (refine wpList_push rfl _ _ 22 rfl 3 _ 1 8 undInts infInt rfl (by decide) (i : Int) (fun _ => rfl) (by simp [Value.oneCell']) _ S rfl hown rfl hlo (by decide) hb.size _ rfl ?_); intro g cap2 w2 hown2 hbg hgl hb2 hc1 hc2)
          have hbb2 := hb.trans hb2
          have hown3 : Own w1.heap.size 3 eInt 1 w2 (.slice (some ⟨g, 0, none⟩) (S.length + 1) cap2) (gapAt S S.length i) := by
            have e : gapAt S S.length i = S ++ [(i : Int)] := by simp [gapAt]
            rw [e]; exact hown2
          clear hown2 hown hb hb2
          have HTI : Hid (totalAt l i = l[i].Total) := totalAt_eq l i hlt
          have hmemS : ∀ x ∈ S, 0 ≤ x ∧ x < l.length := by
            intro x hx
            have := (iota_mem i x).1 (hSS.out.1.mem_iff.1 hx)
            omega
          have HMS := Lib.hid hmemS
          clear hmemS
          go_wp2_with fail
          go_loopw [8] (fun s8 wr => ∃ (j : Nat) (z : Int), j ≤ S.length ∧ s8 = .int .i64 j ∧ Own w1.heap.size 3 eInt 1 wr (.slice (some ⟨g, 0, none⟩) (S.length + 1) cap2) (gapAt S j z) ∧ Below w1.heap.size w1 wr ∧ g < wr.heap.size ∧ Hid (∀ x ∈ S.drop j, totalAt l x < totalAt l i)) (fun j _ => (intOf j).toNat)
          case atStart => exact ⟨S.length, i, Nat.le_refl _, rfl, hown3, hbb2, hgl, by intro x hx; simp at hx⟩
          case round =>
            as_aux_lemma =>
            obtain ⟨j, z, hj, rfl, hown, hb, hgw, hd⟩ := hrel
            have hsz := hb.size
            have hjS : j < S.length + 1 := by omega
            obtain ⟨bL, offL, rfl, d1, d2, d3, d4⟩ := (hs1.mono hb).ev i hlt
            have fj := hown.free j
            have cjj := hown.cellAt' eInt_len j 0 (by rw [gapAt_len S j z hj]; omega) (by omega)
            rw [gapAt_at S j z hj] at cjj
            simp at cjj
            have hown' := Lib.hid hown
            by_cases hj0 : 0 < j
            · have g1 : decide (0 < j) = true := by simp <;> omega
              have g2 : decide ((0 : Int) < j) = true := by simp <;> omega
              have hjl : j - 1 < S.length := by omega
              have cj := hown.cellAt' eInt_len (j - 1) 0 (by rw [gapAt_len S j z hj]; omega) (by omega)
              rw [gapAt_get S j z hj hj0] at cj
              obtain ⟨pm0, pm1⟩ := HMS.out _ (List.getElem_mem hjl)
              obtain ⟨p, hp⟩ : ∃ p : Nat, S[j - 1] = p := ⟨S[j - 1].toNat, by omega⟩
              have hpl : p < l.length := by omega
              have HTP : Hid (totalAt l S[j - 1] = l[p].Total) := by show _ = _; rw [hp, totalAt_eq l p hpl]
              have HP := Lib.hid hp
              rw [hp] at cj
              simp at cj
              have cp := (hs1.mono hb).evTotal p hpl
              clear hp pm0 pm1
              generalize l[i].Total = ti at *
              generalize l[p].Total = tp at *
              by_cases ht : tp < ti
              · have k1 : decide (tp < ti) = true := by simpa using ht
                have HD2 : Hid (∀ x ∈ S.drop (j - 1), totalAt l x < totalAt l i) := by
                  show ∀ x ∈ S.drop (j - 1), totalAt l x < totalAt l i
                  intro x hx
                  rw [List.drop_eq_getElem_cons (show j - 1 < S.length by omega), show j - 1 + 1 = j by omega] at hx
                  rcases List.mem_cons.1 hx with rfl | hx
                  · rw [HTP.out, HTI.out]; exact ht
                  · exact hd.out x hx
                clear ht
                go_wp2_with fail
                have w1' : IntKind.i64.wrap ((j : Int) - 1) = (j : Int) - 1 := IntWalk.i64_in _ (by omega)
                have w2' : ((j : Int) - 1).toNat = j - 1 := by omega
                have w3' : 0 ≤ (j : Int) - 1 := by omega
                have w4' : (j : Int) - 1 < S.length + 1 := by omega
                go_quiet (fail)
                clear w1' w2' w3' w4'
                go_wp2_with fail
                go_roundw
                case measure => simp [intOf]; omega
                case rel =>
                  refine ⟨j - 1, S[j - 1], by omega, by rw [show ((j - 1 : Nat) : Int) = (j : Int) - 1 from by omega], ?_, by repeat' (first | exact Below.refl _ _ | assumption | refine Below.more ?_ ?_ _ | refine Below.alloc ?_ ?_ _ | refine Below.drew ?_ | refine below_drewN ?_ _ | refine Below.setCell ?_ ?_ _ | exact Below.size (by assumption) | (simp [go_sem, size_more]; done) | (simp [go_sem, size_more]; omega)), by simp; omega, HD2.out⟩
                  have h1 := (hown'.out.below (below_drewN (Below.refl _ _) nq)).store eInt_len j 0 (by rw [gapAt_len S j z hj]; omega) (by omega) (.int .i64 p) (S[j - 1]) (by rw [HP.out]; simp)
                  rw [gapAt_step S j z hj hj0] at h1
                  simpa using h1
              · have k1 : decide (tp < ti) = false := by simpa using ht
                have HSI : Hid (SortedOf (wR l) (iota (i + 1)) (gapAt S j i)) := worst_insert l i j S hSS.out hj hd.out (fun h => by rw [HTP.out, HTI.out]; exact ht)
                clear ht
                go_wp2_with fail
                have w1' : IntKind.i64.wrap ((j : Int) - 1) = (j : Int) - 1 := IntWalk.i64_in _ (by omega)
                have w2' : ((j : Int) - 1).toNat = j - 1 := by omega
                have w3' : 0 ≤ (j : Int) - 1 := by omega
                have w4' : (j : Int) - 1 < S.length + 1 := by omega
                go_quiet (fail)
                clear w1' w2' w3' w4'
                go_wp2_with fail
                go_roundw
                case measure => simp [intOf]; omega
                case rel =>
                  refine ⟨i + 1, gapAt S j i, by omega, by go_num, ?_, by repeat' (first | exact Below.refl _ _ | assumption | refine Below.more ?_ ?_ _ | refine Below.alloc ?_ ?_ _ | refine Below.drew ?_ | refine below_drewN ?_ _ | refine Below.setCell ?_ ?_ _ | exact Below.size (by assumption) | (simp [go_sem, size_more]; done) | (simp [go_sem, size_more]; omega)), ?_, HSI.out⟩
                  · have h1 := (hown'.out.below (below_drewN (Below.refl _ _) nq)).store eInt_len j 0 (by rw [gapAt_len S j z hj]; omega) (by omega) (.int .i64 i) (i : Int) (by simp)
                    rw [gapAt_set S j z i hj] at h1
                    simpa using h1
                  · show _ = _
                    rw [gapAt_len S j i hj, hSl.out]
            · have g1 : decide (0 < j) = false := by simp <;> omega
              have g2 : decide ((0 : Int) < j) = false := by simp <;> omega
              have HSI : Hid (SortedOf (wR l) (iota (i + 1)) (gapAt S j i)) := worst_insert l i j S hSS.out hj hd.out (fun h => absurd h hj0)
              go_wp2_with fail
              go_quiet (fail)
              go_wp2_with fail
              go_roundw
              case measure => simp [intOf]; omega
              case rel =>
                refine ⟨i + 1, gapAt S j i, by omega, by go_num, ?_, by repeat' (first | exact Below.refl _ _ | assumption | refine Below.more ?_ ?_ _ | refine Below.alloc ?_ ?_ _ | refine Below.drew ?_ | refine below_drewN ?_ _ | refine Below.setCell ?_ ?_ _ | exact Below.size (by assumption) | (simp [go_sem, size_more]; done) | (simp [go_sem, size_more]; omega)), ?_, HSI.out⟩
                · have h1 := (hown'.out.below (below_drewN (Below.refl _ _) nq)).store eInt_len j 0 (by rw [gapAt_len S j z hj]; omega) (by omega) (.int .i64 i) (i : Int) (by simp)
                  rw [gapAt_set S j z i hj] at h1
                  simpa using h1
                · show _ = _
                  rw [gapAt_len S j i hj, hSl.out]
        · obtain ⟨a6, c6, rfl⟩ := hown.isSlice
          have hil : Hid (i = l.length) := by show _ = _; omega
          have hI : IsInts wr (.slice a6 S.length c6) S := hown.isL (fun _ => rfl)
          have hbb := hb1.trans (hb.mono hb1.size)
          have hSS2 : Hid (SortedOf (wR l) (iota l.length) S) := by show SortedOf _ _ _; rw [← hil.out]; exact hSS.out
          obtain ⟨n, rfl⟩ : ∃ n : Nat, k = n := ⟨k.toNat, by omega⟩
          by_cases hkl : n < S.length
          · obtain ⟨aT, cT, qT, qT1, qT2, hrunT⟩ := sub_h undInts' szInt hI n n rfl (by omega)
            have hIT : IsInts wr (.slice aT (S.take n).length cT) (S.take n) := ⟨aT, cT, rfl, qT1, qT2, qT⟩
            generalize hT : S.take n = T at *
            have HT := Lib.hid hT
            clear hT
            go_wp2_with fail
            go_ret2
            exact ⟨⟨_, _, rfl, .inr (.inr ⟨HR.out, by omega, rfl, S, hSS2.out, by rw [Int.toNat_natCast, HT.out]; exact hIT⟩)⟩, hbb⟩
          · go_wp2_with fail
            go_ret2
            exact ⟨⟨_, _, rfl, .inr (.inr ⟨HR.out, by omega, rfl, S, hSS2.out, by rw [Int.toNat_natCast, List.take_of_length_le (by omega)]; exact hI⟩)⟩, hbb⟩

end Go.Proofs.Ytbkihndidbmhoaa
