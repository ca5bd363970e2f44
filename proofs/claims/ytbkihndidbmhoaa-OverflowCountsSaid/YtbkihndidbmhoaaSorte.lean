/- slices.SortStableFunc at int, in whole: the row becomes a sorted permutation of what it was. Conditions: fewer than 2^31 elements; the row is the caller's own; the comparison reads only. -/
import Derived.Test.YtbkihndidbmhoaaSortd
namespace Go.Proofs.Ytbkihndidbmhoaa
open Go.RowKit
set_option linter.unusedVariables false
set_option linter.unusedSimpArgs false

/-- Block number k of bs elements. -/
def blk (D : List Int) (bs k : Nat) : List Int := (D.drop (k * bs)).take bs

theorem blk_same (P S L T : List Int) (bs k : Nat) (hS : S.length = L.length) (h : (k + 1) * bs ≤ P.length ∨ P.length + L.length ≤ k * bs) : blk (P ++ S ++ T) bs k = blk (P ++ L ++ T) bs k := by
  unfold blk
  rcases h with h | h
  · rw [Nat.add_mul] at h
    rw [List.append_assoc, List.append_assoc, List.drop_append_of_le_length (by omega), List.drop_append_of_le_length (by omega), List.take_append_of_le_length (by simp; omega), List.take_append_of_le_length (by simp; omega)]
  · have e1 : (P ++ S ++ T).drop (k * bs) = T.drop (k * bs - (P ++ S).length) := by rw [List.drop_append, List.drop_eq_nil_of_le (by simp; omega)]; simp
    have e2 : (P ++ L ++ T).drop (k * bs) = T.drop (k * bs - (P ++ L).length) := by rw [List.drop_append, List.drop_eq_nil_of_le (by simp; omega)]; simp
    rw [e1, e2]; simp [hS]

theorem blk_at (P S T : List Int) (bs k : Nat) (hk : k * bs = P.length) (h : S.length = bs ∨ (T = [] ∧ S.length ≤ bs)) : blk (P ++ S ++ T) bs k = S := by
  unfold blk
  rw [hk, List.append_assoc, List.drop_left]
  rcases h with h | ⟨rfl, h⟩
  · rw [← h, List.take_left]
  · simp; exact List.take_of_length_le h

theorem blk_two (xs : List Int) (bs j : Nat) : blk xs (2 * bs) j = blk xs bs (2 * j) ++ blk xs bs (2 * j + 1) := by
  unfold blk
  have e1 : j * (2 * bs) = 2 * j * bs := by rw [Nat.mul_comm j, Nat.mul_comm 2 bs, Nat.mul_assoc, Nat.mul_comm bs]
  have e2 : (2 * j + 1) * bs = 2 * j * bs + bs := by rw [Nat.add_mul, Nat.one_mul]
  rw [e1, e2, ← List.drop_drop, show 2 * bs = bs + bs from by omega, List.take_add]

theorem blk_mem_dec {c : Int → Int → Int} {R : Int → Int → Prop} {xs : List Int} (h : xs.Pairwise (Dec c R)) (bs j : Nat) : ∀ x ∈ blk xs bs j, ∀ y ∈ blk xs bs (j + 1), Dec c R x y := by
  intro x hx y hy
  unfold blk at hx hy
  rw [Nat.add_mul, Nat.one_mul, ← List.drop_drop] at hy
  have h1 : (xs.drop (j * bs)).Pairwise (Dec c R) := h.sublist (List.drop_sublist _ _)
  rw [← List.take_append_drop bs (xs.drop (j * bs)), List.pairwise_append] at h1
  exact h1.2.2 x hx y (List.mem_of_mem_take hy)

theorem blk_pw {c : Int → Int → Int} {R : Int → Int → Prop} {xs : List Int} (h : xs.Pairwise (Dec c R)) (bs j : Nat) : (blk xs bs j).Pairwise (Dec c R) :=
  h.sublist ((List.take_sublist _ _).trans (List.drop_sublist _ _))

theorem blk_sub (xs : List Int) (bs j : Nat) : ∀ x ∈ blk xs bs j, x ∈ xs := fun _ hx => List.mem_of_mem_drop (List.mem_of_mem_take hx)

theorem blk_len (xs : List Int) (bs j : Nat) : (blk xs bs j).length = min bs (xs.length - j * bs) := by simp [blk]

theorem sorted_trans {R : Int → Int → Prop} {A B A' B' S : List Int} (hA : SortedOf R A' A) (hB : SortedOf R B' B) (h : SortedOf R (A ++ B) S) : SortedOf R (A' ++ B') S := ⟨h.1.trans (hA.1.append hB.1), h.2⟩

theorem split_at (D : List Int) (a n : Nat) (h : a + n ≤ D.length) : D = D.take a ++ (D.drop a).take n ++ D.drop (a + n) := by
  rw [← List.drop_drop, List.append_assoc, List.take_append_drop, List.take_append_drop]

theorem ins_step {R : Int → Int → Prop} (xs D P L T S : List Int) (bs j : Nat) (hD : D = P ++ L ++ T) (hP : P.length = j * bs) (hL : L.length = bs ∨ (T = [] ∧ L.length ≤ bs)) (hx : blk xs bs j = L)
    (h1 : ∀ k, k < j → SortedOf R (blk xs bs k) (blk D bs k)) (hS : SortedOf R L S) : ∀ k, k < j + 1 → SortedOf R (blk xs bs k) (blk (P ++ S ++ T) bs k) := by
  have hSl := hS.1.length_eq
  intro k hk
  by_cases hkj : k = j
  · subst hkj
    rw [blk_at P S T bs k hP.symm (by rw [hSl]; exact hL), hx]
    exact hS
  · rw [blk_same P S L T bs k hSl (.inl (by rw [hP]; exact Nat.mul_le_mul_right _ (by omega))), ← hD]
    exact h1 k (by omega)

theorem merge_step {R : Int → Int → Prop} (xs D P A B T S : List Int) (bs j : Nat) (hD : D = P ++ A ++ B ++ T) (hP : P.length = j * (2 * bs)) (hA : A.length = bs) (hB : B.length = bs ∨ (T = [] ∧ B.length ≤ bs))
    (h1 : ∀ k, k < j → SortedOf R (blk xs (2 * bs) k) (blk D (2 * bs) k)) (h2 : ∀ k, 2 * j ≤ k → SortedOf R (blk xs bs k) (blk D bs k)) (hS : SortedOf R (A ++ B) S) :
    (∀ k, k < j + 1 → SortedOf R (blk xs (2 * bs) k) (blk (P ++ S ++ T) (2 * bs) k)) ∧ (∀ k, 2 * (j + 1) ≤ k → SortedOf R (blk xs bs k) (blk (P ++ S ++ T) bs k)) := by
  have hSl := hS.1.length_eq
  have hSl2 : S.length = A.length + B.length := by rw [hSl]; simp
  have hD2 : D = P ++ (A ++ B) ++ T := by rw [hD]; simp
  have ej : j * (2 * bs) = 2 * j * bs := by rw [Nat.mul_comm j, Nat.mul_comm 2 bs, Nat.mul_assoc, Nat.mul_comm bs]
  have bA : blk D bs (2 * j) = A := by
    have := blk_at P A (B ++ T) bs (2 * j) (by omega) (.inl hA)
    rw [hD]; simpa using this
  have bB : blk D bs (2 * j + 1) = B := by
    have := blk_at (P ++ A) B T bs (2 * j + 1) (by rw [Nat.add_mul]; simp; omega) hB
    rw [hD]; simpa using this
  refine ⟨fun k hk => ?_, fun k hk => ?_⟩
  · by_cases hkj : k = j
    · subst hkj
      rw [blk_at P S T (2 * bs) k hP.symm (by rcases hB with h | ⟨h, h'⟩; exact .inl (by omega); exact .inr ⟨h, by omega⟩), blk_two]
      have e1 := h2 (2 * k) (Nat.le_refl _)
      have e2 := h2 (2 * k + 1) (by omega)
      rw [bA] at e1
      rw [bB] at e2
      exact sorted_trans e1 e2 hS
    · rw [blk_same P S (A ++ B) T (2 * bs) k hSl (.inl (by rw [hP]; exact Nat.mul_le_mul_right _ (by omega))), ← hD2]
      exact h1 k (by omega)
  · have hge : 2 * j * bs + 2 * bs ≤ k * bs := by rw [← Nat.add_mul]; exact Nat.mul_le_mul_right _ (by omega)
    rw [blk_same P S (A ++ B) T bs k hSl (.inr (by simp; rcases hB with h | ⟨h, h'⟩ <;> omega)), ← hD2]
    exact h2 k (by omega)

theorem blk_none (xs : List Int) (bs k : Nat) (h : xs.length ≤ k * bs) : blk xs bs k = [] := by
  unfold blk; rw [List.drop_eq_nil_of_le h]; simp

theorem sorted_nil {R : Int → Int → Prop} : SortedOf R [] [] := ⟨List.Perm.refl _, List.Pairwise.nil⟩

set_option maxRecDepth 1000000 in
set_option maxHeartbeats 8000000 in
theorem stable_any (g : Nat) (lb : Array Value) (eg : ∀ args w, (callFunc g args).run Try.prog w = .ok (.enter g args) w) (c : Int → Int → Int) (ok : Int → Prop) (R : Int → Int → Prop) (ht : ∀ x y z, R x y → R y z → R x z)
    (xs : List Int) (base : Nat) (v : Value) (N : Int) (w : World) (hc : CmpOK Try.prog g lb c ok base w) (hown : Own base 3 eInt 1 w v xs) (hbase : base ≤ w.heap.size) (hok : ∀ x ∈ xs, ok x) (hdec : xs.Pairwise (Dec c R)) (hN : N = xs.length) (hlen : xs.length < 1000000000) :
    Calls Try.prog 76 #[v, .int .i64 N, .func (.func g) #[] lb] w fun e w' => e = .returned (.tuple #[]) ∧ (∃ S, Own base 3 eInt 1 w' v S ∧ SortedOf R xs S) ∧ Below base w w' := by
  obtain ⟨n, hn⟩ : ∃ n, xs.length = n := ⟨_, rfl⟩
  rw [hn] at hlen hN
  subst hN
  have Hn := Lib.hid hn; have Hok := Lib.hid hok; have Hdec := Lib.hid hdec; have Hc := Lib.hid hc; have Ht := Lib.hid ht
  clear hn hok hdec hc ht
  go_enter Try.func76, Try.ntmps76
  go_wp2_with fail
  go_loopw [7, 8] (fun s7 s8 wr => ∃ (a b j : Nat) (D : List Int), s7 = .int .i64 a ∧ s8 = .int .i64 b ∧ b = a + 20 ∧ a ≤ n ∧ Own base 3 eInt 1 wr v D ∧ Below base w wr ∧
      Hid (a = j * 20 ∧ D.length = n ∧ D.drop a = xs.drop a ∧ ∀ k, k < j → SortedOf R (blk xs 20 k) (blk D 20 k))) (fun _ b _ => n + 20 - (intOf b).toNat)
  case atStart => exact ⟨0, 20, 0, xs, rfl, rfl, rfl, by omega, hown, Below.refl _ _, rfl, Hn.out, rfl, fun k hk => by omega⟩
  case round =>
    obtain ⟨a, b, j, D, rfl, rfl, rfl, han, hown, hb, hm⟩ := hrel
    have hsz := hb.size
    by_cases hlt : a + 20 ≤ n
    · have hlt' : decide (a + 20 ≤ n) = true := by simp; omega
      obtain ⟨m1, m2, m3, m4⟩ := hm.out
      have hsp := split_at D a 20 (by omega)
      have hL : (D.drop a).take 20 = blk xs 20 j := by rw [m3, m1]; rfl
      have hT : D.drop (a + 20) = xs.drop (a + 20) := by rw [← List.drop_drop, m3, List.drop_drop]
      have hPl : (D.take a).length = a := by simp; omega
      have hLl : ((D.drop a).take 20).length = 20 := by simp; omega
      have hTl : (D.drop (a + 20)).length = n - (a + 20) := by simp; omega
      generalize D.take a = P at *
      generalize hl : (D.drop a).take 20 = L at *
      generalize hd2 : D.drop (a + 20) = T at *
      have hfin := fun S (hS : SortedOf R L S) => ins_step xs D P L T S 20 j hsp (by omega) (.inl hLl) hL.symm m4 hS
      have HF := Lib.hid (And.intro hfin (And.intro hL (And.intro hT (And.intro m1 (And.intro hPl (And.intro hLl hTl))))))
      have hown1 : Own base 3 eInt 1 wr v (P ++ L ++ T) := by rw [← hsp]; exact hown
      clear hfin hL hT hPl hLl hTl m1 m2 m3 m4 hl hd2 hsp hown hm
      go_wp2_with fail
      refine Calls.mono (insertion_any g lb eg c ok R Ht.out P L T _ _ base v _ (Hc.out.later hb) hown1 (by omega) ?_ ?_ ?_ ?_ ?_) ?_
      · intro x hx
        rw [HF.out.2.1] at hx
        exact Hok.out x (blk_sub xs 20 j x hx)
      · rw [HF.out.2.1]; exact blk_pw Hdec.out 20 j
      · have := HF.out.2.2.2.2.1; omega
      · have := HF.out.2.2.2.2.1; have := HF.out.2.2.2.2.2.1; omega
      · have := HF.out.2.2.2.2.1; have := HF.out.2.2.2.2.2.1; have := HF.out.2.2.2.2.2.2; omega
      rintro e w1 ⟨rfl, ⟨S, hown2, hS⟩, hb1⟩
      have hbb := hb.trans hb1
      go_wp2_with fail
      go_roundw
      case measure => simp [intOf]; omega
      case rel =>
        obtain ⟨f1, f2, f3, f4, f5, f6, f7⟩ := HF.out
        have hSl := hS.1.length_eq
        refine ⟨a + 20, a + 20 + 20, j + 1, P ++ S ++ T, by go_num, by go_num, rfl, by omega, hown2, hbb, by omega, by simp; omega, ?_, f1 S hS⟩
        rw [← f3, show a + 20 = (P ++ S).length from by simp; omega, List.drop_left]
    · have hlt' : decide (a + 20 ≤ n) = false := by simp; omega
      obtain ⟨m1, m2, m3, m4⟩ := hm.out
      have hsp : D = D.take a ++ D.drop a ++ [] := by simp
      have hL : D.drop a = blk xs 20 j := by
        rw [m3]; unfold blk; rw [← m1, List.take_of_length_le]; have := Hn.out; simp; omega
      have hPl : (D.take a).length = a := by simp; omega
      have hLl : (D.drop a).length = n - a := by simp; omega
      generalize D.take a = P at *
      generalize hl : D.drop a = L at *
      have hfin := fun S (hS : SortedOf R L S) => ins_step xs D P L [] S 20 j hsp (by omega) (.inr ⟨rfl, by omega⟩) hL.symm m4 hS
      have HF := Lib.hid (And.intro hfin (And.intro hL (And.intro m1 (And.intro hPl hLl))))
      have hown1 : Own base 3 eInt 1 wr v (P ++ L ++ []) := by rw [← hsp]; exact hown
      clear hfin hL hPl hLl m1 m2 m3 m4 hl hsp hown hm
      go_wp2_with fail
      refine Calls.mono (insertion_any g lb eg c ok R Ht.out P L [] _ _ base v _ (Hc.out.later hb) hown1 (by omega) ?_ ?_ ?_ ?_ ?_) ?_
      · intro x hx
        rw [HF.out.2.1] at hx
        exact Hok.out x (blk_sub xs 20 j x hx)
      · rw [HF.out.2.1]; exact blk_pw Hdec.out 20 j
      · have := HF.out.2.2.2.1; omega
      · have := HF.out.2.2.2.1; have := HF.out.2.2.2.2; omega
      · have := HF.out.2.2.2.1; have := HF.out.2.2.2.2; simp; omega
      rintro e w1 ⟨rfl, ⟨S, hown2, hS⟩, hb1⟩
      have hbb := hb.trans hb1
      obtain ⟨D2, hown3, hD2⟩ : ∃ D2, Own base 3 eInt 1 w1 v D2 ∧ Hid (D2.length = n ∧ ∀ k, SortedOf R (blk xs 20 k) (blk D2 20 k)) := by
        obtain ⟨f1, f2, f3, f4, f5⟩ := HF.out
        have hSl := hS.1.length_eq
        refine ⟨P ++ S ++ [], hown2, by simp; omega, fun k => ?_⟩
        by_cases hk : k < j + 1
        · exact f1 S hS k hk
        · have h3 : (j + 1) * 20 ≤ k * 20 := Nat.mul_le_mul_right _ (by omega)
          rw [blk_none xs 20 k (by have := Hn.out; omega), blk_none _ 20 k (by simp; omega)]
          exact sorted_nil
      clear hown2 hb1
      go_wp2_with fail
      go_loopw [6] (fun s6 wr => ∃ (bs : Nat) (D : List Int), s6 = .int .i64 bs ∧ 20 ≤ bs ∧ (bs = 20 ∨ bs < 2 * n) ∧ Own base 3 eInt 1 wr v D ∧ Below base w wr ∧
          Hid (D.length = n ∧ ∀ k, SortedOf R (blk xs bs k) (blk D bs k))) (fun b _ => n - (intOf b).toNat)
      case atStart => exact ⟨20, D2, rfl, by omega, .inl rfl, hown3, hbb, hD2⟩
      case round =>
        obtain ⟨bs, D, rfl, hbs, hbs2, hown, hb, hm⟩ := hrel
        have hsz := hb.size
        by_cases hlt2 : bs < n
        · have hlt2' : decide (bs < n) = true := by simp; omega
          have HB := Lib.hid hbs2
          clear hbs2
          go_wp2_with fail
          obtain ⟨wo, rfl⟩ : ∃ wo : World, wo = wr := ⟨_, rfl⟩
          go_loopw [7, 8] (fun s7 s8 wr => ∃ (a b j : Nat) (D : List Int), s7 = .int .i64 a ∧ s8 = .int .i64 b ∧ b = a + 2 * bs ∧ a ≤ n ∧ Own base 3 eInt 1 wr v D ∧ Below base w wr ∧
            Hid (a = j * (2 * bs) ∧ D.length = n ∧ (∀ k, k < j → SortedOf R (blk xs (2 * bs) k) (blk D (2 * bs) k)) ∧ ∀ k, 2 * j ≤ k → SortedOf R (blk xs bs k) (blk D bs k))) (fun _ b _ => n + 2 * bs - (intOf b).toNat)
          case atStart => exact ⟨0, 2 * bs, 0, D, by go_num, by go_num, by omega, by omega, hown, hb, by simp, hm.out.1, fun k hk => by omega, fun k _ => hm.out.2 k⟩
          case round =>
            obtain ⟨a, b, j, D, rfl, rfl, rfl, han, hown, hb, hm⟩ := hrel
            have hsz := hb.size
            by_cases hlt3 : a + 2 * bs ≤ n
            · have hlt3' : decide ((a : Int) + 2 * bs ≤ n) = true := by simp; omega
              obtain ⟨m1, m2, m3, m4⟩ := hm.out
              have ej : j * (2 * bs) = 2 * j * bs := by rw [Nat.mul_comm j, Nat.mul_comm 2 bs, Nat.mul_assoc, Nat.mul_comm bs]
              obtain ⟨P, A, B, T, hsp, hPl, hAl, hBl, hTl, hA, hB⟩ : ∃ P A B T, D = P ++ A ++ B ++ T ∧ P.length = a ∧ A.length = bs ∧ B.length = bs ∧ T.length = n - (a + 2 * bs) ∧ A = blk D bs (2 * j) ∧ B = blk D bs (2 * j + 1) := by
                refine ⟨D.take a, (D.drop a).take bs, (D.drop (a + bs)).take bs, D.drop (a + 2 * bs), ?_, by simp; omega, by simp; omega, by simp; omega, by simp; omega, ?_, ?_⟩
                · have e1 := split_at D a bs (by omega)
                  have e2 : D.drop (a + bs) = (D.drop (a + bs)).take bs ++ D.drop (a + 2 * bs) := by
                    have e3 := (List.take_append_drop bs (D.drop (a + bs))).symm
                    rw [List.drop_drop] at e3
                    rw [show a + 2 * bs = (a + bs) + bs from by omega]
                    exact e3
                  rw [e2] at e1
                  rw [List.append_assoc]
                  exact e1
                · unfold blk; rw [← ej, ← m1]
                · unfold blk; rw [Nat.add_mul, Nat.one_mul, ← ej, ← m1]
              have sA := m4 (2 * j) (Nat.le_refl _)
              have sB := m4 (2 * j + 1) (by omega)
              rw [← hA] at sA
              rw [← hB] at sB
              have hfin := fun S (hS : SortedOf R (A ++ B) S) => merge_step xs D P A B T S bs j hsp (by omega) hAl (.inl hBl) m3 m4 hS
              have HF := Lib.hid (And.intro hfin (And.intro m1 (And.intro hPl (And.intro hAl (And.intro hBl hTl)))))
              have S2 := Lib.hid (And.intro sA sB)
              have hown1 : Own base 3 eInt 1 wr v (P ++ A ++ B ++ T) := by rw [← hsp]; exact hown
              clear hfin hPl hAl hBl hTl hA hB sA sB m1 m2 m3 m4 ej hsp hown hm
              go_wp2_with fail
              refine Calls.mono (sym_any g lb eg c ok R Ht.out base v (A.length + B.length) P A B T _ _ _ wr (Nat.le_refl _) (Hc.out.later hb) hown1 (by omega) ?_ ?_ ?_ S2.out.1.2 S2.out.2.2 ?_ ?_ ?_ ?_ ?_ ?_) ?_
              · intro x hx; exact Hok.out x (blk_sub xs bs _ x (S2.out.1.1.mem_iff.1 hx))
              · intro x hx; exact Hok.out x (blk_sub xs bs _ x (S2.out.2.1.mem_iff.1 hx))
              · intro x hx y hy; exact blk_mem_dec Hdec.out bs (2 * j) x (S2.out.1.1.mem_iff.1 hx) y (S2.out.2.1.mem_iff.1 hy)
              · have := HF.out.2.2.2.1; omega
              · have := HF.out.2.2.2.2.1; omega
              · have := HF.out.2.2.1; omega
              · have := HF.out.2.2.1; have := HF.out.2.2.2.1; omega
              · have := HF.out.2.2.1; have := HF.out.2.2.2.1; have := HF.out.2.2.2.2.1; omega
              · have := HF.out.2.2.1; have := HF.out.2.2.2.1; have := HF.out.2.2.2.2.1; have := HF.out.2.2.2.2.2; omega
              rintro e w2 ⟨rfl, ⟨S, hown2, hS⟩, hb2⟩
              have hbb2 := hb.trans hb2
              go_wp2_with fail
              go_roundw
              case measure => simp [intOf]; omega
              case rel =>
                obtain ⟨f1, f2, f3, f4, f5, f6⟩ := HF.out
                have hSl := hS.1.length_eq
                refine ⟨a + 2 * bs, a + 2 * bs + 2 * bs, j + 1, P ++ S ++ T, congrArg (Value.int .i64) (by omega), congrArg (Value.int .i64) (by omega), rfl, by omega, hown2, hbb2, ?_, ?_, (f1 S hS).1, (f1 S hS).2⟩
                · rw [Nat.add_mul]; omega
                · simp at hSl ⊢; omega
            · have hlt3' : decide ((a : Int) + 2 * bs ≤ n) = false := by simp; omega
              by_cases hlt4 : a + bs < n
              · have hlt4' : decide ((a : Int) + bs < n) = true := by simp; omega
                obtain ⟨m1, m2, m3, m4⟩ := hm.out
                have ej : j * (2 * bs) = 2 * j * bs := by rw [Nat.mul_comm j, Nat.mul_comm 2 bs, Nat.mul_assoc, Nat.mul_comm bs]
                obtain ⟨P, A, B, hsp, hPl, hAl, hBl, hA, hB⟩ : ∃ P A B, D = P ++ A ++ B ++ [] ∧ P.length = a ∧ A.length = bs ∧ B.length = n - (a + bs) ∧ A = blk D bs (2 * j) ∧ B = blk D bs (2 * j + 1) := by
                  refine ⟨D.take a, (D.drop a).take bs, D.drop (a + bs), ?_, by simp; omega, by simp; omega, by simp; omega, ?_, ?_⟩
                  · rw [List.append_nil]; exact split_at D a bs (by omega)
                  · unfold blk; rw [← ej, ← m1]
                  · unfold blk; rw [Nat.add_mul, Nat.one_mul, ← ej, ← m1, List.take_of_length_le (by simp; omega)]
                have sA := m4 (2 * j) (Nat.le_refl _)
                have sB := m4 (2 * j + 1) (by omega)
                rw [← hA] at sA
                rw [← hB] at sB
                have hfin := fun S (hS : SortedOf R (A ++ B) S) => merge_step xs D P A B [] S bs j hsp (by omega) hAl (.inr ⟨rfl, by omega⟩) m3 m4 hS
                have HF := Lib.hid (And.intro hfin (And.intro m1 (And.intro hPl (And.intro hAl hBl))))
                have S2 := Lib.hid (And.intro sA sB)
                have hown1 : Own base 3 eInt 1 wr v (P ++ A ++ B ++ []) := by rw [← hsp]; exact hown
                clear hfin hPl hAl hBl hA hB sA sB m1 m2 m3 m4 ej hsp hown hm
                go_wp2_with fail
                refine Calls.mono (sym_any g lb eg c ok R Ht.out base v (A.length + B.length) P A B [] _ _ _ wr (Nat.le_refl _) (Hc.out.later hb) hown1 (by omega) ?_ ?_ ?_ S2.out.1.2 S2.out.2.2 ?_ ?_ ?_ ?_ ?_ ?_) ?_
                · intro x hx; exact Hok.out x (blk_sub xs bs _ x (S2.out.1.1.mem_iff.1 hx))
                · intro x hx; exact Hok.out x (blk_sub xs bs _ x (S2.out.2.1.mem_iff.1 hx))
                · intro x hx y hy; exact blk_mem_dec Hdec.out bs (2 * j) x (S2.out.1.1.mem_iff.1 hx) y (S2.out.2.1.mem_iff.1 hy)
                · have := HF.out.2.2.2.1; omega
                · have := HF.out.2.2.2.2; omega
                · have := HF.out.2.2.1; omega
                · have := HF.out.2.2.1; have := HF.out.2.2.2.1; omega
                · have := HF.out.2.2.1; have := HF.out.2.2.2.1; have := HF.out.2.2.2.2; omega
                · have := HF.out.2.2.1; have := HF.out.2.2.2.1; have := HF.out.2.2.2.2; simp; omega
                rintro e w2 ⟨rfl, ⟨S, hown2, hS⟩, hb2⟩
                have hbb2 := hb.trans hb2
                go_wp2_with fail
                go_roundw
                case measure => simp [intOf]; omega
                case rel =>
                  obtain ⟨f1, f2, f3, f4, f5⟩ := HF.out
                  have hSl := hS.1.length_eq
                  have hDl : (P ++ S ++ []).length = n := by simp at hSl ⊢; omega
                  refine ⟨bs * 2, P ++ S ++ [], congrArg (Value.int .i64) (by omega), by omega, .inr (by omega), hown2, hbb2, hDl, fun k => ?_⟩
                  rw [Nat.mul_comm bs 2]
                  by_cases hk : k < j + 1
                  · exact (f1 S hS).1 k hk
                  · have h3 : (j + 1) * (2 * bs) ≤ k * (2 * bs) := Nat.mul_le_mul_right _ (by omega)
                    rw [Nat.add_mul] at h3
                    rw [blk_none xs (2 * bs) k (by have := Hn.out; omega), blk_none _ (2 * bs) k (by omega)]
                    exact sorted_nil
              · have hlt4' : decide ((a : Int) + bs < n) = false := by simp; omega
                go_wp2_with fail
                go_roundw
                case measure => simp [intOf]; omega
                case rel =>
                  obtain ⟨m1, m2, m3, m4⟩ := hm.out
                  have ej : j * (2 * bs) = 2 * j * bs := by rw [Nat.mul_comm j, Nat.mul_comm 2 bs, Nat.mul_assoc, Nat.mul_comm bs]
                  refine ⟨bs * 2, D, congrArg (Value.int .i64) (by omega), by omega, .inr (by omega), hown, hb, m2, fun k => ?_⟩
                  rw [Nat.mul_comm bs 2]
                  by_cases hk : k < j
                  · exact m3 k hk
                  · by_cases hkj : k = j
                    · subst hkj
                      have e3 : (2 * k + 1) * bs = 2 * k * bs + bs := by rw [Nat.add_mul, Nat.one_mul]
                      rw [blk_two, blk_two, blk_none xs bs (2 * k + 1) (by have := Hn.out; omega), blk_none D bs (2 * k + 1) (by omega), List.append_nil, List.append_nil]
                      exact m4 (2 * k) (Nat.le_refl _)
                    · have h3 : (j + 1) * (2 * bs) ≤ k * (2 * bs) := Nat.mul_le_mul_right _ (by omega)
                      rw [Nat.add_mul] at h3
                      rw [blk_none xs (2 * bs) k (by have := Hn.out; omega), blk_none _ (2 * bs) k (by omega)]
                      exact sorted_nil
        · have hlt2' : decide (bs < n) = false := by simp; omega
          go_wp2_with fail
          go_end0
          refine ⟨rfl, ⟨D, hown, ?_⟩, hb⟩
          obtain ⟨m1, m2⟩ := hm.out
          have := m2 0
          unfold blk at this
          simp only [Nat.zero_mul, List.drop_zero] at this
          rw [List.take_of_length_le (by have := Hn.out; omega), List.take_of_length_le (by omega)] at this
          exact this

set_option maxHeartbeats 400000 in
/-- slices.SortStableFunc at int. -/
theorem sortStable_any (g : Nat) (lb : Array Value) (eg : ∀ args w, (callFunc g args).run Try.prog w = .ok (.enter g args) w) (c : Int → Int → Int) (ok : Int → Prop) (R : Int → Int → Prop) (ht : ∀ x y z, R x y → R y z → R x z)
    (xs : List Int) (base : Nat) (v : Value) (w : World) (hc : CmpOK Try.prog g lb c ok base w) (hown : Own base 3 eInt 1 w v xs) (hbase : base ≤ w.heap.size) (hok : ∀ x ∈ xs, ok x) (hdec : xs.Pairwise (Dec c R)) (hlen : xs.length < 1000000000) :
    Calls Try.prog 49 #[v, .func (.func g) #[] lb] w fun e w' => e = .returned (.tuple #[]) ∧ (∃ S, Own base 3 eInt 1 w' v S ∧ SortedOf R xs S) ∧ Below base w w' := by
  obtain ⟨a, cap, rfl⟩ := hown.isSlice
  go_enter Try.func49, Try.ntmps49
  go_wp2_with fail
  refine Calls.mono (stable_any g lb eg c ok R ht xs base _ _ w hc hown hbase hok hdec rfl hlen) ?_
  rintro e w1 ⟨rfl, h1, h2⟩
  go_wp2_with fail
  go_end0
  exact ⟨rfl, h1, h2⟩

end Go.Proofs.Ytbkihndidbmhoaa
