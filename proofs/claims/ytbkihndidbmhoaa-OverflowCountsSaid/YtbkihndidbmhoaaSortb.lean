/- slices.SortStableFunc at int: the insertion sort of a block. Conditions: fewer than 2^31 elements; the row is the caller's own; the comparison reads only. -/
import Derived.Test.YtbkihndidbmhoaaSorta
namespace Go.Proofs.Ytbkihndidbmhoaa
open Go.RowKit
set_option linter.unusedVariables false
set_option linter.unusedSimpArgs false

theorem CmpOK.later {P : Program} {g : Nat} {lb : Array Value} {c : Int → Int → Int} {ok : Int → Prop} {base : Nat} {w w1 : World} (h : CmpOK P g lb c ok base w) (hb : Below base w w1) : CmpOK P g lb c ok base w1 :=
  fun W hW x y hx hy => h W (hb.trans hW) x y hx hy

/-- What the comparison of a later element y with an earlier one x says of the order R. -/
def Dec (c : Int → Int → Int) (R : Int → Int → Prop) (x y : Int) : Prop := (c y x < 0 → R y x) ∧ (¬ c y x < 0 → R x y)

def SortedOf (R : Int → Int → Prop) (L S : List Int) : Prop := S.Perm L ∧ S.Pairwise R

theorem pairwise_ins {R : Int → Int → Prop} (ht : ∀ x y z, R x y → R y z → R x z) (c : Int → Int → Int) (S1 S2 : List Int) (x : Int) (hS : (S1 ++ S2).Pairwise R) (hd : ∀ y ∈ S1 ++ S2, Dec c R y x)
    (h2 : ∀ y ∈ S2, c x y < 0) (h1 : S1 = [] ∨ ∃ S l, S1 = S ++ [l] ∧ ¬ c x l < 0) : (S1 ++ x :: S2).Pairwise R := by
  rw [List.pairwise_append] at hS ⊢
  obtain ⟨p1, p2, p3⟩ := hS
  have hx2 : ∀ y ∈ S2, R x y := fun y hy => (hd y (by simp [hy])).1 (h2 y hy)
  have hx1 : ∀ y ∈ S1, R y x := by
    rcases h1 with rfl | ⟨S, l, rfl, hl⟩
    · intro y hy; cases hy
    · have hlx : R l x := (hd l (by simp)).2 hl
      intro y hy
      rcases List.mem_append.1 hy with hy | hy
      · rw [List.pairwise_append] at p1
        exact ht _ _ _ (p1.2.2 y hy l (by simp)) hlx
      · simp at hy; rw [hy]; exact hlx
  refine ⟨p1, List.pairwise_cons.2 ⟨hx2, p2⟩, ?_⟩
  intro y hy z hz
  rcases List.mem_cons.1 hz with rfl | hz
  · exact hx1 y hy
  · exact p3 y hy z hz

set_option maxRecDepth 100000 in
set_option maxHeartbeats 2000000 in
theorem insertion_any (g : Nat) (lb : Array Value) (eg : ∀ args w, (callFunc g args).run Try.prog w = .ok (.enter g args) w) (c : Int → Int → Int) (ok : Int → Prop) (R : Int → Int → Prop) (ht : ∀ x y z, R x y → R y z → R x z)
    (P L T : List Int) (A B : Int) (base : Nat) (v : Value) (w : World) (hc : CmpOK Try.prog g lb c ok base w) (hown : Own base 3 eInt 1 w v (P ++ L ++ T)) (hbase : base ≤ w.heap.size) (hok : ∀ x ∈ L, ok x) (hdec : L.Pairwise (Dec c R))
    (hA : A = P.length) (hB : B = P.length + L.length) (hlen : P.length + L.length + T.length < 2147483648) :
    Calls Try.prog 103 #[v, .int .i64 A, .int .i64 B, .func (.func g) #[] lb] w fun e w' => e = .returned (.tuple #[]) ∧ (∃ S, Own base 3 eInt 1 w' v (P ++ S ++ T) ∧ SortedOf R L S) ∧ Below base w w' := by
  generalize hp : P.length = p at *
  generalize hl : L.length = l at *
  have Hp := Lib.hid hp; have Hl := Lib.hid hl; have Hok := Lib.hid hok; have Hdec := Lib.hid hdec; have Ht := Lib.hid ht; have Hc := Lib.hid hc
  clear hp hl hok hdec ht hc
  subst hA; subst hB
  obtain ⟨a, cap, rfl⟩ := hown.isSlice
  obtain ⟨n, hn⟩ : ∃ n, n = (P ++ L ++ T).length := ⟨_, rfl⟩
  rw [← hn] at hown ⊢
  have Hn := Lib.hid hn
  clear hn
  go_enter Try.func103, Try.ntmps103
  go_wp2_with fail
  go_loopw [8] (fun s8 wr => ∃ (i : Nat) (S U : List Int), s8 = .int .i64 i ∧ 1 ≤ i ∧ i ≤ p + l + 1 ∧ Own base 3 eInt 1 wr (.slice a n cap) (P ++ S ++ U ++ T) ∧ Below base w wr ∧
      Hid ((i ≤ p + l → p + S.length = i) ∧ (p + l ≤ i → U = []) ∧ S.length + U.length = l ∧ ∃ L1, L = L1 ++ U ∧ SortedOf R L1 S)) (fun i _ => p + l + 1 - (intOf i).toNat)
  case atStart =>
    have h1 := Hl.out
    cases L with
    | nil => exact ⟨p + 1, [], [], by go_num, by omega, by omega, by simpa using hown, Below.refl _ _, by simp at h1; omega, by simp, by simp at h1 ⊢; omega, [], rfl, by simp, by simp⟩
    | cons x L => exact ⟨p + 1, [x], L, by go_num, by omega, by simp at h1; omega, by simpa using hown, Below.refl _ _, by simp, fun h => List.eq_nil_of_length_eq_zero (by simp at h1; omega), by simp at h1 ⊢; omega, [x], rfl, List.Perm.refl _, by simp⟩
  case round =>
    obtain ⟨i, S, U, rfl, hi1, hi2, hown, hb, hm⟩ := hrel
    have hsz := hb.size
    by_cases hlt : i < p + l
    · have e1 : p + S.length = i := hm.out.1 (by omega)
      obtain ⟨x, U', hU⟩ : ∃ x U', U = x :: U' := by
        cases U with
        | nil => have := hm.out.2.2.1; simp at this; omega
        | cons x U' => exact ⟨x, U', rfl⟩
      subst hU
      have hpi : p ≤ i := by omega
      have E1 := Lib.hid e1
      clear e1
      have hltd : decide ((i : Int) < (p : Int) + l) = true := by simp; omega
      go_wp2_with fail
      obtain ⟨wo, rfl⟩ : ∃ wo : World, wo = wr := ⟨_, rfl⟩
      go_loopw [9] (fun s9 wr => ∃ (j : Nat) (S1 S2 : List Int), s9 = .int .i64 j ∧ p ≤ j ∧ j ≤ i ∧ Own base 3 eInt 1 wr (.slice a n cap) (P ++ S1 ++ x :: S2 ++ U' ++ T) ∧ Below base w wr ∧
        Hid (S = S1 ++ S2 ∧ p + S1.length = j ∧ ∀ y ∈ S2, c x y < 0)) (fun j _ => (intOf j).toNat)
      case atStart =>
        exact ⟨i, S, [], rfl, by omega, by omega, by simpa using hown, hb, by simp, E1.out, by simp⟩
      case round =>
        obtain ⟨j, S1, S2, rfl, hj1, hj2, hown, hb, hm2⟩ := hrel
        have hsz := hb.size
        have hokx : ok x := by
          obtain ⟨L1, hL1, _⟩ := hm.out.2.2.2
          exact Hok.out x (by rw [hL1]; simp)
        have hdone : Hid ((S1 = [] ∨ ∃ S l, S1 = S ++ [l] ∧ ¬ c x l < 0) → ((i + 1 ≤ p + l → p + (S1 ++ x :: S2).length = i + 1) ∧ (p + l ≤ i + 1 → U' = []) ∧ (S1 ++ x :: S2).length + U'.length = l ∧ ∃ L1, L = L1 ++ U' ∧ SortedOf R L1 (S1 ++ x :: S2))) := by
          show _ → _
          intro h1
          obtain ⟨m1, m2, m3, L1, hL1, hperm, hpw⟩ := hm.out
          obtain ⟨n1, n2, n3⟩ := hm2.out
          subst n1
          have hE := E1.out
          simp only [List.length_append, List.length_cons] at *
          refine ⟨by omega, fun h => List.eq_nil_of_length_eq_zero (by omega), by omega, L1 ++ [x], by simp [hL1], ?_, ?_⟩
          · exact (List.perm_middle.trans ((List.Perm.cons x hperm).trans (by simpa using (List.perm_append_comm (l₁ := [x]) (l₂ := L1)))))
          · refine pairwise_ins Ht.out c S1 S2 x hpw ?_ n3 h1
            intro y hy
            have hy1 : y ∈ L1 := hperm.mem_iff.1 hy
            have hd := Hdec.out
            rw [hL1, List.pairwise_append] at hd
            exact hd.2.2 y hy1 x (by simp)
        by_cases hja : p < j
        · obtain ⟨S1', y, hS1⟩ : ∃ S1' y, S1 = S1' ++ [y] := by
            rcases List.eq_nil_or_concat S1 with h | ⟨S1', y, h⟩
            · have := hm2.out.2.1; rw [h] at this; simp at this; omega
            · exact ⟨S1', y, by simpa using h⟩
          subst hS1
          obtain ⟨q, rfl⟩ : ∃ q, j = q + 1 := ⟨j - 1, by omega⟩
          have hq : q = (P ++ S1').length := by have := hm2.out.2.1; have := Hp.out; simp at *; omega
          have hx : P ++ (S1' ++ [y]) ++ x :: S2 ++ U' ++ T = (P ++ S1') ++ y :: ([] ++ x :: (S2 ++ U' ++ T)) := by simp
          have hoky : ok y := by
            obtain ⟨L1, hL1, hperm, _⟩ := hm.out.2.2.2
            refine Hok.out y ?_
            rw [hL1]
            exact List.mem_append_left _ (hperm.mem_iff.1 (by rw [hm2.out.1]; simp))
          have hnl := hown.len
          obtain ⟨gg, rfl, hbg, hgl, hc1, hc2⟩ := hown.placeA (by simp; omega)
          have hlq : ((q : Int) + 1) < n := by rw [hnl, hx]; simp at hq ⊢; omega
          have hlq2 : (q : Int) < n := by omega
          have c1 := hown.mid (P ++ S1' ++ [y]) (S2 ++ U' ++ T) x (q + 1) (by simp) (by simp at hq ⊢; omega)
          have c2 := hown.mid (P ++ S1') (x :: S2 ++ U' ++ T) y q (by simp) hq
          have f1 := hown.free (q + 1)
          have f2 := hown.free q
          have HX := Lib.hid hx
          have HQ := Lib.hid hq
          clear hx hq hnl
          have hj0 : 0 ≤ (q : Int) := by omega
          have hgd : decide ((p : Int) < (q : Int) + 1) = true := by simp; omega
          by_cases hcxy : c x y < 0
          · go_wp2_with fail
            go_quiet ((go_at_fn g; exact Calls.quiet_of (Hc.out _ (below_drewN hb _) x y hokx hoky)))
            go_wp2_with fail
            go_region
            go_wp2
            go_roundw
            case measure => simp [intOf]
            case rel =>
              refine ⟨q, S1', y :: S2, rfl, by omega, by omega, ?_, by repeat' (first | exact Below.refl _ _ | assumption | refine Below.more ?_ ?_ _ | refine Below.alloc ?_ ?_ _ | refine Below.drew ?_ | refine below_drewN ?_ _ | refine Below.setCell ?_ ?_ _ | exact Below.size (by assumption) | (simp [go_sem, size_more]; done) | (simp [go_sem, size_more]; omega)), ?_⟩
              · have := (hown.swap21 (P ++ S1') [] (S2 ++ U' ++ T) y x q (q + 1) HX.out HQ.out (by have := HQ.out; simp at *; omega))
                have e2 : P ++ S1' ++ x :: ([] ++ y :: (S2 ++ U' ++ T)) = P ++ S1' ++ x :: (y :: S2) ++ U' ++ T := by simp
                rw [e2] at this
                exact this.ofHeap rfl
              · obtain ⟨n1, n2, n3⟩ := hm2.out
                refine ⟨by rw [n1]; simp, by simp at n2; omega, ?_⟩
                intro z hz
                rcases List.mem_cons.1 hz with rfl | hz
                · exact hcxy
                · exact n3 z hz
          · go_wp2_with fail
            go_quiet ((go_at_fn g; exact Calls.quiet_of (Hc.out _ (below_drewN hb _) x y hokx hoky)))
            go_wp2_with fail
            go_roundw
            case measure => simp [intOf]; omega
            case rel =>
              refine ⟨i + 1, S1' ++ [y] ++ x :: S2, U', by go_num, by omega, by omega, ?_, by repeat' (first | exact Below.refl _ _ | assumption | refine Below.more ?_ ?_ _ | refine Below.alloc ?_ ?_ _ | refine Below.drew ?_ | refine below_drewN ?_ _ | refine Below.setCell ?_ ?_ _ | exact Below.size (by assumption) | (simp [go_sem, size_more]; done) | (simp [go_sem, size_more]; omega)), ?_⟩
              · have := hown.below (below_drewN (Below.refl wr.heap.size wr) nq)
                simpa using this
              · refine hdone.out (.inr ⟨S1', y, rfl, ?_⟩)
                omega
        · have hgd : decide ((p : Int) < (j : Int)) = false := by simp; omega
          obtain rfl : j = p := by omega
          have h0 : S1 = [] := by have := hm2.out.2.1; exact List.eq_nil_of_length_eq_zero (by omega)
          subst h0
          have HD := Lib.hid (hdone.out (.inl rfl))
          clear hdone
          go_wp2_with fail
          go_quiet (fail)
          go_wp2_with fail
          go_roundw
          case measure => simp [intOf]; omega
          case rel =>
            refine ⟨i + 1, [] ++ x :: S2, U', by go_num, by omega, by omega, ?_, by repeat' (first | exact Below.refl _ _ | assumption | refine Below.more ?_ ?_ _ | refine Below.alloc ?_ ?_ _ | refine Below.drew ?_ | refine below_drewN ?_ _ | refine Below.setCell ?_ ?_ _ | exact Below.size (by assumption) | (simp [go_sem, size_more]; done) | (simp [go_sem, size_more]; omega)), ?_⟩
            · have := hown.below (below_drewN (Below.refl wr.heap.size wr) nq)
              simpa using this
            · exact HD.out
    · go_wp2_with fail
      go_end0
      obtain ⟨m1, m2, m3, L1, hL1, hs⟩ := hm.out
      have hU : U = [] := m2 (by omega)
      subst hU
      refine ⟨rfl, ⟨S, by simpa using hown, ?_⟩, hb⟩
      rw [hL1]
      simpa using hs

end Go.Proofs.Ytbkihndidbmhoaa
