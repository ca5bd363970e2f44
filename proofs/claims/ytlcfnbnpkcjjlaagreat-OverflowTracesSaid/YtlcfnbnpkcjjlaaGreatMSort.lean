/- slices.SortStableFunc at int, its lower functions: insertion, swapping and rotating. Conditions: fewer than 2^31 elements; the row is the caller's own; the comparison reads only. | slices.SortStableFunc at int: the insertion sort of a block. Conditions: fewer than 2^31 elements; the row is the caller's own; the comparison reads only. | slices.SortStableFunc at int: symMerge where one of the two parts has one element. Conditions: fewer than 2^31 elements; the row is the caller's own; the comparison reads only. | slices.SortStableFunc at int: symMerge in whole. Conditions: fewer than 2^31 elements; the row is the caller's own; the comparison reads only. | slices.SortStableFunc at int, in whole: the row becomes a sorted permutation of what it was. Conditions: fewer than 2^31 elements; the row is the caller's own; the comparison reads only. -/
import Derived.Test.YtlcfnbnpkcjjlaaGreatRows
import Derived.Test.YtlcfnbnpkcjjlaaGreatMBase
import Derived.BigRegion
import Derived.Deep.QuietTactic
import Derived.BigQuiet
import Derived.Shelf.Abstract
import Derived.Lib.Hide
import Derived.Deep.DeepCutAuto
namespace Go.Proofs.YtlcfnbnpkcjjlaaGreat
open Go.RowKit
set_option linter.unusedVariables false
set_option linter.unusedSimpArgs false

/-- A comparison handed over as a function value: it hands back 'c x y', and only reads. -/
def CmpOK (P : Program) (g : Nat) (lb : Array Value) (c : Int → Int → Int) (ok : Int → Prop) (base : Nat) (w0 : World) : Prop :=
  ∀ W, Below base w0 W → ∀ x y, ok x → ok y → Calls P g (#[.int .i64 x, .int .i64 y] ++ lb) W fun e w' => e = .returned (.int .i64 (c x y)) ∧ ∃ q, w' = W.drewN q

theorem Own.int {base : Nat} {e : TypeId} {w : World} {g n cap : Nat} {xs : List Int} (h : Own base e eInt 1 w (.slice (some ⟨g, 0, none⟩) n cap) xs) (i : Nat) (hi : i < xs.length) :
    w.cell? ⟨g, i, none⟩ = some (.int .i64 (xs.getD i 0)) := by
  have := h.cellAt' (k := 1) (fun _ => rfl) i 0 hi (by decide)
  simpa [List.getD, List.getElem?_eq_getElem hi] using this

theorem Own.len {α : Type} {base : Nat} {e : TypeId} {enc : α → List Value} {k : Nat} {w : World} {a : Option Addr} {n cap : Nat} {xs : List α} (h : Own base e enc k w (.slice a n cap) xs) : n = xs.length := by
  obtain ⟨a, c, e'⟩ := h.isSlice
  simp only [Value.slice.injEq] at e'
  exact e'.2.1

theorem Own.placeA {α : Type} {base : Nat} {e : TypeId} {enc : α → List Value} {k : Nat} {w : World} {a : Option Addr} {n cap : Nat} {xs : List α} (h : Own base e enc k w (.slice a n cap) xs) (hne : 0 < xs.length) :
    ∃ g, a = some ⟨g, 0, none⟩ ∧ base ≤ g ∧ g < w.heap.size ∧ n ≤ cap ∧ cap ≤ 9223372036854775807 := by
  obtain ⟨g, cap', e', hb, hg, h1, h2⟩ := h.place hne
  simp only [Value.slice.injEq] at e'
  obtain ⟨rfl, rfl, rfl⟩ := e'
  exact ⟨g, rfl, hb, hg, h1, h2⟩

theorem Own.ofHeap {α : Type} {base : Nat} {e : TypeId} {enc : α → List Value} {k : Nat} {w w' : World} {v : Value} {xs : List α} (h : Own base e enc k w v xs) (he : w'.heap = w.heap) : Own base e enc k w' v xs := by
  unfold Own World.ownsRow at *
  rw [he]; exact h

theorem Own.setInt {base : Nat} {e : TypeId} {w : World} {g n cap : Nat} {xs : List Int} (h : Own base e eInt 1 w (.slice (some ⟨g, 0, none⟩) n cap) xs) (i : Nat) (hi : i < xs.length) (y : Int) :
    Own base e eInt 1 (w.setCell ⟨g, i, none⟩ (.int .i64 y)) (.slice (some ⟨g, 0, none⟩) n cap) (xs.set i y) := by
  have := h.store (k := 1) (fun _ => rfl) i 0 hi (by decide) (.int .i64 y) y (by simp)
  simpa using this

def swapL (xs : List Int) (i j : Nat) : List Int := (xs.set i (xs.getD j 0)).set j (xs.getD i 0)
theorem swapL_len (xs : List Int) (i j : Nat) : (swapL xs i j).length = xs.length := by simp [swapL]

theorem swapL_mem (xs : List Int) (i j : Nat) (hi : i < xs.length) (hj : j < xs.length) : ∀ x ∈ swapL xs i j, x ∈ xs := by
  intro x hx
  unfold swapL at hx
  rcases List.mem_or_eq_of_mem_set hx with hx | rfl
  · rcases List.mem_or_eq_of_mem_set hx with hx | rfl
    · exact hx
    · simp [List.getD, List.getElem?_eq_getElem hj]
  · simp [List.getD, List.getElem?_eq_getElem hi]

theorem swapL_mid (A B C : List Int) (x y : Int) (i j : Nat) (hi : i = A.length) (hj : j = A.length + 1 + B.length) : swapL (A ++ x :: (B ++ y :: C)) i j = A ++ y :: (B ++ x :: C) := by
  subst hi; subst hj
  have h1 : (A ++ x :: (B ++ y :: C)).getD A.length 0 = x := by simp
  have h2 : (A ++ x :: (B ++ y :: C)).getD (A.length + 1 + B.length) 0 = y := by
    rw [List.getD, List.getElem?_append_right (by omega), show A.length + 1 + B.length - A.length = B.length + 1 from by omega]
    simp
  unfold swapL
  rw [h1, h2]
  rw [List.set_append_right _ _ (by omega), Nat.sub_self, List.set_cons_zero]
  rw [List.set_append_right _ _ (by omega), show A.length + 1 + B.length - A.length = B.length + 1 from by omega, List.set_cons_succ]
  rw [List.set_append_right _ _ (by omega), Nat.sub_self, List.set_cons_zero]

theorem Own.mid {base : Nat} {e : TypeId} {w : World} {g n cap : Nat} {xs : List Int} (h : Own base e eInt 1 w (.slice (some ⟨g, 0, none⟩) n cap) xs) (A B : List Int) (y : Int) (i : Nat) (hx : xs = A ++ y :: B) (hi : i = A.length) :
    w.cell? ⟨g, i, none⟩ = some (.int .i64 y) := by
  subst hx; subst hi
  have := h.int A.length (by simp)
  rw [this]
  simp

theorem Own.swap12 {base : Nat} {e : TypeId} {w : World} {g n cap : Nat} {xs : List Int} (h : Own base e eInt 1 w (.slice (some ⟨g, 0, none⟩) n cap) xs) (A B C : List Int) (x y : Int) (i j : Nat) (hx : xs = A ++ x :: (B ++ y :: C)) (hi : i = A.length) (hj : j = A.length + 1 + B.length) :
    Own base e eInt 1 ((w.setCell ⟨g, i, none⟩ (.int .i64 y)).setCell ⟨g, j, none⟩ (.int .i64 x)) (.slice (some ⟨g, 0, none⟩) n cap) (A ++ y :: (B ++ x :: C)) := by
  subst hx
  have h1 := (h.setInt i (by simp; omega) y).setInt j (by simp; omega) x
  have h2 := swapL_mid A B C x y i j hi hj
  unfold swapL at h2
  have e1 : (A ++ x :: (B ++ y :: C)).getD i 0 = x := by subst hi; simp
  have e2 : (A ++ x :: (B ++ y :: C)).getD j 0 = y := by
    subst hj
    rw [List.getD, List.getElem?_append_right (by omega), show A.length + 1 + B.length - A.length = B.length + 1 from by omega]
    simp
  rw [e1, e2] at h2
  rw [← h2]
  exact h1

theorem Own.swap21 {base : Nat} {e : TypeId} {w : World} {g n cap : Nat} {xs : List Int} (h : Own base e eInt 1 w (.slice (some ⟨g, 0, none⟩) n cap) xs) (A B C : List Int) (x y : Int) (i j : Nat) (hx : xs = A ++ x :: (B ++ y :: C)) (hi : i = A.length) (hj : j = A.length + 1 + B.length) :
    Own base e eInt 1 ((w.setCell ⟨g, j, none⟩ (.int .i64 x)).setCell ⟨g, i, none⟩ (.int .i64 y)) (.slice (some ⟨g, 0, none⟩) n cap) (A ++ y :: (B ++ x :: C)) := by
  subst hx
  have h1 := (h.setInt j (by simp; omega) x).setInt i (by simp; omega) y
  have h2 := swapL_mid A B C x y i j hi hj
  unfold swapL at h2
  have e1 : (A ++ x :: (B ++ y :: C)).getD i 0 = x := by subst hi; simp
  have e2 : (A ++ x :: (B ++ y :: C)).getD j 0 = y := by
    subst hj
    rw [List.getD, List.getElem?_append_right (by omega), show A.length + 1 + B.length - A.length = B.length + 1 from by omega]
    simp
  rw [e1, e2] at h2
  rw [← h2, List.set_comm _ _ (by omega)]
  exact h1

/-- swapRange, from place k on. -/
def swapGo (a b : Nat) : Nat → Nat → List Int → List Int
  | 0, _, xs => xs
  | n + 1, k, xs => swapGo a b n (k + 1) (swapL xs (a + k) (b + k))

theorem swapGo_blocks (P Q T : List Int) : ∀ (n k a b : Nat) (X1 X2 Y1 Y2 : List Int), X2.length = n → Y2.length = n → X1.length = k → Y1.length = k → a = P.length → b = P.length + k + n + Q.length →
    swapGo a b n k (P ++ Y1 ++ X2 ++ Q ++ X1 ++ Y2 ++ T) = P ++ (Y1 ++ Y2) ++ Q ++ (X1 ++ X2) ++ T
  | 0, k, a, b, X1, X2, Y1, Y2, h1, h2, h3, h4, h5, h6 => by
    obtain rfl := List.eq_nil_of_length_eq_zero h1
    obtain rfl := List.eq_nil_of_length_eq_zero h2
    simp [swapGo]
  | n + 1, k, a, b, X1, X2, Y1, Y2, h1, h2, h3, h4, h5, h6 => by
    match X2, Y2, h1, h2 with
    | x :: X2, y :: Y2, h1, h2 =>
      simp only [List.length_cons, Nat.add_right_cancel_iff] at h1 h2
      have e : P ++ Y1 ++ x :: X2 ++ Q ++ X1 ++ y :: Y2 ++ T = (P ++ Y1) ++ x :: ((X2 ++ Q ++ X1) ++ y :: (Y2 ++ T)) := by simp
      rw [swapGo, e, swapL_mid (P ++ Y1) (X2 ++ Q ++ X1) (Y2 ++ T) x y (a + k) (b + k) (by simp; omega) (by simp; omega)]
      have e2 : (P ++ Y1) ++ y :: ((X2 ++ Q ++ X1) ++ x :: (Y2 ++ T)) = P ++ (Y1 ++ [y]) ++ X2 ++ Q ++ (X1 ++ [x]) ++ Y2 ++ T := by simp
      rw [e2, swapGo_blocks P Q T n (k + 1) a b (X1 ++ [x]) X2 (Y1 ++ [y]) Y2 h1 h2 (by simp; omega) (by simp; omega) h5 (by omega)]
      simp

/-- Two blocks of one length change places. -/
theorem swapGo_two (P X Q Y T : List Int) (a b n : Nat) (h1 : X.length = n) (h2 : Y.length = n) (h5 : a = P.length) (h6 : b = P.length + n + Q.length) :
    swapGo a b n 0 (P ++ X ++ Q ++ Y ++ T) = P ++ Y ++ Q ++ X ++ T := by
  have := swapGo_blocks P Q T n 0 a b [] X [] Y h1 h2 rfl rfl h5 (by omega)
  simpa using this

set_option maxHeartbeats 1000000 in
theorem swapRange_any (fv : Value) (a b n : Nat) (base : Nat) (xs : List Int) (v : Value) (w : World) (hown : Own base 3 eInt 1 w v xs) (hbase : base ≤ w.heap.size)
    (hab : a + n ≤ b) (hbn : b + n ≤ xs.length) (hlen : xs.length < 2147483648) :
    Calls Tryz.prog 120 #[v, .int .i64 a, .int .i64 b, .int .i64 n, fv] w fun e w' => e = .returned (.tuple #[]) ∧ Own base 3 eInt 1 w' v (swapGo a b n 0 xs) ∧ Below base w w' := by
  go_enter Tryz.func120, Tryz.ntmps120
  go_wp2_with fail
  go_loopw [10] (fun s10 wr => ∃ (k m : Nat) (ys : List Int), k + m = n ∧ s10 = .int .i64 k ∧ Own base 3 eInt 1 wr v ys ∧ ys.length = xs.length ∧ Below base w wr ∧ Hid (swapGo a b n 0 xs = swapGo a b m k ys)) (fun i _ => n - (intOf i).toNat)
  case atStart => exact ⟨0, n, xs, by omega, rfl, hown, rfl, Below.refl _ _, rfl⟩
  case round =>
    obtain ⟨k, m, ys, hkm, rfl, hown, hys, hb, hm⟩ := hrel
    have hsz := hb.size
    cases m with
    | zero =>
      obtain rfl : k = n := by omega
      clear hkm
      go_wp2_with fail
      go_end0
      exact ⟨rfl, by rw [hm.out]; exact hown, hb⟩
    | succ m =>
      obtain ⟨g, cap2, rfl, hbg, hgl, hc1, hc2⟩ := hown.place (by omega)
      have hk : k < n := by omega
      have c1 := hown.int (a + k) (by omega)
      have c2 := hown.int (b + k) (by omega)
      have f1 := hown.free (a + k)
      have f2 := hown.free (b + k)
      have l1 : (a : Int) + k < ys.length := by omega
      have l2 : (b : Int) + k < ys.length := by omega
      have l3 : a + k < ys.length := by omega
      have l4 : b + k < ys.length := by omega
      have lm : ys.length < 2147483648 := by omega
      have ne : ¬ a + k = b + k := by omega
      generalize e1 : ys.getD (a + k) 0 = x1 at *
      generalize e2 : ys.getD (b + k) 0 = x2 at *
      have E1 := Lib.hid e1
      have E2 := Lib.hid e2
      have Hkm := Lib.hid hkm
      have Hys := Lib.hid hys
      clear e1 e2 hkm hys
      go_wp2_with fail
      go_region
      go_wp2
      go_roundw
      case measure => simp [intOf]; omega
      case rel =>
        refine ⟨k + 1, m, _, by have := Hkm.out; omega, by go_num, (hown.setInt (a + k) l3 x2).setInt (b + k) (by simpa using l4) x1, by simp [Hys.out], by repeat' (first | exact Below.refl _ _ | assumption | refine Below.more ?_ ?_ _ | refine Below.alloc ?_ ?_ _ | refine Below.drew ?_ | refine below_drewN ?_ _ | refine Below.setCell ?_ ?_ _ | exact Below.size (by assumption) | (simp [go_sem, size_more]; done) | (simp [go_sem, size_more]; omega)), hm.out.trans ?_⟩
        simp only [swapGo, swapL, E1.out, E2.out]


/-- swapRange over two blocks of a row. -/
theorem swapRange_two (fv : Value) (P X Q Y T : List Int) (A B N : Int) (base : Nat) (v : Value) (w : World) (hown : Own base 3 eInt 1 w v (P ++ X ++ Q ++ Y ++ T)) (hbase : base ≤ w.heap.size)
    (hX : X.length = Y.length) (hA : A = P.length) (hB : B = P.length + X.length + Q.length) (hN : N = X.length) (hlen : P.length + X.length + Q.length + Y.length + T.length < 2147483648) :
    Calls Tryz.prog 120 #[v, .int .i64 A, .int .i64 B, .int .i64 N, fv] w fun e w' => e = .returned (.tuple #[]) ∧ Own base 3 eInt 1 w' v (P ++ Y ++ Q ++ X ++ T) ∧ Below base w w' := by
  obtain rfl : A = ((P.length : Nat) : Int) := hA
  obtain rfl : B = ((P.length + X.length + Q.length : Nat) : Int) := by omega
  obtain rfl : N = ((X.length : Nat) : Int) := hN
  have := swapRange_any fv P.length (P.length + X.length + Q.length) X.length base _ v w hown hbase (by omega) (by simp; omega) (by simp; omega)
  rw [swapGo_two P X Q Y T P.length (P.length + X.length + Q.length) X.length rfl hX.symm rfl rfl] at this
  exact this

set_option maxHeartbeats 1000000 in
/-- rotate: two neighbouring blocks change places. -/
theorem rotate_any (fv : Value) (P A B T : List Int) (base : Nat) (v : Value) (w : World) (hown : Own base 3 eInt 1 w v (P ++ A ++ B ++ T)) (hbase : base ≤ w.heap.size)
    (hA : 0 < A.length) (hB : 0 < B.length) (hlen : P.length + A.length + B.length + T.length < 2147483648) :
    Calls Tryz.prog 115 #[v, .int .i64 P.length, .int .i64 (P.length + A.length), .int .i64 (P.length + A.length + B.length), fv] w fun e w' => e = .returned (.tuple #[]) ∧ Own base 3 eInt 1 w' v (P ++ B ++ A ++ T) ∧ Below base w w' := by
  generalize hp : P.length = p at *
  generalize ha : A.length = a at *
  generalize hb : B.length = b at *
  have Hp := Lib.hid hp; have Ha := Lib.hid ha; have Hb := Lib.hid hb
  clear hp ha hb
  go_enter Tryz.func115, Tryz.ntmps115
  go_wp2_with fail
  go_loopw [10, 11] (fun s10 s11 wr => ∃ (i j : Nat) (P' A' B' T' : List Int), s10 = .int .i64 i ∧ s11 = .int .i64 j ∧ 0 < i ∧ 0 < j ∧ i + j ≤ a + b ∧ i ≤ p + a ∧ j ≤ b ∧ Own base 3 eInt 1 wr v (P' ++ A' ++ B' ++ T') ∧ Below base w wr ∧
      Hid (A'.length = i ∧ B'.length = j ∧ P'.length + i = p + a ∧ P ++ B ++ A ++ T = P' ++ B' ++ A' ++ T')) (fun i j _ => (intOf i).toNat + (intOf j).toNat)
  case atStart => exact ⟨a, b, P, A, B, T, by go_num, by go_num, hA, hB, by omega, by omega, by omega, hown, Below.refl _ _, Ha.out, Hb.out, by rw [Hp.out], rfl⟩
  case round =>
    obtain ⟨i, j, P', A', B', T', rfl, rfl, hi, hj, hij, hip, hjb, hown, hb, hm⟩ := hrel
    have hsz := hb.size
    have hL : (P' ++ A' ++ B' ++ T').length = (P ++ A ++ B ++ T).length := by
      have := congrArg List.length hm.out.2.2.2
      simp only [List.length_append] at this ⊢
      omega
    have HL := Lib.hid hL
    clear hL
    rcases Nat.lt_trichotomy i j with h | h | h
    · obtain ⟨B1, B2, hB12, hB2⟩ : ∃ B1 B2, B' = B1 ++ B2 ∧ B2.length = i := ⟨B'.take (j - i), B'.drop (j - i), by simp, by have := hm.out.2.1; simp; omega⟩
      subst hB12
      have hne : ((i : Int) != (j : Int)) = true := by rw [bne_iff_ne]; omega
      have HB2 := Lib.hid hB2
      clear hB2
      have hown' : Own base 3 eInt 1 wr v (P' ++ A' ++ B1 ++ B2 ++ T') := by simpa using hown
      clear hown
      go_wp2_with fail
      refine Calls.mono (swapRange_two _ P' A' B1 B2 T' _ _ _ base _ _ hown' (by omega) ?_ ?_ ?_ ?_ ?_) ?_
      · rw [HB2.out, hm.out.1]
      · have := hm.out.2.2.1; omega
      · have h1 := hm.out.1; have h2 := hm.out.2.1; have := hm.out.2.2.1; have := HB2.out; simp only [List.length_append] at *; omega
      · rw [hm.out.1]
      · have h3 := HL.out; simp only [List.length_append] at h3; have := Hp.out; have := Ha.out; have := Hb.out; omega
      rintro e w1 ⟨rfl, hown1, hb1⟩
      have hbb := hb.trans (hb1.mono (by omega))
      go_wp2_with fail
      go_roundw
      case measure => simp [intOf]; omega
      case rel =>
        have h1 := hm.out.1; have h2 := hm.out.2.1; have h3 := hm.out.2.2.1; have h4 := hm.out.2.2.2; have h5 := HB2.out
        simp only [List.length_append] at h2
        exact ⟨i, j - i, P', B2, B1, A' ++ T', rfl, congrArg (Value.int .i64) (by omega), by omega, by omega, by omega, by omega, by omega, by simpa using hown1, hbb, h5, by omega, by omega, by rw [h4]; simp⟩
    · subst h
      have hne : ((i : Int) != (i : Int)) = false := by simp
      have hown' : Own base 3 eInt 1 wr v (P' ++ A' ++ [] ++ B' ++ T') := by simpa using hown
      go_wp2_with fail
      refine Calls.mono (swapRange_two _ P' A' [] B' T' _ _ _ base _ _ hown' (by omega) ?_ ?_ ?_ ?_ ?_) ?_
      · rw [hm.out.1, hm.out.2.1]
      · have := hm.out.2.2.1; omega
      · have := hm.out.2.2.1; have := hm.out.1; simp only [List.length_nil]; omega
      · rw [hm.out.1]
      · have h3 := HL.out; simp only [List.length_append] at h3; have := Hp.out; have := Ha.out; have := Hb.out; simp only [List.length_nil]; omega
      rintro e w1 ⟨rfl, hown1, hb1⟩
      have hbb := hb.trans (hb1.mono (by omega))
      go_wp2_with fail
      go_end0
      refine ⟨rfl, ?_, hbb⟩
      rw [hm.out.2.2.2]
      simpa using hown1
    · obtain ⟨A1, A2, hA12, hA1⟩ : ∃ A1 A2, A' = A1 ++ A2 ∧ A1.length = j := ⟨A'.take j, A'.drop j, by simp, by have := hm.out.1; simp; omega⟩
      subst hA12
      have hne : ((i : Int) != (j : Int)) = true := by rw [bne_iff_ne]; omega
      have HA1 := Lib.hid hA1
      clear hA1
      have hown' : Own base 3 eInt 1 wr v (P' ++ A1 ++ A2 ++ B' ++ T') := by simpa using hown
      clear hown
      go_wp2_with fail
      refine Calls.mono (swapRange_two _ P' A1 A2 B' T' _ _ _ base _ _ hown' (by omega) ?_ ?_ ?_ ?_ ?_) ?_
      · rw [HA1.out, hm.out.2.1]
      · have := hm.out.2.2.1; omega
      · have h1 := hm.out.1; have h2 := hm.out.2.1; have := hm.out.2.2.1; have := HA1.out; simp only [List.length_append] at *; omega
      · rw [HA1.out]
      · have h3 := HL.out; simp only [List.length_append] at h3; have := Hp.out; have := Ha.out; have := Hb.out; omega
      rintro e w1 ⟨rfl, hown1, hb1⟩
      have hbb := hb.trans (hb1.mono (by omega))
      go_wp2_with fail
      go_roundw
      case measure => simp [intOf]; omega
      case rel =>
        have h1 := hm.out.1; have h2 := hm.out.2.1; have h3 := hm.out.2.2.1; have h4 := hm.out.2.2.2; have h5 := HA1.out
        simp only [List.length_append] at h1
        exact ⟨i - j, j, P' ++ B', A2, A1, T', congrArg (Value.int .i64) (by omega), rfl, by omega, by omega, by omega, by omega, by omega, by simpa using hown1, hbb, by omega, h5, by simp; omega, by rw [h4]; simp⟩

end Go.Proofs.YtlcfnbnpkcjjlaaGreat

namespace Go.Proofs.YtlcfnbnpkcjjlaaGreat
open Go.RowKit
set_option linter.unusedVariables false
set_option linter.unusedSimpArgs false

theorem CmpOK.later {P : Program} {g : Nat} {lb : Array Value} {c : Int → Int → Int} {ok : Int → Prop} {base : Nat} {w w1 : World} (h : CmpOK P g lb c ok base w) (hb : Below base w w1) : CmpOK P g lb c ok base w1 :=
  fun W hW x y hx hy => h W (hb.trans hW) x y hx hy

/-- What the comparison of a later element y with an earlier one x says of the order R. -/
def Dec (c : Int → Int → Int) (R : Int → Int → Prop) (x y : Int) : Prop := (c y x < 0 → R y x) ∧ (¬ c y x < 0 → R x y)

def SortedOf (R : Int → Int → Prop) (L S : List Int) : Prop := S.Perm L ∧ S.Pairwise R

theorem pairwise_ins {R : Int → Int → Prop} (ht : ∀ x y z, R x y → R y z → R x z) (c : Int → Int → Int) (S1 S2 : List Int) (x : Int) (hS : (S1 ++ S2).Pairwise R) (hd : ∀ y ∈ S1 ++ S2, Dec c R y x)
    (h2 : ∀ y ∈ S2, c x y < 0) (h1 : S1 = [] ∨ ∃ S l, S1 = S ++ [l] ∧ ¬ c x l < 0) : (S1 ++ x :: S2).Pairwise R := by
  rw [List.pairwise_append] at hS ⊢
  obtain ⟨p1, p2, p3⟩ := hS
  have hx2 : ∀ y ∈ S2, R x y := fun y hy => (hd y (by simp [hy])).1 (h2 y hy)
  have hx1 : ∀ y ∈ S1, R y x := by
    rcases h1 with rfl | ⟨S, l, rfl, hl⟩
    · intro y hy; cases hy
    · have hlx : R l x := (hd l (by simp)).2 hl
      intro y hy
      rcases List.mem_append.1 hy with hy | hy
      · rw [List.pairwise_append] at p1
        exact ht _ _ _ (p1.2.2 y hy l (by simp)) hlx
      · simp at hy; rw [hy]; exact hlx
  refine ⟨p1, List.pairwise_cons.2 ⟨hx2, p2⟩, ?_⟩
  intro y hy z hz
  rcases List.mem_cons.1 hz with rfl | hz
  · exact hx1 y hy
  · exact p3 y hy z hz

set_option maxRecDepth 100000 in
set_option maxHeartbeats 2000000 in
theorem insertion_any (g : Nat) (lb : Array Value) (eg : ∀ args w, (callFunc g args).run Tryz.prog w = .ok (.enter g args) w) (c : Int → Int → Int) (ok : Int → Prop) (R : Int → Int → Prop) (ht : ∀ x y z, R x y → R y z → R x z)
    (P L T : List Int) (A B : Int) (base : Nat) (v : Value) (w : World) (hc : CmpOK Tryz.prog g lb c ok base w) (hown : Own base 3 eInt 1 w v (P ++ L ++ T)) (hbase : base ≤ w.heap.size) (hok : ∀ x ∈ L, ok x) (hdec : L.Pairwise (Dec c R))
    (hA : A = P.length) (hB : B = P.length + L.length) (hlen : P.length + L.length + T.length < 2147483648) :
    Calls Tryz.prog 98 #[v, .int .i64 A, .int .i64 B, .func (.func g) #[] lb] w fun e w' => e = .returned (.tuple #[]) ∧ (∃ S, Own base 3 eInt 1 w' v (P ++ S ++ T) ∧ SortedOf R L S) ∧ Below base w w' := by
  generalize hp : P.length = p at *
  generalize hl : L.length = l at *
  have Hp := Lib.hid hp; have Hl := Lib.hid hl; have Hok := Lib.hid hok; have Hdec := Lib.hid hdec; have Ht := Lib.hid ht; have Hc := Lib.hid hc
  clear hp hl hok hdec ht hc
  subst hA; subst hB
  obtain ⟨a, cap, rfl⟩ := hown.isSlice
  obtain ⟨n, hn⟩ : ∃ n, n = (P ++ L ++ T).length := ⟨_, rfl⟩
  rw [← hn] at hown ⊢
  have Hn := Lib.hid hn
  clear hn
  go_enter Tryz.func98, Tryz.ntmps98
  go_wp2_with fail
  go_loopw [8] (fun s8 wr => ∃ (i : Nat) (S U : List Int), s8 = .int .i64 i ∧ 1 ≤ i ∧ i ≤ p + l + 1 ∧ Own base 3 eInt 1 wr (.slice a n cap) (P ++ S ++ U ++ T) ∧ Below base w wr ∧
      Hid ((i ≤ p + l → p + S.length = i) ∧ (p + l ≤ i → U = []) ∧ S.length + U.length = l ∧ ∃ L1, L = L1 ++ U ∧ SortedOf R L1 S)) (fun i _ => p + l + 1 - (intOf i).toNat)
  case atStart =>
    have h1 := Hl.out
    cases L with
    | nil => exact ⟨p + 1, [], [], by go_num, by omega, by omega, by simpa using hown, Below.refl _ _, by simp at h1; omega, by simp, by simp at h1 ⊢; omega, [], rfl, by simp, by simp⟩
    | cons x L => exact ⟨p + 1, [x], L, by go_num, by omega, by simp at h1; omega, by simpa using hown, Below.refl _ _, by simp, fun h => List.eq_nil_of_length_eq_zero (by simp at h1; omega), by simp at h1 ⊢; omega, [x], rfl, List.Perm.refl _, by simp⟩
  case round =>
    obtain ⟨i, S, U, rfl, hi1, hi2, hown, hb, hm⟩ := hrel
    have hsz := hb.size
    by_cases hlt : i < p + l
    · have e1 : p + S.length = i := hm.out.1 (by omega)
      obtain ⟨x, U', hU⟩ : ∃ x U', U = x :: U' := by
        cases U with
        | nil => have := hm.out.2.2.1; simp at this; omega
        | cons x U' => exact ⟨x, U', rfl⟩
      subst hU
      have hpi : p ≤ i := by omega
      have E1 := Lib.hid e1
      clear e1
      have hltd : decide ((i : Int) < (p : Int) + l) = true := by simp; omega
      go_wp2_with fail
      obtain ⟨wo, rfl⟩ : ∃ wo : World, wo = wr := ⟨_, rfl⟩
      go_loopw [9] (fun s9 wr => ∃ (j : Nat) (S1 S2 : List Int), s9 = .int .i64 j ∧ p ≤ j ∧ j ≤ i ∧ Own base 3 eInt 1 wr (.slice a n cap) (P ++ S1 ++ x :: S2 ++ U' ++ T) ∧ Below base w wr ∧
        Hid (S = S1 ++ S2 ∧ p + S1.length = j ∧ ∀ y ∈ S2, c x y < 0)) (fun j _ => (intOf j).toNat)
      case atStart =>
        exact ⟨i, S, [], rfl, by omega, by omega, by simpa using hown, hb, by simp, E1.out, by simp⟩
      case round =>
        obtain ⟨j, S1, S2, rfl, hj1, hj2, hown, hb, hm2⟩ := hrel
        have hsz := hb.size
        have hokx : ok x := by
          obtain ⟨L1, hL1, _⟩ := hm.out.2.2.2
          exact Hok.out x (by rw [hL1]; simp)
        have hdone : Hid ((S1 = [] ∨ ∃ S l, S1 = S ++ [l] ∧ ¬ c x l < 0) → ((i + 1 ≤ p + l → p + (S1 ++ x :: S2).length = i + 1) ∧ (p + l ≤ i + 1 → U' = []) ∧ (S1 ++ x :: S2).length + U'.length = l ∧ ∃ L1, L = L1 ++ U' ∧ SortedOf R L1 (S1 ++ x :: S2))) := by
          show _ → _
          intro h1
          obtain ⟨m1, m2, m3, L1, hL1, hperm, hpw⟩ := hm.out
          obtain ⟨n1, n2, n3⟩ := hm2.out
          subst n1
          have hE := E1.out
          simp only [List.length_append, List.length_cons] at *
          refine ⟨by omega, fun h => List.eq_nil_of_length_eq_zero (by omega), by omega, L1 ++ [x], by simp [hL1], ?_, ?_⟩
          · exact (List.perm_middle.trans ((List.Perm.cons x hperm).trans (by simpa using (List.perm_append_comm (l₁ := [x]) (l₂ := L1)))))
          · refine pairwise_ins Ht.out c S1 S2 x hpw ?_ n3 h1
            intro y hy
            have hy1 : y ∈ L1 := hperm.mem_iff.1 hy
            have hd := Hdec.out
            rw [hL1, List.pairwise_append] at hd
            exact hd.2.2 y hy1 x (by simp)
        by_cases hja : p < j
        · obtain ⟨S1', y, hS1⟩ : ∃ S1' y, S1 = S1' ++ [y] := by
            rcases List.eq_nil_or_concat S1 with h | ⟨S1', y, h⟩
            · have := hm2.out.2.1; rw [h] at this; simp at this; omega
            · exact ⟨S1', y, by simpa using h⟩
          subst hS1
          obtain ⟨q, rfl⟩ : ∃ q, j = q + 1 := ⟨j - 1, by omega⟩
          have hq : q = (P ++ S1').length := by have := hm2.out.2.1; have := Hp.out; simp at *; omega
          have hx : P ++ (S1' ++ [y]) ++ x :: S2 ++ U' ++ T = (P ++ S1') ++ y :: ([] ++ x :: (S2 ++ U' ++ T)) := by simp
          have hoky : ok y := by
            obtain ⟨L1, hL1, hperm, _⟩ := hm.out.2.2.2
            refine Hok.out y ?_
            rw [hL1]
            exact List.mem_append_left _ (hperm.mem_iff.1 (by rw [hm2.out.1]; simp))
          have hnl := hown.len
          obtain ⟨gg, rfl, hbg, hgl, hc1, hc2⟩ := hown.placeA (by simp; omega)
          have hlq : ((q : Int) + 1) < n := by rw [hnl, hx]; simp at hq ⊢; omega
          have hlq2 : (q : Int) < n := by omega
          have c1 := hown.mid (P ++ S1' ++ [y]) (S2 ++ U' ++ T) x (q + 1) (by simp) (by simp at hq ⊢; omega)
          have c2 := hown.mid (P ++ S1') (x :: S2 ++ U' ++ T) y q (by simp) hq
          have f1 := hown.free (q + 1)
          have f2 := hown.free q
          have HX := Lib.hid hx
          have HQ := Lib.hid hq
          clear hx hq hnl
          have hj0 : 0 ≤ (q : Int) := by omega
          have hgd : decide ((p : Int) < (q : Int) + 1) = true := by simp; omega
          by_cases hcxy : c x y < 0
          · go_wp2_with fail
            go_quiet ((go_at_fn g; exact Calls.quiet_of (Hc.out _ (below_drewN hb _) x y hokx hoky)))
            go_wp2_with fail
            go_region
            go_wp2
            go_roundw
            case measure => simp [intOf]
            case rel =>
              refine ⟨q, S1', y :: S2, rfl, by omega, by omega, ?_, by repeat' (first | exact Below.refl _ _ | assumption | refine Below.more ?_ ?_ _ | refine Below.alloc ?_ ?_ _ | refine Below.drew ?_ | refine below_drewN ?_ _ | refine Below.setCell ?_ ?_ _ | exact Below.size (by assumption) | (simp [go_sem, size_more]; done) | (simp [go_sem, size_more]; omega)), ?_⟩
              · have := (hown.swap21 (P ++ S1') [] (S2 ++ U' ++ T) y x q (q + 1) HX.out HQ.out (by have := HQ.out; simp at *; omega))
                have e2 : P ++ S1' ++ x :: ([] ++ y :: (S2 ++ U' ++ T)) = P ++ S1' ++ x :: (y :: S2) ++ U' ++ T := by simp
                rw [e2] at this
                exact this.ofHeap rfl
              · obtain ⟨n1, n2, n3⟩ := hm2.out
                refine ⟨by rw [n1]; simp, by simp at n2; omega, ?_⟩
                intro z hz
                rcases List.mem_cons.1 hz with rfl | hz
                · exact hcxy
                · exact n3 z hz
          · go_wp2_with fail
            go_quiet ((go_at_fn g; exact Calls.quiet_of (Hc.out _ (below_drewN hb _) x y hokx hoky)))
            go_wp2_with fail
            go_roundw
            case measure => simp [intOf]; omega
            case rel =>
              refine ⟨i + 1, S1' ++ [y] ++ x :: S2, U', by go_num, by omega, by omega, ?_, by repeat' (first | exact Below.refl _ _ | assumption | refine Below.more ?_ ?_ _ | refine Below.alloc ?_ ?_ _ | refine Below.drew ?_ | refine below_drewN ?_ _ | refine Below.setCell ?_ ?_ _ | exact Below.size (by assumption) | (simp [go_sem, size_more]; done) | (simp [go_sem, size_more]; omega)), ?_⟩
              · have := hown.below (below_drewN (Below.refl wr.heap.size wr) nq)
                simpa using this
              · refine hdone.out (.inr ⟨S1', y, rfl, ?_⟩)
                omega
        · have hgd : decide ((p : Int) < (j : Int)) = false := by simp; omega
          obtain rfl : j = p := by omega
          have h0 : S1 = [] := by have := hm2.out.2.1; exact List.eq_nil_of_length_eq_zero (by omega)
          subst h0
          have HD := Lib.hid (hdone.out (.inl rfl))
          clear hdone
          go_wp2_with fail
          go_quiet (fail)
          go_wp2_with fail
          go_roundw
          case measure => simp [intOf]; omega
          case rel =>
            refine ⟨i + 1, [] ++ x :: S2, U', by go_num, by omega, by omega, ?_, by repeat' (first | exact Below.refl _ _ | assumption | refine Below.more ?_ ?_ _ | refine Below.alloc ?_ ?_ _ | refine Below.drew ?_ | refine below_drewN ?_ _ | refine Below.setCell ?_ ?_ _ | exact Below.size (by assumption) | (simp [go_sem, size_more]; done) | (simp [go_sem, size_more]; omega)), ?_⟩
            · have := hown.below (below_drewN (Below.refl wr.heap.size wr) nq)
              simpa using this
            · exact HD.out
    · go_wp2_with fail
      go_end0
      obtain ⟨m1, m2, m3, L1, hL1, hs⟩ := hm.out
      have hU : U = [] := m2 (by omega)
      subst hU
      refine ⟨rfl, ⟨S, by simpa using hown, ?_⟩, hb⟩
      rw [hL1]
      simpa using hs

end Go.Proofs.YtlcfnbnpkcjjlaaGreat

namespace Go.Proofs.YtlcfnbnpkcjjlaaGreat
open Go.RowKit
set_option linter.unusedVariables false
set_option linter.unusedSimpArgs false

theorem getD_mid (A M B : List Int) (i q : Nat) (hi : i = A.length + q) (hq : q < M.length) : (A ++ M ++ B).getD i 0 = M.getD q 0 := by
  subst hi
  simp only [List.getD]
  rw [List.append_assoc, List.getElem?_append_right (by omega), show A.length + q - A.length = q from by omega, List.getElem?_append_left hq]

theorem getD_mem (M : List Int) (q : Nat) (hq : q < M.length) : M.getD q 0 ∈ M := by
  simp [List.getD, List.getElem?_eq_getElem hq]

theorem pw_get {R : Int → Int → Prop} {M : List Int} (h : M.Pairwise R) (i j : Nat) (hij : i < j) (hj : j < M.length) : R (M.getD i 0) (M.getD j 0) := by
  have := List.pairwise_iff_getElem.1 h i j (by omega) hj hij
  simpa [List.getD, List.getElem?_eq_getElem hj, List.getElem?_eq_getElem (show i < M.length by omega)] using this

theorem mem_take_get {M : List Int} {n : Nat} {y : Int} (hy : y ∈ M.take n) : ∃ q, q < n ∧ q < M.length ∧ M.getD q 0 = y := by
  obtain ⟨q, hq, rfl⟩ := List.getElem_of_mem hy
  simp only [List.length_take] at hq
  exact ⟨q, by omega, by omega, by simp [List.getD, List.getElem?_eq_getElem (show q < M.length by omega)]⟩

theorem mem_drop_get {M : List Int} {n : Nat} {y : Int} (hy : y ∈ M.drop n) : ∃ q, n ≤ q ∧ q < M.length ∧ M.getD q 0 = y := by
  obtain ⟨q, hq, rfl⟩ := List.getElem_of_mem hy
  simp only [List.length_drop] at hq
  exact ⟨n + q, by omega, by omega, by simp [List.getD, List.getElem?_eq_getElem (show n + q < M.length by omega)]⟩

set_option maxRecDepth 1000000 in
set_option maxHeartbeats 2000000 in
theorem sym_left (g : Nat) (lb : Array Value) (eg : ∀ args w, (callFunc g args).run Tryz.prog w = .ok (.enter g args) w) (c : Int → Int → Int) (ok : Int → Prop) (R : Int → Int → Prop) (ht : ∀ x y z, R x y → R y z → R x z)
    (P M T : List Int) (x : Int) (A B D : Int) (base : Nat) (v : Value) (w : World) (hc : CmpOK Tryz.prog g lb c ok base w) (hown : Own base 3 eInt 1 w v (P ++ x :: M ++ T)) (hbase : base ≤ w.heap.size) (hokx : ok x) (hok : ∀ y ∈ M, ok y)
    (hdec : ∀ y ∈ M, Dec c R x y) (hM : M.Pairwise R) (hA : A = P.length) (hB : B = P.length + 1) (hD : D = P.length + 1 + M.length) (hlen : P.length + M.length + T.length < 2147483640) :
    Calls Tryz.prog 99 #[v, .int .i64 A, .int .i64 B, .int .i64 D, .func (.func g) #[] lb] w fun e w' => e = .returned (.tuple #[]) ∧ (∃ S, Own base 3 eInt 1 w' v (P ++ S ++ T) ∧ SortedOf R (x :: M) S) ∧ Below base w w' := by
  generalize hp : P.length = p at *
  generalize hl : M.length = l at *
  have Hp := Lib.hid hp; have Hl := Lib.hid hl; have Hok := Lib.hid hok; have Hdec := Lib.hid hdec; have Ht := Lib.hid ht; have Hc := Lib.hid hc; have HM := Lib.hid hM
  clear hp hl hok hdec ht hc hM
  subst hA; subst hB; subst hD
  obtain ⟨a, cap, rfl⟩ := hown.isSlice
  obtain ⟨n, hn⟩ : ∃ n, n = (P ++ x :: M ++ T).length := ⟨_, rfl⟩
  rw [← hn] at hown ⊢
  obtain ⟨gg, rfl, hbg, hgl, hc1, hc2⟩ := hown.placeA (by simp; omega)
  have hnl : n = p + 1 + l + T.length := by have := Hp.out; have := Hl.out; rw [hn]; simp; omega
  clear hn
  have hpn : (p : Int) < n := by omega
  have hpn2 : (p : Int) + 1 + l ≤ n := by omega
  have hnm : (n : Int) < 2147483648 := by omega
  clear hnl
  have hone : (((p : Int) + 1 - p) == 1) = true := by simp; omega
  go_enter Tryz.func99, Tryz.ntmps99
  go_wp2_with fail
  go_loopw [10, 11] (fun s10 s11 wr => ∃ (i j : Nat), s10 = .int .i64 i ∧ s11 = .int .i64 j ∧ p + 1 ≤ i ∧ i ≤ j ∧ j ≤ p + 1 + l ∧ Own base 3 eInt 1 wr (.slice (some ⟨gg, 0, none⟩) n cap) (P ++ x :: M ++ T) ∧ Below base w wr ∧
      Hid ((∀ q, q < i - (p + 1) → R (M.getD q 0) x) ∧ (∀ q, j - (p + 1) ≤ q → q < l → R x (M.getD q 0)))) (fun i j _ => (intOf j).toNat - (intOf i).toNat)
  case atStart => exact ⟨p + 1, p + 1 + l, by go_num, by go_num, by omega, by omega, by omega, hown, Below.refl _ _, fun q hq => by omega, fun q hq hq2 => by omega⟩
  case round =>
    obtain ⟨i, j, rfl, rfl, hi, hij, hj, hown, hb, hm⟩ := hrel
    have hsz := hb.size
    have hx0 : wr.cell? ⟨gg, p, none⟩ = some (.int .i64 x) := hown.mid P (M ++ T) x p (by simp) Hp.out.symm
    by_cases hlt : i < j
    · obtain ⟨h, hh⟩ : ∃ h : Nat, ((i : Int) + j) / 2 = h := ⟨(i + j) / 2, by omega⟩
      have h1 : i ≤ h := by omega
      have h2 : h < j := by omega
      obtain ⟨y, hy⟩ : ∃ y, Hid (M.getD (h - (p + 1)) 0 = y) := ⟨M.getD (h - (p + 1)) 0, rfl⟩
      have hym : y ∈ M := by rw [← hy.out]; exact getD_mem M _ (by have := Hl.out; omega)
      have cy : wr.cell? ⟨gg, h, none⟩ = some (.int .i64 y) := by
        have := hown.int h (by have := Hp.out; have := Hl.out; simp; omega)
        rw [this, ← hy.out]
        have e : P ++ x :: M ++ T = (P ++ [x]) ++ M ++ T := by simp
        rw [e, getD_mid (P ++ [x]) M T h (h - (p + 1)) (by have := Hp.out; simp; omega) (by have := Hl.out; omega)]
      have hn0 : (0 : Int) ≤ h := by omega
      have hn1 : (h : Int) < n := by omega
      have hij' : decide ((i : Int) < j) = true := by simp; omega
      have HY := Lib.hid (Hdec.out y hym)
      have hoky := Hok.out y hym
      by_cases hcy : c y x < 0
      · go_wp2_with fail
        go_quiet ((go_at_fn g; exact Calls.quiet_of (Hc.out _ (below_drewN hb _) y x hoky hokx)))
        go_wp2_with fail
        go_roundw
        case measure => simp [intOf]; omega
        case rel =>
          refine ⟨h + 1, j, by go_num, rfl, by omega, by omega, by omega, hown.ofHeap rfl, by repeat' (first | exact Below.refl _ _ | assumption | refine Below.more ?_ ?_ _ | refine Below.alloc ?_ ?_ _ | refine Below.drew ?_ | refine below_drewN ?_ _ | refine Below.setCell ?_ ?_ _ | exact Below.size (by assumption) | (simp [go_sem, size_more]; done) | (simp [go_sem, size_more]; omega)), ?_, hm.out.2⟩
          intro q hq
          have hyx := HY.out.1 hcy
          by_cases hqh : q = h - (p + 1)
          · rw [hqh, hy.out]; exact hyx
          · refine Ht.out _ _ _ (pw_get HM.out q (h - (p + 1)) (by omega) (by have := Hl.out; omega)) ?_
            rw [hy.out]; exact hyx
      · have hcb : decide (c y x < 0) = false := by simp; omega
        go_wp2_with fail
        go_quiet ((go_at_fn g; exact Calls.quiet_of (Hc.out _ (below_drewN hb _) y x hoky hokx)))
        go_wp2_with fail
        go_roundw
        case measure => simp [intOf]; omega
        case rel =>
          refine ⟨i, h, rfl, rfl, by omega, by omega, by omega, hown.ofHeap rfl, by repeat' (first | exact Below.refl _ _ | assumption | refine Below.more ?_ ?_ _ | refine Below.alloc ?_ ?_ _ | refine Below.drew ?_ | refine below_drewN ?_ _ | refine Below.setCell ?_ ?_ _ | exact Below.size (by assumption) | (simp [go_sem, size_more]; done) | (simp [go_sem, size_more]; omega)), hm.out.1, ?_⟩
          intro q hq hql
          have hyx := HY.out.2 (by omega)
          by_cases hqh : q = h - (p + 1)
          · rw [hqh, hy.out]; exact hyx
          · refine Ht.out _ (M.getD (h - (p + 1)) 0) _ ?_ (pw_get HM.out (h - (p + 1)) q (by omega) (by have := Hl.out; omega))
            rw [hy.out]; exact hyx
    · obtain rfl : i = j := by omega
      have hij' : decide ((i : Int) < i) = false := by simp
      go_wp2_with fail
      obtain ⟨wo, rfl⟩ : ∃ wo : World, wo = wr := ⟨_, rfl⟩
      clear hx0
      go_loopw [13] (fun s13 wr => ∃ (k : Nat), s13 = .int .i64 k ∧ p ≤ k ∧ k + 1 ≤ i ∧ Own base 3 eInt 1 wr (.slice (some ⟨gg, 0, none⟩) n cap) (P ++ M.take (k - p) ++ x :: (M.drop (k - p) ++ T)) ∧ Below base w wr) (fun k _ => i - (intOf k).toNat)
      case atStart => exact ⟨p, rfl, by omega, by omega, by simpa using hown, hb⟩
      case round =>
        obtain ⟨k, rfl, hk1, hk2, hown, hb⟩ := hrel
        have hsz := hb.size
        by_cases hlt2 : k + 1 < i
        · obtain ⟨y, hy⟩ : ∃ y, Hid (M.drop (k - p) = y :: M.drop (k + 1 - p)) := ⟨M[k - p]'(by have := Hl.out; omega), by
            show M.drop (k - p) = _
            rw [show k + 1 - p = (k - p) + 1 from by omega]
            exact List.drop_eq_getElem_cons (by have := Hl.out; omega)⟩
          have htk : (M.take (k - p)).length = k - p := by have := Hl.out; simp; omega
          have hx : P ++ M.take (k - p) ++ x :: (M.drop (k - p) ++ T) = (P ++ M.take (k - p)) ++ x :: ([] ++ y :: (M.drop (k + 1 - p) ++ T)) := by rw [hy.out]; simp
          have hk : k = (P ++ M.take (k - p)).length := by have := Hp.out; rw [List.length_append, htk]; omega
          have c1 := hown.mid (P ++ M.take (k - p)) ([] ++ y :: (M.drop (k + 1 - p) ++ T)) x k hx hk
          have c2 := hown.mid (P ++ M.take (k - p) ++ [x]) (M.drop (k + 1 - p) ++ T) y (k + 1) (by rw [hx]; simp) (by rw [List.length_append, ← hk]; simp)
          have f1 := hown.free k
          have f2 := hown.free (k + 1)
          have HX := Lib.hid hx
          have HK := Lib.hid hk
          have HT := Lib.hid htk
          clear hx hk htk
          have hn0 : (k : Int) + 1 < n := by omega
          have hn1 : (k : Int) < n := by omega
          have hd : decide ((k : Int) < i - 1) = true := by simp; omega
          go_wp2_with fail
          go_region
          go_wp2
          go_roundw
          case measure => simp [intOf]; omega
          case rel =>
            refine ⟨k + 1, by go_num, by omega, by omega, ?_, by repeat' (first | exact Below.refl _ _ | assumption | refine Below.more ?_ ?_ _ | refine Below.alloc ?_ ?_ _ | refine Below.drew ?_ | refine below_drewN ?_ _ | refine Below.setCell ?_ ?_ _ | exact Below.size (by assumption) | (simp [go_sem, size_more]; done) | (simp [go_sem, size_more]; omega))⟩
            have := hown.swap12 (P ++ M.take (k - p)) [] (M.drop (k + 1 - p) ++ T) x y k (k + 1) HX.out HK.out (by rw [← HK.out]; simp)
            have e : P ++ M.take (k - p) ++ y :: ([] ++ x :: (M.drop (k + 1 - p) ++ T)) = P ++ M.take (k + 1 - p) ++ x :: (M.drop (k + 1 - p) ++ T) := by
              have e2 : M.take (k + 1 - p) = M.take (k - p) ++ [y] := by
                rw [show k + 1 - p = (k - p) + 1 from by omega, List.take_add_one]
                have : M[k - p]? = some y := by
                  have h3 := hy.out
                  rw [List.drop_eq_getElem_cons (by have := Hl.out; omega)] at h3
                  simp only [List.cons.injEq] at h3
                  rw [List.getElem?_eq_getElem (by have := Hl.out; omega), h3.1]
                rw [this]; rfl
              rw [e2]; simp
            rw [e] at this
            exact this.ofHeap rfl
        · obtain rfl : i = k + 1 := by omega
          have hd : decide ((k : Int) < ((k + 1 : Nat) : Int) - 1) = false := by simp
          go_wp2_with fail
          (try simp only [Exit.inBlock, Exit.then])
          refine bodyPost_ret (results_none rfl _ _ _) rfl ⟨rfl, ⟨M.take (k - p) ++ x :: M.drop (k - p), by simpa using hown, ?_, ?_⟩, hb⟩
          · have e : (M.take (k - p) ++ x :: M.drop (k - p)).Perm (x :: (M.take (k - p) ++ M.drop (k - p))) := List.perm_middle
            rw [List.take_append_drop] at e
            exact e
          · have hpw := HM.out
            rw [← List.take_append_drop (k - p) M, List.pairwise_append] at hpw
            rw [List.pairwise_append]
            obtain ⟨m1, m2⟩ := hm.out
            refine ⟨hpw.1, List.pairwise_cons.2 ⟨?_, hpw.2.1⟩, ?_⟩
            · intro y hy
              obtain ⟨q, hq1, hq2, rfl⟩ := mem_drop_get hy
              exact m2 q (by omega) (by have := Hl.out; omega)
            · intro z hz y hy
              obtain ⟨q, hq1, hq2, rfl⟩ := mem_take_get hz
              rcases List.mem_cons.1 hy with rfl | hy
              · exact m1 q (by omega)
              · exact hpw.2.2 _ hz _ hy

set_option maxRecDepth 1000000 in
set_option maxHeartbeats 2000000 in
theorem sym_right (g : Nat) (lb : Array Value) (eg : ∀ args w, (callFunc g args).run Tryz.prog w = .ok (.enter g args) w) (c : Int → Int → Int) (ok : Int → Prop) (R : Int → Int → Prop) (ht : ∀ x y z, R x y → R y z → R x z)
    (P L T : List Int) (y : Int) (A B D : Int) (base : Nat) (v : Value) (w : World) (hc : CmpOK Tryz.prog g lb c ok base w) (hown : Own base 3 eInt 1 w v (P ++ L ++ y :: T)) (hbase : base ≤ w.heap.size) (hoky : ok y) (hok : ∀ x ∈ L, ok x)
    (hdec : ∀ x ∈ L, Dec c R x y) (hL : L.Pairwise R) (hL2 : 2 ≤ L.length) (hA : A = P.length) (hB : B = P.length + L.length) (hD : D = P.length + L.length + 1) (hlen : P.length + L.length + T.length < 2147483640) :
    Calls Tryz.prog 99 #[v, .int .i64 A, .int .i64 B, .int .i64 D, .func (.func g) #[] lb] w fun e w' => e = .returned (.tuple #[]) ∧ (∃ S, Own base 3 eInt 1 w' v (P ++ S ++ T) ∧ SortedOf R (L ++ [y]) S) ∧ Below base w w' := by
  generalize hp : P.length = p at *
  generalize hl : L.length = l at *
  have Hp := Lib.hid hp; have Hl := Lib.hid hl; have Hok := Lib.hid hok; have Hdec := Lib.hid hdec; have Ht := Lib.hid ht; have Hc := Lib.hid hc; have HM := Lib.hid hL
  clear hp hl hok hdec ht hc hL
  subst hA; subst hB; subst hD
  obtain ⟨a, cap, rfl⟩ := hown.isSlice
  obtain ⟨n, hn⟩ : ∃ n, n = (P ++ L ++ y :: T).length := ⟨_, rfl⟩
  rw [← hn] at hown ⊢
  obtain ⟨gg, rfl, hbg, hgl, hc1, hc2⟩ := hown.placeA (by simp; omega)
  have hnl : n = p + l + 1 + T.length := by have := Hp.out; have := Hl.out; rw [hn]; simp; omega
  clear hn
  have hpn : (p : Int) < n := by omega
  have hpn2 : (p : Int) + l + 1 ≤ n := by omega
  have hpn3 : (p : Int) + l < n := by omega
  have hnm : (n : Int) < 2147483648 := by omega
  clear hnl
  have hone0 : (((p : Int) + l - p) == 1) = false := by simp; omega
  have hone : (((p : Int) + l + 1 - (p + l)) == 1) = true := by simp; omega
  go_enter Tryz.func99, Tryz.ntmps99
  go_wp2_with fail
  go_loopw [14, 15] (fun s10 s11 wr => ∃ (i j : Nat), s10 = .int .i64 i ∧ s11 = .int .i64 j ∧ p ≤ i ∧ i ≤ j ∧ j ≤ p + l ∧ Own base 3 eInt 1 wr (.slice (some ⟨gg, 0, none⟩) n cap) (P ++ L ++ y :: T) ∧ Below base w wr ∧
      Hid ((∀ q, q < i - p → R (L.getD q 0) y) ∧ (∀ q, j - p ≤ q → q < l → R y (L.getD q 0)))) (fun i j _ => (intOf j).toNat - (intOf i).toNat)
  case atStart => exact ⟨p, p + l, by go_num, by go_num, by omega, by omega, by omega, hown, Below.refl _ _, fun q hq => by omega, fun q hq hq2 => by omega⟩
  case round =>
    obtain ⟨i, j, rfl, rfl, hi, hij, hj, hown, hb, hm⟩ := hrel
    have hsz := hb.size
    have hy0 : wr.cell? ⟨gg, p + l, none⟩ = some (.int .i64 y) := hown.mid (P ++ L) T y (p + l) (by simp) (by have := Hp.out; have := Hl.out; simp; omega)
    by_cases hlt : i < j
    · obtain ⟨h, hh⟩ : ∃ h : Nat, ((i : Int) + j) / 2 = h := ⟨(i + j) / 2, by omega⟩
      have h1 : i ≤ h := by omega
      have h2 : h < j := by omega
      obtain ⟨x, hx⟩ : ∃ x, Hid (L.getD (h - p) 0 = x) := ⟨L.getD (h - p) 0, rfl⟩
      have hxm : x ∈ L := by rw [← hx.out]; exact getD_mem L _ (by have := Hl.out; omega)
      have cx : wr.cell? ⟨gg, h, none⟩ = some (.int .i64 x) := by
        have := hown.int h (by have := Hp.out; have := Hl.out; simp; omega)
        rw [this, ← hx.out, getD_mid P L (y :: T) h (h - p) (by have := Hp.out; omega) (by have := Hl.out; omega)]
      have hn0 : (0 : Int) ≤ h := by omega
      have hn1 : (h : Int) < n := by omega
      have hij' : decide ((i : Int) < j) = true := by simp; omega
      have HY := Lib.hid (Hdec.out x hxm)
      have hokx := Hok.out x hxm
      by_cases hcy : c y x < 0
      · have hcb : decide (c y x < 0) = true := by simp; omega
        go_wp2_with fail
        go_quiet ((go_at_fn g; exact Calls.quiet_of (Hc.out _ (below_drewN hb _) y x hoky hokx)))
        go_wp2_with fail
        go_roundw
        case measure => simp [intOf]; omega
        case rel =>
          refine ⟨i, h, rfl, rfl, by omega, by omega, by omega, hown.ofHeap rfl, by repeat' (first | exact Below.refl _ _ | assumption | refine Below.more ?_ ?_ _ | refine Below.alloc ?_ ?_ _ | refine Below.drew ?_ | refine below_drewN ?_ _ | refine Below.setCell ?_ ?_ _ | exact Below.size (by assumption) | (simp [go_sem, size_more]; done) | (simp [go_sem, size_more]; omega)), hm.out.1, ?_⟩
          intro q hq hql
          have hyx := HY.out.1 hcy
          by_cases hqh : q = h - p
          · rw [hqh, hx.out]; exact hyx
          · refine Ht.out _ (L.getD (h - p) 0) _ ?_ (pw_get HM.out (h - p) q (by omega) (by have := Hl.out; omega))
            rw [hx.out]; exact hyx
      · have hcb : decide (c y x < 0) = false := by simp; omega
        have HC := Lib.hid hcy
        go_wp2_with fail
        go_quiet ((go_at_fn g; exact Calls.quiet_of (Hc.out _ (below_drewN hb _) y x hoky hokx)))
        go_wp2_with fail
        go_roundw
        case measure => simp [intOf]; omega
        case rel =>
          refine ⟨h + 1, j, by go_num, rfl, by omega, by omega, by omega, hown.ofHeap rfl, by repeat' (first | exact Below.refl _ _ | assumption | refine Below.more ?_ ?_ _ | refine Below.alloc ?_ ?_ _ | refine Below.drew ?_ | refine below_drewN ?_ _ | refine Below.setCell ?_ ?_ _ | exact Below.size (by assumption) | (simp [go_sem, size_more]; done) | (simp [go_sem, size_more]; omega)), ?_, hm.out.2⟩
          intro q hq
          have hyx := HY.out.2 (by have := HC.out; omega)
          by_cases hqh : q = h - p
          · rw [hqh, hx.out]; exact hyx
          · refine Ht.out _ _ _ (pw_get HM.out q (h - p) (by omega) (by have := Hl.out; omega)) ?_
            rw [hx.out]; exact hyx
    · obtain rfl : i = j := by omega
      have hij' : decide ((i : Int) < i) = false := by simp
      go_wp2_with fail
      obtain ⟨wo, rfl⟩ : ∃ wo : World, wo = wr := ⟨_, rfl⟩
      clear hy0
      go_loopw [17] (fun s13 wr => ∃ (k : Nat), s13 = .int .i64 k ∧ i ≤ k ∧ k ≤ p + l ∧ Own base 3 eInt 1 wr (.slice (some ⟨gg, 0, none⟩) n cap) (P ++ L.take (k - p) ++ y :: (L.drop (k - p) ++ T)) ∧ Below base w wr) (fun k _ => (intOf k).toNat)
      case atStart => exact ⟨p + l, by go_num, by omega, by omega, by rw [show p + l - p = L.length from by have := Hl.out; omega]; simpa using hown, hb⟩
      case round =>
        obtain ⟨k, rfl, hk1, hk2, hown, hb⟩ := hrel
        have hsz := hb.size
        by_cases hlt2 : i < k
        · obtain ⟨q, rfl⟩ : ∃ q, k = q + 1 := ⟨k - 1, by omega⟩
          obtain ⟨x, hx0⟩ : ∃ x, Hid (L.drop (q - p) = x :: L.drop (q + 1 - p)) := ⟨L[q - p]'(by have := Hl.out; omega), by
            show L.drop (q - p) = _
            rw [show q + 1 - p = (q - p) + 1 from by omega]
            exact List.drop_eq_getElem_cons (by have := Hl.out; omega)⟩
          have htk : (L.take (q - p)).length = q - p := by have := Hl.out; simp; omega
          have e2 : L.take (q + 1 - p) = L.take (q - p) ++ [x] := by
            rw [show q + 1 - p = (q - p) + 1 from by omega, List.take_add_one]
            have : L[q - p]? = some x := by
              have h3 := hx0.out
              rw [List.drop_eq_getElem_cons (by have := Hl.out; omega)] at h3
              simp only [List.cons.injEq] at h3
              rw [List.getElem?_eq_getElem (by have := Hl.out; omega), h3.1]
            rw [this]; rfl
          have hx : P ++ L.take (q + 1 - p) ++ y :: (L.drop (q + 1 - p) ++ T) = (P ++ L.take (q - p)) ++ x :: ([] ++ y :: (L.drop (q + 1 - p) ++ T)) := by rw [e2]; simp
          have hk : q = (P ++ L.take (q - p)).length := by have := Hp.out; rw [List.length_append, htk]; omega
          have c1 := hown.mid (P ++ L.take (q - p)) ([] ++ y :: (L.drop (q + 1 - p) ++ T)) x q hx hk
          have c2 := hown.mid (P ++ L.take (q - p) ++ [x]) (L.drop (q + 1 - p) ++ T) y (q + 1) (by rw [hx]; simp) (by rw [List.length_append, ← hk]; simp)
          have f1 := hown.free q
          have f2 := hown.free (q + 1)
          have HX := Lib.hid hx
          have HK := Lib.hid hk
          clear hx hk htk e2
          have hn0 : (q : Int) + 1 < n := by omega
          have hn1 : (q : Int) < n := by omega
          have hd : decide ((i : Int) < (q : Int) + 1) = true := by simp; omega
          go_wp2_with fail
          go_region
          go_wp2
          go_roundw
          case measure => simp [intOf]
          case rel =>
            refine ⟨q, by go_num, by omega, by omega, ?_, by repeat' (first | exact Below.refl _ _ | assumption | refine Below.more ?_ ?_ _ | refine Below.alloc ?_ ?_ _ | refine Below.drew ?_ | refine below_drewN ?_ _ | refine Below.setCell ?_ ?_ _ | exact Below.size (by assumption) | (simp [go_sem, size_more]; done) | (simp [go_sem, size_more]; omega))⟩
            have := hown.swap21 (P ++ L.take (q - p)) [] (L.drop (q + 1 - p) ++ T) x y q (q + 1) HX.out HK.out (by rw [← HK.out]; simp)
            have e : P ++ L.take (q - p) ++ y :: ([] ++ x :: (L.drop (q + 1 - p) ++ T)) = P ++ L.take (q - p) ++ y :: (L.drop (q - p) ++ T) := by
              rw [hx0.out]; simp
            rw [e] at this
            exact this.ofHeap rfl
        · obtain rfl : k = i := by omega
          have hd : decide ((k : Int) < (k : Int)) = false := by simp
          go_wp2_with fail
          (try simp only [Exit.inBlock, Exit.then])
          refine bodyPost_ret (results_none rfl _ _ _) rfl ⟨rfl, ⟨L.take (k - p) ++ y :: L.drop (k - p), by simpa using hown, ?_, ?_⟩, hb⟩
          · have e : (L.take (k - p) ++ y :: L.drop (k - p)).Perm (y :: (L.take (k - p) ++ L.drop (k - p))) := List.perm_middle
            rw [List.take_append_drop] at e
            exact e.trans (by simpa using (List.perm_append_comm (l₁ := [y]) (l₂ := L)))
          · have hpw := HM.out
            rw [← List.take_append_drop (k - p) L, List.pairwise_append] at hpw
            rw [List.pairwise_append]
            obtain ⟨m1, m2⟩ := hm.out
            refine ⟨hpw.1, List.pairwise_cons.2 ⟨?_, hpw.2.1⟩, ?_⟩
            · intro z hz
              obtain ⟨q, hq1, hq2, rfl⟩ := mem_drop_get hz
              exact m2 q (by omega) (by have := Hl.out; omega)
            · intro z hz x hx
              obtain ⟨q, hq1, hq2, rfl⟩ := mem_take_get hz
              rcases List.mem_cons.1 hx with rfl | hx
              · exact m1 q (by omega)
              · exact hpw.2.2 _ hz _ hx

end Go.Proofs.YtlcfnbnpkcjjlaaGreat

namespace Go.Proofs.YtlcfnbnpkcjjlaaGreat
open Go.RowKit
set_option linter.unusedVariables false
set_option linter.unusedSimpArgs false

theorem rotate_at (fv : Value) (P A B T : List Int) (X Y Z : Int) (base : Nat) (v : Value) (w : World) (hown : Own base 3 eInt 1 w v (P ++ A ++ B ++ T)) (hbase : base ≤ w.heap.size)
    (hA : 0 < A.length) (hB : 0 < B.length) (hX : X = P.length) (hY : Y = P.length + A.length) (hZ : Z = P.length + A.length + B.length) (hlen : P.length + A.length + B.length + T.length < 2147483648) :
    Calls Tryz.prog 115 #[v, .int .i64 X, .int .i64 Y, .int .i64 Z, fv] w fun e w' => e = .returned (.tuple #[]) ∧ Own base 3 eInt 1 w' v (P ++ B ++ A ++ T) ∧ Below base w w' := by
  subst hX; subst hY; subst hZ
  exact rotate_any fv P A B T base v w hown hbase hA hB hlen

theorem sorted_app {R : Int → Int → Prop} {A B SA SB : List Int} (h1 : SortedOf R A SA) (h2 : SortedOf R B SB) (h : ∀ x ∈ A, ∀ y ∈ B, R x y) : SortedOf R (A ++ B) (SA ++ SB) :=
  ⟨h1.1.append h2.1, List.pairwise_append.2 ⟨h1.2, h2.2, fun x hx y hy => h x (h1.1.mem_iff.1 hx) y (h2.1.mem_iff.1 hy)⟩⟩

/-- The last step of symMerge: two sorted halves. -/
theorem sym_fin {R : Int → Int → Prop} {L M L1 L2 M1 M2 S1 S2 : List Int} (hL : L = L1 ++ L2) (hM : M = M1 ++ M2) (h1 : SortedOf R (L1 ++ M1) S1) (h2 : SortedOf R (L2 ++ M2) S2) (h : ∀ x ∈ L1 ++ M1, ∀ y ∈ L2 ++ M2, R x y) : SortedOf R (L ++ M) (S1 ++ S2) := by
  have := sorted_app h1 h2 h
  refine ⟨this.1.trans ?_, this.2⟩
  subst hL; subst hM
  have e1 : (L1 ++ M1) ++ (L2 ++ M2) = L1 ++ ((M1 ++ L2) ++ M2) := by simp
  have e2 : (L1 ++ L2) ++ (M1 ++ M2) = L1 ++ ((L2 ++ M1) ++ M2) := by simp
  rw [e1, e2]
  exact (List.perm_append_left_iff L1).2 ((List.perm_append_right_iff M2).2 List.perm_append_comm)

theorem sorted_self {R : Int → Int → Prop} {L : List Int} (h : L.Pairwise R) : SortedOf R L L := ⟨List.Perm.refl _, h⟩

set_option maxRecDepth 1000000 in
set_option maxHeartbeats 8000000 in
theorem sym_any (g : Nat) (lb : Array Value) (eg : ∀ args w, (callFunc g args).run Tryz.prog w = .ok (.enter g args) w) (c : Int → Int → Int) (ok : Int → Prop) (R : Int → Int → Prop) (ht : ∀ x y z, R x y → R y z → R x z) (base : Nat) (v : Value) :
    ∀ (d : Nat) (P L M T : List Int) (A B D : Int) (w : World), L.length + M.length ≤ d → CmpOK Tryz.prog g lb c ok base w → Own base 3 eInt 1 w v (P ++ L ++ M ++ T) → base ≤ w.heap.size → (∀ x ∈ L, ok x) → (∀ y ∈ M, ok y) →
    (∀ x ∈ L, ∀ y ∈ M, Dec c R x y) → L.Pairwise R → M.Pairwise R → 0 < L.length → 0 < M.length → A = P.length → B = P.length + L.length → D = P.length + L.length + M.length → P.length + L.length + M.length + T.length < 2147483640 →
    Calls Tryz.prog 99 #[v, .int .i64 A, .int .i64 B, .int .i64 D, .func (.func g) #[] lb] w fun e w' => e = .returned (.tuple #[]) ∧ (∃ S, Own base 3 eInt 1 w' v (P ++ S ++ T) ∧ SortedOf R (L ++ M) S) ∧ Below base w w' := by
  intro d
  induction d with
  | zero => intro P L M T A B D w hd; intros; omega
  | succ d ih =>
    intro P L M T A B D w hd hc hown hbase hokL hokM hdec hL hM hL0 hM0 hA hB hD hlen
    by_cases hl1 : L.length = 1
    · obtain ⟨x, rfl⟩ := List.length_eq_one_iff.1 hl1
      have := sym_left g lb eg c ok R ht P M T x A B D base v w hc (by simpa using hown) hbase (hokL x (by simp)) hokM (hdec x (by simp)) hM hA (by simpa using hB) (by simpa using hD) (by simp at hlen; omega)
      simpa using this
    by_cases hm1 : M.length = 1
    · obtain ⟨y, rfl⟩ := List.length_eq_one_iff.1 hm1
      have := sym_right g lb eg c ok R ht P L T y A B D base v w hc (by simpa using hown) hbase (hokM y (by simp)) hokL (fun x hx => hdec x hx y (by simp)) hL (by omega) hA hB (by simpa using hD) (by simp at hlen; omega)
      simpa using this
    obtain ⟨p, hp⟩ : ∃ p, P.length = p := ⟨_, rfl⟩
    obtain ⟨m, hm⟩ : ∃ m, P.length + L.length = m := ⟨_, rfl⟩
    obtain ⟨b, hb⟩ : ∃ b, P.length + L.length + M.length = b := ⟨_, rfl⟩
    obtain rfl : A = (p : Int) := by omega
    obtain rfl : B = (m : Int) := by omega
    obtain rfl : D = (b : Int) := by omega
    have hpm : p + 2 ≤ m := by omega
    have hmb : m + 2 ≤ b := by omega
    have hbT : b + T.length < 2147483640 := by omega
    have hdd : b ≤ p + (d + 1) := by omega
    have Hl : Hid (L.length = m - p) := by show _ = _; omega
    have Hk : Hid (M.length = b - m) := by show _ = _; omega
    have Hp := Lib.hid hp; have HokL := Lib.hid hokL; have HokM := Lib.hid hokM; have Hdec := Lib.hid hdec; have Ht := Lib.hid ht; have Hc := Lib.hid hc; have HL := Lib.hid hL; have HM := Lib.hid hM; have IH := Lib.hid ih
    clear hp hm hb hokL hokM hdec ht hc hL hM ih hl1 hm1 hL0 hM0 hA hB hD hlen hd
    obtain ⟨a, cap, rfl⟩ := hown.isSlice
    obtain ⟨n, hn⟩ : ∃ n, n = (P ++ L ++ M ++ T).length := ⟨_, rfl⟩
    rw [← hn] at hown IH ⊢
    obtain ⟨gg, rfl, hbg, hgl, hc1, hc2⟩ := hown.placeA (by have := Hl.out; simp; omega)
    have hnl : n = b + T.length := by have := Hp.out; have := Hl.out; have := Hk.out; rw [hn]; simp; omega
    clear hn
    have hbn : (b : Int) ≤ n := by omega
    have hnm : (n : Int) < 2147483648 := by omega
    clear hnl
    obtain ⟨mid, hmid⟩ : ∃ mid : Nat, ((p : Int) + b) / 2 = mid := ⟨(p + b) / 2, by omega⟩
    have hmid1 : p + 2 ≤ mid := by omega
    have hmid2 : mid + 2 ≤ b := by omega
    have hmid3 : 2 * mid ≤ p + b := by omega
    have hmid4 : p + b ≤ 2 * mid + 1 := by omega
    have t1 : (((m : Int) - p) == 1) = false := by simp; omega
    have t2 : (((b : Int) - m) == 1) = false := by simp; omega
    go_enter Tryz.func99, Tryz.ntmps99
    go_upto_if 140 with fail
    go_cut [20, 21] (fun s20 s21 wx => w = wx ∧ ∃ s r : Nat, s20 = .int .i64 s ∧ s21 = .int .i64 r ∧ p ≤ s ∧ mid + m ≤ s + b ∧ s ≤ r ∧ r ≤ mid ∧ r ≤ m ∧ ((s + b = mid + m ∧ r = mid) ∨ (s = p ∧ r = m)))
    case first =>
      by_cases hcm : mid < m
      · obtain ⟨s0, hs0⟩ : ∃ s0 : Nat, (mid : Int) + m - b = s0 := ⟨mid + m - b, by omega⟩
        have dcm : decide (mid < m) = true := by simp; omega
        simp only [dcm]
        go_wp2_with fail
        go_meet
        exact ⟨rfl, s0, mid, rfl, rfl, by omega, by omega, by omega, by omega, by omega, .inl ⟨by omega, rfl⟩⟩
      · have dcm : decide (mid < m) = false := by simp; omega
        simp only [dcm]
        go_wp2_with fail
        go_meet
        exact ⟨rfl, p, m, rfl, rfl, by omega, by omega, by omega, by omega, by omega, .inr ⟨rfl, rfl⟩⟩
    case rest =>
      obtain ⟨rfl, s0, r0, rfl, rfl, k1, k2, k3, k4, k5, k6⟩ := hcut
      have K6 := Lib.hid k6
      clear k6
      go_wp2_with fail
      go_loopw [20, 21] (fun s20 s21 wr => ∃ (s r : Nat), s20 = .int .i64 s ∧ s21 = .int .i64 r ∧ p ≤ s ∧ mid + m ≤ s + b ∧ s ≤ r ∧ r ≤ mid ∧ r ≤ m ∧ Own base 3 eInt 1 wr (.slice (some ⟨gg, 0, none⟩) n cap) (P ++ L ++ M ++ T) ∧ Below base w wr ∧
        Hid ((∀ i q, i < s - p → mid - s ≤ q → q < b - m → R (L.getD i 0) (M.getD q 0)) ∧ (∀ i q, r - p ≤ i → i < m - p → q < mid - r → R (M.getD q 0) (L.getD i 0)))) (fun s r _ => (intOf r).toNat - (intOf s).toNat)
      case atStart =>
        refine ⟨s0, r0, rfl, rfl, k1, k2, k3, k4, k5, hown, Below.refl _ _, fun i q h1 h2 h3 => ?_, fun i q h1 h2 h3 => ?_⟩
        · rcases K6.out with h | h <;> (exfalso; omega)
        · rcases K6.out with h | h <;> (exfalso; omega)
      case round =>
        obtain ⟨s, r, rfl, rfl, r1, r2, r3, r4, r5, hown, hb, hm⟩ := hrel
        have hsz := hb.size
        by_cases hlt : s < r
        · obtain ⟨h, hh⟩ : ∃ h : Nat, ((s : Int) + r) / 2 = h := ⟨(s + r) / 2, by omega⟩
          have h1 : s ≤ h := by omega
          have h2 : h < r := by omega
          obtain ⟨e, he⟩ : ∃ e : Nat, (mid : Int) + m - 1 - h = e := ⟨mid + m - 1 - h, by omega⟩
          obtain ⟨x, hx⟩ : ∃ x, Hid (L.getD (h - p) 0 = x) := ⟨L.getD (h - p) 0, rfl⟩
          obtain ⟨y, hy⟩ : ∃ y, Hid (M.getD (e - m) 0 = y) := ⟨M.getD (e - m) 0, rfl⟩
          have hxm : x ∈ L := by rw [← hx.out]; exact getD_mem L _ (by have := Hl.out; omega)
          have hym : y ∈ M := by rw [← hy.out]; exact getD_mem M _ (by have := Hk.out; omega)
          have cx : wr.cell? ⟨gg, h, none⟩ = some (.int .i64 x) := by
            have := hown.int h (by have := Hp.out; have := Hl.out; simp; omega)
            rw [this, ← hx.out, List.append_assoc, getD_mid P L (M ++ T) h (h - p) (by have := Hp.out; omega) (by have := Hl.out; omega)]
          have cy : wr.cell? ⟨gg, e, none⟩ = some (.int .i64 y) := by
            have := hown.int e (by have := Hp.out; have := Hl.out; have := Hk.out; simp; omega)
            rw [this, ← hy.out, getD_mid (P ++ L) M T e (e - m) (by have := Hp.out; have := Hl.out; simp; omega) (by have := Hk.out; omega)]
          have hn0 : (0 : Int) ≤ h := by omega
          have hn1 : (h : Int) < n := by omega
          have hn2 : (0 : Int) ≤ e := by omega
          have hn3 : (e : Int) < n := by omega
          have hij' : decide (s < r) = true := by simp; omega
          have HY := Lib.hid (Hdec.out x hxm y hym)
          have hokx := HokL.out x hxm
          have hoky := HokM.out y hym
          have hem : e - m = mid - 1 - h := by omega
          have Hem := Lib.hid hem
          clear hem
          by_cases hcy : c y x < 0
          · have hcb : decide (c y x < 0) = true := by simp; omega
            have HC := Lib.hid hcy
            go_wp2_with fail
            go_quiet ((go_at_fn g; exact Calls.quiet_of (Hc.out _ (below_drewN hb _) y x hoky hokx)))
            go_wp2_with fail
            go_roundw
            case measure => simp [intOf]; omega
            case rel =>
              refine ⟨s, h, rfl, rfl, by omega, by omega, by omega, by omega, by omega, hown.ofHeap rfl, by repeat' (first | exact Below.refl _ _ | assumption | refine Below.more ?_ ?_ _ | refine Below.alloc ?_ ?_ _ | refine Below.drew ?_ | refine below_drewN ?_ _ | refine Below.setCell ?_ ?_ _ | exact Below.size (by assumption) | (simp [go_sem, size_more]; done) | (simp [go_sem, size_more]; omega)), hm.out.1, ?_⟩
              intro i q q1 q2 q3
              have hyx := HY.out.1 HC.out
              have hE := Hem.out
              have a1 : R (M.getD q 0) x := by
                by_cases hq : q = e - m
                · rw [hq, hy.out]; exact hyx
                · refine Ht.out _ _ _ (pw_get HM.out q (e - m) (by omega) (by have := Hk.out; omega)) ?_
                  rw [hy.out]; exact hyx
              by_cases hi : i = h - p
              · rw [hi, hx.out]; exact a1
              · refine Ht.out _ _ _ a1 ?_
                rw [← hx.out]; exact pw_get HL.out (h - p) i (by omega) (by have := Hl.out; omega)
          · have hcb : decide (c y x < 0) = false := by simp; omega
            have HC := Lib.hid hcy
            go_wp2_with fail
            go_quiet ((go_at_fn g; exact Calls.quiet_of (Hc.out _ (below_drewN hb _) y x hoky hokx)))
            go_wp2_with fail
            go_roundw
            case measure => simp [intOf]; omega
            case rel =>
              refine ⟨h + 1, r, by go_num, rfl, by omega, by omega, by omega, by omega, by omega, hown.ofHeap rfl, by repeat' (first | exact Below.refl _ _ | assumption | refine Below.more ?_ ?_ _ | refine Below.alloc ?_ ?_ _ | refine Below.drew ?_ | refine below_drewN ?_ _ | refine Below.setCell ?_ ?_ _ | exact Below.size (by assumption) | (simp [go_sem, size_more]; done) | (simp [go_sem, size_more]; omega)), ?_, hm.out.2⟩
              intro i q q1 q2 q3
              have hyx := HY.out.2 (by have := HC.out; omega)
              have hE := Hem.out
              have a1 : R (L.getD i 0) y := by
                by_cases hi : i = h - p
                · rw [hi, hx.out]; exact hyx
                · refine Ht.out _ _ _ (pw_get HL.out i (h - p) (by omega) (by have := Hl.out; omega)) ?_
                  rw [hx.out]; exact hyx
              by_cases hq : q = e - m
              · rw [hq, hy.out]; exact a1
              · refine Ht.out _ _ _ a1 ?_
                rw [← hy.out]; exact pw_get HM.out (e - m) q (by omega) (by have := Hk.out; omega)
        · obtain rfl : r = s := by omega
          have hij' : decide ((r : Int) < r) = false := by simp
          obtain ⟨en, hen⟩ : ∃ en : Nat, (mid : Int) + m - r = en := ⟨mid + m - r, by omega⟩
          obtain ⟨L1, L2, hL12, hl1, hx1, hx2⟩ : ∃ L1 L2, L = L1 ++ L2 ∧ L1.length = r - p ∧ (∀ x ∈ L1, ∃ i, i < r - p ∧ L.getD i 0 = x) ∧ (∀ x ∈ L2, ∃ i, r - p ≤ i ∧ i < m - p ∧ L.getD i 0 = x) := by
            refine ⟨L.take (r - p), L.drop (r - p), by simp, by have := Hl.out; simp; omega, fun x hx => ?_, fun x hx => ?_⟩
            · obtain ⟨q, q1, q2, q3⟩ := mem_take_get hx
              exact ⟨q, q1, q3⟩
            · obtain ⟨q, q1, q2, q3⟩ := mem_drop_get hx
              exact ⟨q, q1, by have := Hl.out; omega, q3⟩
          obtain ⟨M1, M2, hM12, hm1, hy1, hy2⟩ : ∃ M1 M2, M = M1 ++ M2 ∧ M1.length = mid - r ∧ (∀ x ∈ M1, ∃ i, i < mid - r ∧ M.getD i 0 = x) ∧ (∀ x ∈ M2, ∃ i, mid - r ≤ i ∧ i < b - m ∧ M.getD i 0 = x) := by
            refine ⟨M.take (mid - r), M.drop (mid - r), by simp, by have := Hk.out; simp; omega, fun x hx => ?_, fun x hx => ?_⟩
            · obtain ⟨q, q1, q2, q3⟩ := mem_take_get hx
              exact ⟨q, q1, q3⟩
            · obtain ⟨q, q1, q2, q3⟩ := mem_drop_get hx
              exact ⟨q, q1, by have := Hk.out; omega, q3⟩
          have hc1 : ∀ x ∈ L1, ∀ y ∈ M2, R x y := by
            intro x hx y hy
            obtain ⟨i, i1, rfl⟩ := hx1 x hx
            obtain ⟨q, q1, q2, rfl⟩ := hy2 y hy
            exact hm.out.1 i q i1 q1 q2
          have hc2 : ∀ x ∈ L2, ∀ y ∈ M1, R y x := by
            intro x hx y hy
            obtain ⟨i, i1, i2, rfl⟩ := hx2 x hx
            obtain ⟨q, q1, rfl⟩ := hy1 y hy
            exact hm.out.2 i q i1 i2 q1
          clear hx1 hx2 hy1 hy2 hm
          subst hL12
          subst hM12
          have pL := HL.out
          have pM := HM.out
          rw [List.pairwise_append] at pL pM
          obtain ⟨pL1, pL2, pL3⟩ := pL
          obtain ⟨pM1, pM2, pM3⟩ := pM
          have hx : ∀ x ∈ L1 ++ M1, ∀ y ∈ L2 ++ M2, R x y := by
            intro x hx y hy
            rcases List.mem_append.1 hx with hx | hx <;> rcases List.mem_append.1 hy with hy | hy
            · exact pL3 x hx y hy
            · exact hc1 x hx y hy
            · exact hc2 y hy x hx
            · exact pM3 x hx y hy
          have lL2 : L2.length = m - r := by have := Hl.out; simp only [List.length_append] at this; omega
          have lM2 : M2.length = b - m - (mid - r) := by have := Hk.out; simp only [List.length_append] at this; omega
          have hp' := Hp.out
          have hown0 : Own base 3 eInt 1 wr (.slice (some ⟨gg, 0, none⟩) n cap) (P ++ L1 ++ L2 ++ M1 ++ (M2 ++ T)) := by simpa using hown
          have HCR := Lib.hid hx
          have P1 := Lib.hid (And.intro pL1 (And.intro pL2 (And.intro pM1 pM2)))
          have Q := Lib.hid (And.intro hl1 (And.intro hm1 (And.intro lL2 (And.intro lM2 hp'))))
          clear hx pL1 pL2 pL3 pM1 pM2 pM3 hc1 hc2 hl1 hm1 lL2 lM2 hp' hown
          by_cases qa : r < m
          · by_cases qb : r < mid
            · by_cases qc : p < r
              · by_cases qd : mid + m < r + b
                · have d1 : decide (r < m) = true := by simp; omega
                  have d2 : decide (m < en) = true := by simp; omega
                  have d3 : decide (p < r) = true := by simp; omega
                  have d4 : decide (r < mid) = true := by simp; omega
                  have d5 : decide (mid < en) = true := by simp; omega
                  have d6 : decide (en < b) = true := by simp; omega
                  go_wp2_with fail
                  refine Calls.mono (rotate_at _ (P ++ L1) L2 M1 (M2 ++ T) _ _ _ base _ _ hown0 (by (have Q0 := Q.out; (try simp only [List.length_nil] at Q0); omega)) (by (have Q0 := Q.out; (try simp only [List.length_nil] at Q0); omega)) (by (have Q0 := Q.out; (try simp only [List.length_nil] at Q0); omega)) ?_ ?_ ?_ ?_) ?_
                  · have Q0 := Q.out; (try simp only [List.length_nil] at Q0); simp only [List.length_append, List.length_nil]; omega
                  · have Q0 := Q.out; (try simp only [List.length_nil] at Q0); simp only [List.length_append, List.length_nil]; omega
                  · have Q0 := Q.out; (try simp only [List.length_nil] at Q0); simp only [List.length_append, List.length_nil]; omega
                  · have Q0 := Q.out; (try simp only [List.length_nil] at Q0); simp only [List.length_append, List.length_nil]; omega
                  rintro e wA ⟨rfl, hownA, hbA0⟩
                  have hbA := hb.trans hbA0
                  have hszA := hbA.size
                  go_wp2_with fail
                  refine Calls.mono (IH.out P L1 M1 (L2 ++ M2 ++ T) _ _ _ wA (by (have Q0 := Q.out; (try simp only [List.length_nil] at Q0); omega)) (Hc.out.later hbA) (by simpa using hownA) (by (have Q0 := Q.out; (try simp only [List.length_nil] at Q0); omega)) (fun x hx => HokL.out x (List.mem_append_left _ hx)) (fun y hy => HokM.out y (List.mem_append_left _ hy)) (fun x hx y hy => Hdec.out x (List.mem_append_left _ hx) y (List.mem_append_left _ hy)) P1.out.1 P1.out.2.2.1 (by (have Q0 := Q.out; (try simp only [List.length_nil] at Q0); omega)) (by (have Q0 := Q.out; (try simp only [List.length_nil] at Q0); omega)) (by (have Q0 := Q.out; (try simp only [List.length_nil] at Q0); omega)) (by (have Q0 := Q.out; (try simp only [List.length_nil] at Q0); omega)) (by (have Q0 := Q.out; (try simp only [List.length_nil] at Q0); omega)) (by have Q0 := Q.out; (try simp only [List.length_nil] at Q0); simp only [List.length_append, List.length_nil]; omega)) ?_
                  rintro e wB ⟨rfl, ⟨S1, hownB, hS1⟩, hbB0⟩
                  have hbB := hbA.trans hbB0
                  have hszB := hbB.size
                  have HS1 := Lib.hid (show S1.length = mid - p from by have q1 := hS1.1.length_eq; have Q0 := Q.out; simp only [List.length_append, List.length_nil] at q1 Q0; omega)
                  go_wp2_with fail
                  refine Calls.mono (IH.out (P ++ S1) L2 M2 T _ _ _ wB (by (have Q0 := Q.out; (try simp only [List.length_nil] at Q0); omega)) (Hc.out.later hbB) (by simpa using hownB) (by (have Q0 := Q.out; (try simp only [List.length_nil] at Q0); omega)) (fun x hx => HokL.out x (List.mem_append_right _ hx)) (fun y hy => HokM.out y (List.mem_append_right _ hy)) (fun x hx y hy => Hdec.out x (List.mem_append_right _ hx) y (List.mem_append_right _ hy)) P1.out.2.1 P1.out.2.2.2 (by (have Q0 := Q.out; (try simp only [List.length_nil] at Q0); omega)) (by (have Q0 := Q.out; (try simp only [List.length_nil] at Q0); omega)) ?_ ?_ ?_ ?_) ?_
                  · have Q0 := Q.out; (try simp only [List.length_nil] at Q0); have Q1 := HS1.out; simp only [List.length_append, List.length_nil]; omega
                  · have Q0 := Q.out; (try simp only [List.length_nil] at Q0); have Q1 := HS1.out; simp only [List.length_append, List.length_nil]; omega
                  · have Q0 := Q.out; (try simp only [List.length_nil] at Q0); have Q1 := HS1.out; simp only [List.length_append, List.length_nil]; omega
                  · have Q0 := Q.out; (try simp only [List.length_nil] at Q0); have Q1 := HS1.out; simp only [List.length_append, List.length_nil]; omega
                  rintro e wC ⟨rfl, ⟨S2, hownC, hS2⟩, hbC0⟩
                  have hbC := hbB.trans hbC0
                  go_wp2_with fail
                  go_end0
                  exact ⟨rfl, ⟨S1 ++ S2, by simpa using hownC, sym_fin (L1 := L1) (L2 := L2) (M1 := M1) (M2 := M2) rfl rfl hS1 hS2 HCR.out⟩, hbC⟩
                · have d1 : decide (r < m) = true := by simp; omega
                  have d2 : decide (m < en) = true := by simp; omega
                  have d3 : decide (p < r) = true := by simp; omega
                  have d4 : decide (r < mid) = true := by simp; omega
                  have d5 : decide (mid < en) = true := by simp; omega
                  have d6 : decide (en < b) = false := by simp; omega
                  go_wp2_with fail
                  refine Calls.mono (rotate_at _ (P ++ L1) L2 M1 (M2 ++ T) _ _ _ base _ _ hown0 (by (have Q0 := Q.out; (try simp only [List.length_nil] at Q0); omega)) (by (have Q0 := Q.out; (try simp only [List.length_nil] at Q0); omega)) (by (have Q0 := Q.out; (try simp only [List.length_nil] at Q0); omega)) ?_ ?_ ?_ ?_) ?_
                  · have Q0 := Q.out; (try simp only [List.length_nil] at Q0); simp only [List.length_append, List.length_nil]; omega
                  · have Q0 := Q.out; (try simp only [List.length_nil] at Q0); simp only [List.length_append, List.length_nil]; omega
                  · have Q0 := Q.out; (try simp only [List.length_nil] at Q0); simp only [List.length_append, List.length_nil]; omega
                  · have Q0 := Q.out; (try simp only [List.length_nil] at Q0); simp only [List.length_append, List.length_nil]; omega
                  rintro e wA ⟨rfl, hownA, hbA0⟩
                  have hbA := hb.trans hbA0
                  have hszA := hbA.size
                  go_wp2_with fail
                  refine Calls.mono (IH.out P L1 M1 (L2 ++ M2 ++ T) _ _ _ wA (by (have Q0 := Q.out; (try simp only [List.length_nil] at Q0); omega)) (Hc.out.later hbA) (by simpa using hownA) (by (have Q0 := Q.out; (try simp only [List.length_nil] at Q0); omega)) (fun x hx => HokL.out x (List.mem_append_left _ hx)) (fun y hy => HokM.out y (List.mem_append_left _ hy)) (fun x hx y hy => Hdec.out x (List.mem_append_left _ hx) y (List.mem_append_left _ hy)) P1.out.1 P1.out.2.2.1 (by (have Q0 := Q.out; (try simp only [List.length_nil] at Q0); omega)) (by (have Q0 := Q.out; (try simp only [List.length_nil] at Q0); omega)) (by (have Q0 := Q.out; (try simp only [List.length_nil] at Q0); omega)) (by (have Q0 := Q.out; (try simp only [List.length_nil] at Q0); omega)) (by (have Q0 := Q.out; (try simp only [List.length_nil] at Q0); omega)) (by have Q0 := Q.out; (try simp only [List.length_nil] at Q0); simp only [List.length_append, List.length_nil]; omega)) ?_
                  rintro e wB ⟨rfl, ⟨S1, hownB, hS1⟩, hbB0⟩
                  have hbB := hbA.trans hbB0
                  have hszB := hbB.size
                  have HS1 := Lib.hid (show S1.length = mid - p from by have q1 := hS1.1.length_eq; have Q0 := Q.out; simp only [List.length_append, List.length_nil] at q1 Q0; omega)
                  obtain rfl : M2 = [] := List.eq_nil_of_length_eq_zero (by have Q0 := Q.out; (try simp only [List.length_nil] at Q0); omega)
                  obtain ⟨S2, hownC, hS2⟩ : ∃ S2, Own base 3 eInt 1 wB (.slice (some ⟨gg, 0, none⟩) n cap) (P ++ S1 ++ S2 ++ T) ∧ SortedOf R (L2 ++ []) S2 := ⟨L2, by simpa using hownB, by simpa using sorted_self P1.out.2.1⟩
                  have hbC := hbB
                  go_wp2_with fail
                  go_end0
                  exact ⟨rfl, ⟨S1 ++ S2, by simpa using hownC, sym_fin (L1 := L1) (L2 := L2) (M1 := M1) (M2 := []) rfl rfl hS1 hS2 HCR.out⟩, hbC⟩
              · by_cases qd : mid + m < r + b
                · have d1 : decide (r < m) = true := by simp; omega
                  have d2 : decide (m < en) = true := by simp; omega
                  have d3 : decide (p < r) = false := by simp; omega
                  have d5 : decide (mid < en) = true := by simp; omega
                  have d6 : decide (en < b) = true := by simp; omega
                  go_wp2_with fail
                  refine Calls.mono (rotate_at _ (P ++ L1) L2 M1 (M2 ++ T) _ _ _ base _ _ hown0 (by (have Q0 := Q.out; (try simp only [List.length_nil] at Q0); omega)) (by (have Q0 := Q.out; (try simp only [List.length_nil] at Q0); omega)) (by (have Q0 := Q.out; (try simp only [List.length_nil] at Q0); omega)) ?_ ?_ ?_ ?_) ?_
                  · have Q0 := Q.out; (try simp only [List.length_nil] at Q0); simp only [List.length_append, List.length_nil]; omega
                  · have Q0 := Q.out; (try simp only [List.length_nil] at Q0); simp only [List.length_append, List.length_nil]; omega
                  · have Q0 := Q.out; (try simp only [List.length_nil] at Q0); simp only [List.length_append, List.length_nil]; omega
                  · have Q0 := Q.out; (try simp only [List.length_nil] at Q0); simp only [List.length_append, List.length_nil]; omega
                  rintro e wA ⟨rfl, hownA, hbA0⟩
                  have hbA := hb.trans hbA0
                  have hszA := hbA.size
                  obtain rfl : L1 = [] := List.eq_nil_of_length_eq_zero (by have Q0 := Q.out; (try simp only [List.length_nil] at Q0); omega)
                  obtain ⟨wB, rfl⟩ : ∃ wB : World, wB = wA := ⟨_, rfl⟩
                  obtain ⟨S1, hownB, hS1⟩ : ∃ S1, Own base 3 eInt 1 wB (.slice (some ⟨gg, 0, none⟩) n cap) (P ++ S1 ++ (L2 ++ M2 ++ T)) ∧ SortedOf R ([] ++ M1) S1 := ⟨M1, by simpa using hownA, sorted_self P1.out.2.2.1⟩
                  have hbB := hbA
                  have hszB := hbB.size
                  have HS1 := Lib.hid (show S1.length = mid - p from by have q1 := hS1.1.length_eq; have Q0 := Q.out; simp only [List.length_append, List.length_nil] at q1 Q0; omega)
                  go_wp2_with fail
                  refine Calls.mono (IH.out (P ++ S1) L2 M2 T _ _ _ wB (by (have Q0 := Q.out; (try simp only [List.length_nil] at Q0); omega)) (Hc.out.later hbB) (by simpa using hownB) (by (have Q0 := Q.out; (try simp only [List.length_nil] at Q0); omega)) (fun x hx => HokL.out x (List.mem_append_right _ hx)) (fun y hy => HokM.out y (List.mem_append_right _ hy)) (fun x hx y hy => Hdec.out x (List.mem_append_right _ hx) y (List.mem_append_right _ hy)) P1.out.2.1 P1.out.2.2.2 (by (have Q0 := Q.out; (try simp only [List.length_nil] at Q0); omega)) (by (have Q0 := Q.out; (try simp only [List.length_nil] at Q0); omega)) ?_ ?_ ?_ ?_) ?_
                  · have Q0 := Q.out; (try simp only [List.length_nil] at Q0); have Q1 := HS1.out; simp only [List.length_append, List.length_nil]; omega
                  · have Q0 := Q.out; (try simp only [List.length_nil] at Q0); have Q1 := HS1.out; simp only [List.length_append, List.length_nil]; omega
                  · have Q0 := Q.out; (try simp only [List.length_nil] at Q0); have Q1 := HS1.out; simp only [List.length_append, List.length_nil]; omega
                  · have Q0 := Q.out; (try simp only [List.length_nil] at Q0); have Q1 := HS1.out; simp only [List.length_append, List.length_nil]; omega
                  rintro e wC ⟨rfl, ⟨S2, hownC, hS2⟩, hbC0⟩
                  have hbC := hbB.trans hbC0
                  go_wp2_with fail
                  go_end0
                  exact ⟨rfl, ⟨S1 ++ S2, by simpa using hownC, sym_fin (L1 := []) (L2 := L2) (M1 := M1) (M2 := M2) rfl rfl hS1 hS2 HCR.out⟩, hbC⟩
                · have d1 : decide (r < m) = true := by simp; omega
                  have d2 : decide (m < en) = true := by simp; omega
                  have d3 : decide (p < r) = false := by simp; omega
                  have d5 : decide (mid < en) = true := by simp; omega
                  have d6 : decide (en < b) = false := by simp; omega
                  go_wp2_with fail
                  refine Calls.mono (rotate_at _ (P ++ L1) L2 M1 (M2 ++ T) _ _ _ base _ _ hown0 (by (have Q0 := Q.out; (try simp only [List.length_nil] at Q0); omega)) (by (have Q0 := Q.out; (try simp only [List.length_nil] at Q0); omega)) (by (have Q0 := Q.out; (try simp only [List.length_nil] at Q0); omega)) ?_ ?_ ?_ ?_) ?_
                  · have Q0 := Q.out; (try simp only [List.length_nil] at Q0); simp only [List.length_append, List.length_nil]; omega
                  · have Q0 := Q.out; (try simp only [List.length_nil] at Q0); simp only [List.length_append, List.length_nil]; omega
                  · have Q0 := Q.out; (try simp only [List.length_nil] at Q0); simp only [List.length_append, List.length_nil]; omega
                  · have Q0 := Q.out; (try simp only [List.length_nil] at Q0); simp only [List.length_append, List.length_nil]; omega
                  rintro e wA ⟨rfl, hownA, hbA0⟩
                  have hbA := hb.trans hbA0
                  have hszA := hbA.size
                  obtain rfl : L1 = [] := List.eq_nil_of_length_eq_zero (by have Q0 := Q.out; (try simp only [List.length_nil] at Q0); omega)
                  obtain ⟨wB, rfl⟩ : ∃ wB : World, wB = wA := ⟨_, rfl⟩
                  obtain ⟨S1, hownB, hS1⟩ : ∃ S1, Own base 3 eInt 1 wB (.slice (some ⟨gg, 0, none⟩) n cap) (P ++ S1 ++ (L2 ++ M2 ++ T)) ∧ SortedOf R ([] ++ M1) S1 := ⟨M1, by simpa using hownA, sorted_self P1.out.2.2.1⟩
                  have hbB := hbA
                  have hszB := hbB.size
                  have HS1 := Lib.hid (show S1.length = mid - p from by have q1 := hS1.1.length_eq; have Q0 := Q.out; simp only [List.length_append, List.length_nil] at q1 Q0; omega)
                  obtain rfl : M2 = [] := List.eq_nil_of_length_eq_zero (by have Q0 := Q.out; (try simp only [List.length_nil] at Q0); omega)
                  obtain ⟨S2, hownC, hS2⟩ : ∃ S2, Own base 3 eInt 1 wB (.slice (some ⟨gg, 0, none⟩) n cap) (P ++ S1 ++ S2 ++ T) ∧ SortedOf R (L2 ++ []) S2 := ⟨L2, by simpa using hownB, by simpa using sorted_self P1.out.2.1⟩
                  have hbC := hbB
                  go_wp2_with fail
                  go_end0
                  exact ⟨rfl, ⟨S1 ++ S2, by simpa using hownC, sym_fin (L1 := []) (L2 := L2) (M1 := M1) (M2 := []) rfl rfl hS1 hS2 HCR.out⟩, hbC⟩
            · have d1 : decide (r < m) = true := by simp; omega
              have d2 : decide (m < en) = false := by simp; omega
              have d3 : decide (p < r) = true := by simp; omega
              have d4 : decide (r < mid) = false := by simp; omega
              have d5 : decide (mid < en) = true := by simp; omega
              have d6 : decide (en < b) = true := by simp; omega
              obtain rfl : M1 = [] := List.eq_nil_of_length_eq_zero (by have Q0 := Q.out; (try simp only [List.length_nil] at Q0); omega)
              obtain ⟨wA, rfl⟩ : ∃ wA : World, wA = wr := ⟨_, rfl⟩
              have hownA : Own base 3 eInt 1 wA (.slice (some ⟨gg, 0, none⟩) n cap) (P ++ L1 ++ [] ++ L2 ++ (M2 ++ T)) := by simpa using hown0
              have hbA := hb
              have hszA := hbA.size
              obtain ⟨wB, rfl⟩ : ∃ wB : World, wB = wA := ⟨_, rfl⟩
              obtain ⟨S1, hownB, hS1⟩ : ∃ S1, Own base 3 eInt 1 wB (.slice (some ⟨gg, 0, none⟩) n cap) (P ++ S1 ++ (L2 ++ M2 ++ T)) ∧ SortedOf R (L1 ++ []) S1 := ⟨L1, by simpa using hownA, by simpa using sorted_self P1.out.1⟩
              have hbB := hbA
              have hszB := hbB.size
              have HS1 := Lib.hid (show S1.length = mid - p from by have q1 := hS1.1.length_eq; have Q0 := Q.out; simp only [List.length_append, List.length_nil] at q1 Q0; omega)
              go_wp2_with fail
              refine Calls.mono (IH.out (P ++ S1) L2 M2 T _ _ _ wB (by (have Q0 := Q.out; (try simp only [List.length_nil] at Q0); omega)) (Hc.out.later hbB) (by simpa using hownB) (by (have Q0 := Q.out; (try simp only [List.length_nil] at Q0); omega)) (fun x hx => HokL.out x (List.mem_append_right _ hx)) (fun y hy => HokM.out y (List.mem_append_right _ hy)) (fun x hx y hy => Hdec.out x (List.mem_append_right _ hx) y (List.mem_append_right _ hy)) P1.out.2.1 P1.out.2.2.2 (by (have Q0 := Q.out; (try simp only [List.length_nil] at Q0); omega)) (by (have Q0 := Q.out; (try simp only [List.length_nil] at Q0); omega)) ?_ ?_ ?_ ?_) ?_
              · have Q0 := Q.out; (try simp only [List.length_nil] at Q0); have Q1 := HS1.out; simp only [List.length_append, List.length_nil]; omega
              · have Q0 := Q.out; (try simp only [List.length_nil] at Q0); have Q1 := HS1.out; simp only [List.length_append, List.length_nil]; omega
              · have Q0 := Q.out; (try simp only [List.length_nil] at Q0); have Q1 := HS1.out; simp only [List.length_append, List.length_nil]; omega
              · have Q0 := Q.out; (try simp only [List.length_nil] at Q0); have Q1 := HS1.out; simp only [List.length_append, List.length_nil]; omega
              rintro e wC ⟨rfl, ⟨S2, hownC, hS2⟩, hbC0⟩
              have hbC := hbB.trans hbC0
              go_wp2_with fail
              go_end0
              exact ⟨rfl, ⟨S1 ++ S2, by simpa using hownC, sym_fin (L1 := L1) (L2 := L2) (M1 := []) (M2 := M2) rfl rfl hS1 hS2 HCR.out⟩, hbC⟩
          · by_cases qb : r < mid
            · have d1 : decide (r < m) = false := by simp; omega
              have d3 : decide (p < r) = true := by simp; omega
              have d4 : decide (r < mid) = true := by simp; omega
              have d5 : decide (mid < en) = false := by simp; omega
              obtain rfl : L2 = [] := List.eq_nil_of_length_eq_zero (by have Q0 := Q.out; (try simp only [List.length_nil] at Q0); omega)
              obtain ⟨wA, rfl⟩ : ∃ wA : World, wA = wr := ⟨_, rfl⟩
              have hownA : Own base 3 eInt 1 wA (.slice (some ⟨gg, 0, none⟩) n cap) (P ++ L1 ++ M1 ++ [] ++ (M2 ++ T)) := by simpa using hown0
              have hbA := hb
              have hszA := hbA.size
              go_wp2_with fail
              refine Calls.mono (IH.out P L1 M1 ([] ++ M2 ++ T) _ _ _ wA (by (have Q0 := Q.out; (try simp only [List.length_nil] at Q0); omega)) (Hc.out.later hbA) (by simpa using hownA) (by (have Q0 := Q.out; (try simp only [List.length_nil] at Q0); omega)) (fun x hx => HokL.out x (List.mem_append_left _ hx)) (fun y hy => HokM.out y (List.mem_append_left _ hy)) (fun x hx y hy => Hdec.out x (List.mem_append_left _ hx) y (List.mem_append_left _ hy)) P1.out.1 P1.out.2.2.1 (by (have Q0 := Q.out; (try simp only [List.length_nil] at Q0); omega)) (by (have Q0 := Q.out; (try simp only [List.length_nil] at Q0); omega)) (by (have Q0 := Q.out; (try simp only [List.length_nil] at Q0); omega)) (by (have Q0 := Q.out; (try simp only [List.length_nil] at Q0); omega)) (by (have Q0 := Q.out; (try simp only [List.length_nil] at Q0); omega)) (by have Q0 := Q.out; (try simp only [List.length_nil] at Q0); simp only [List.length_append, List.length_nil]; omega)) ?_
              rintro e wB ⟨rfl, ⟨S1, hownB, hS1⟩, hbB0⟩
              have hbB := hbA.trans hbB0
              have hszB := hbB.size
              have HS1 := Lib.hid (show S1.length = mid - p from by have q1 := hS1.1.length_eq; have Q0 := Q.out; simp only [List.length_append, List.length_nil] at q1 Q0; omega)
              obtain ⟨S2, hownC, hS2⟩ : ∃ S2, Own base 3 eInt 1 wB (.slice (some ⟨gg, 0, none⟩) n cap) (P ++ S1 ++ S2 ++ T) ∧ SortedOf R ([] ++ M2) S2 := ⟨M2, by simpa using hownB, by simpa using sorted_self P1.out.2.2.2⟩
              have hbC := hbB
              go_wp2_with fail
              go_end0
              exact ⟨rfl, ⟨S1 ++ S2, by simpa using hownC, sym_fin (L1 := L1) (L2 := []) (M1 := M1) (M2 := M2) rfl rfl hS1 hS2 HCR.out⟩, hbC⟩
            · have d1 : decide (r < m) = false := by simp; omega
              have d3 : decide (p < r) = true := by simp; omega
              have d4 : decide (r < mid) = false := by simp; omega
              have d5 : decide (mid < en) = false := by simp; omega
              obtain rfl : L2 = [] := List.eq_nil_of_length_eq_zero (by have Q0 := Q.out; (try simp only [List.length_nil] at Q0); omega)
              obtain rfl : M1 = [] := List.eq_nil_of_length_eq_zero (by have Q0 := Q.out; (try simp only [List.length_nil] at Q0); omega)
              obtain ⟨wA, rfl⟩ : ∃ wA : World, wA = wr := ⟨_, rfl⟩
              have hownA : Own base 3 eInt 1 wA (.slice (some ⟨gg, 0, none⟩) n cap) (P ++ L1 ++ [] ++ [] ++ (M2 ++ T)) := by simpa using hown0
              have hbA := hb
              have hszA := hbA.size
              obtain ⟨wB, rfl⟩ : ∃ wB : World, wB = wA := ⟨_, rfl⟩
              obtain ⟨S1, hownB, hS1⟩ : ∃ S1, Own base 3 eInt 1 wB (.slice (some ⟨gg, 0, none⟩) n cap) (P ++ S1 ++ ([] ++ M2 ++ T)) ∧ SortedOf R (L1 ++ []) S1 := ⟨L1, by simpa using hownA, by simpa using sorted_self P1.out.1⟩
              have hbB := hbA
              have hszB := hbB.size
              have HS1 := Lib.hid (show S1.length = mid - p from by have q1 := hS1.1.length_eq; have Q0 := Q.out; simp only [List.length_append, List.length_nil] at q1 Q0; omega)
              obtain ⟨S2, hownC, hS2⟩ : ∃ S2, Own base 3 eInt 1 wB (.slice (some ⟨gg, 0, none⟩) n cap) (P ++ S1 ++ S2 ++ T) ∧ SortedOf R ([] ++ M2) S2 := ⟨M2, by simpa using hownB, by simpa using sorted_self P1.out.2.2.2⟩
              have hbC := hbB
              go_wp2_with fail
              go_end0
              exact ⟨rfl, ⟨S1 ++ S2, by simpa using hownC, sym_fin (L1 := L1) (L2 := []) (M1 := []) (M2 := M2) rfl rfl hS1 hS2 HCR.out⟩, hbC⟩

end Go.Proofs.YtlcfnbnpkcjjlaaGreat

namespace Go.Proofs.YtlcfnbnpkcjjlaaGreat
open Go.RowKit
set_option linter.unusedVariables false
set_option linter.unusedSimpArgs false

/-- Block number k of bs elements. -/
def blk (D : List Int) (bs k : Nat) : List Int := (D.drop (k * bs)).take bs

theorem blk_same (P S L T : List Int) (bs k : Nat) (hS : S.length = L.length) (h : (k + 1) * bs ≤ P.length ∨ P.length + L.length ≤ k * bs) : blk (P ++ S ++ T) bs k = blk (P ++ L ++ T) bs k := by
  unfold blk
  rcases h with h | h
  · rw [Nat.add_mul] at h
    rw [List.append_assoc, List.append_assoc, List.drop_append_of_le_length (by omega), List.drop_append_of_le_length (by omega), List.take_append_of_le_length (by simp; omega), List.take_append_of_le_length (by simp; omega)]
  · have e1 : (P ++ S ++ T).drop (k * bs) = T.drop (k * bs - (P ++ S).length) := by rw [List.drop_append, List.drop_eq_nil_of_le (by simp; omega)]; simp
    have e2 : (P ++ L ++ T).drop (k * bs) = T.drop (k * bs - (P ++ L).length) := by rw [List.drop_append, List.drop_eq_nil_of_le (by simp; omega)]; simp
    rw [e1, e2]; simp [hS]

theorem blk_at (P S T : List Int) (bs k : Nat) (hk : k * bs = P.length) (h : S.length = bs ∨ (T = [] ∧ S.length ≤ bs)) : blk (P ++ S ++ T) bs k = S := by
  unfold blk
  rw [hk, List.append_assoc, List.drop_left]
  rcases h with h | ⟨rfl, h⟩
  · rw [← h, List.take_left]
  · simp; exact List.take_of_length_le h

theorem blk_two (xs : List Int) (bs j : Nat) : blk xs (2 * bs) j = blk xs bs (2 * j) ++ blk xs bs (2 * j + 1) := by
  unfold blk
  have e1 : j * (2 * bs) = 2 * j * bs := by rw [Nat.mul_comm j, Nat.mul_comm 2 bs, Nat.mul_assoc, Nat.mul_comm bs]
  have e2 : (2 * j + 1) * bs = 2 * j * bs + bs := by rw [Nat.add_mul, Nat.one_mul]
  rw [e1, e2, ← List.drop_drop, show 2 * bs = bs + bs from by omega, List.take_add]

theorem blk_mem_dec {c : Int → Int → Int} {R : Int → Int → Prop} {xs : List Int} (h : xs.Pairwise (Dec c R)) (bs j : Nat) : ∀ x ∈ blk xs bs j, ∀ y ∈ blk xs bs (j + 1), Dec c R x y := by
  intro x hx y hy
  unfold blk at hx hy
  rw [Nat.add_mul, Nat.one_mul, ← List.drop_drop] at hy
  have h1 : (xs.drop (j * bs)).Pairwise (Dec c R) := h.sublist (List.drop_sublist _ _)
  rw [← List.take_append_drop bs (xs.drop (j * bs)), List.pairwise_append] at h1
  exact h1.2.2 x hx y (List.mem_of_mem_take hy)

theorem blk_pw {c : Int → Int → Int} {R : Int → Int → Prop} {xs : List Int} (h : xs.Pairwise (Dec c R)) (bs j : Nat) : (blk xs bs j).Pairwise (Dec c R) :=
  h.sublist ((List.take_sublist _ _).trans (List.drop_sublist _ _))

theorem blk_sub (xs : List Int) (bs j : Nat) : ∀ x ∈ blk xs bs j, x ∈ xs := fun _ hx => List.mem_of_mem_drop (List.mem_of_mem_take hx)

theorem blk_len (xs : List Int) (bs j : Nat) : (blk xs bs j).length = min bs (xs.length - j * bs) := by simp [blk]

theorem sorted_trans {R : Int → Int → Prop} {A B A' B' S : List Int} (hA : SortedOf R A' A) (hB : SortedOf R B' B) (h : SortedOf R (A ++ B) S) : SortedOf R (A' ++ B') S := ⟨h.1.trans (hA.1.append hB.1), h.2⟩

theorem split_at (D : List Int) (a n : Nat) (h : a + n ≤ D.length) : D = D.take a ++ (D.drop a).take n ++ D.drop (a + n) := by
  rw [← List.drop_drop, List.append_assoc, List.take_append_drop, List.take_append_drop]

theorem ins_step {R : Int → Int → Prop} (xs D P L T S : List Int) (bs j : Nat) (hD : D = P ++ L ++ T) (hP : P.length = j * bs) (hL : L.length = bs ∨ (T = [] ∧ L.length ≤ bs)) (hx : blk xs bs j = L)
    (h1 : ∀ k, k < j → SortedOf R (blk xs bs k) (blk D bs k)) (hS : SortedOf R L S) : ∀ k, k < j + 1 → SortedOf R (blk xs bs k) (blk (P ++ S ++ T) bs k) := by
  have hSl := hS.1.length_eq
  intro k hk
  by_cases hkj : k = j
  · subst hkj
    rw [blk_at P S T bs k hP.symm (by rw [hSl]; exact hL), hx]
    exact hS
  · rw [blk_same P S L T bs k hSl (.inl (by rw [hP]; exact Nat.mul_le_mul_right _ (by omega))), ← hD]
    exact h1 k (by omega)

theorem merge_step {R : Int → Int → Prop} (xs D P A B T S : List Int) (bs j : Nat) (hD : D = P ++ A ++ B ++ T) (hP : P.length = j * (2 * bs)) (hA : A.length = bs) (hB : B.length = bs ∨ (T = [] ∧ B.length ≤ bs))
    (h1 : ∀ k, k < j → SortedOf R (blk xs (2 * bs) k) (blk D (2 * bs) k)) (h2 : ∀ k, 2 * j ≤ k → SortedOf R (blk xs bs k) (blk D bs k)) (hS : SortedOf R (A ++ B) S) :
    (∀ k, k < j + 1 → SortedOf R (blk xs (2 * bs) k) (blk (P ++ S ++ T) (2 * bs) k)) ∧ (∀ k, 2 * (j + 1) ≤ k → SortedOf R (blk xs bs k) (blk (P ++ S ++ T) bs k)) := by
  have hSl := hS.1.length_eq
  have hSl2 : S.length = A.length + B.length := by rw [hSl]; simp
  have hD2 : D = P ++ (A ++ B) ++ T := by rw [hD]; simp
  have ej : j * (2 * bs) = 2 * j * bs := by rw [Nat.mul_comm j, Nat.mul_comm 2 bs, Nat.mul_assoc, Nat.mul_comm bs]
  have bA : blk D bs (2 * j) = A := by
    have := blk_at P A (B ++ T) bs (2 * j) (by omega) (.inl hA)
    rw [hD]; simpa using this
  have bB : blk D bs (2 * j + 1) = B := by
    have := blk_at (P ++ A) B T bs (2 * j + 1) (by rw [Nat.add_mul]; simp; omega) hB
    rw [hD]; simpa using this
  refine ⟨fun k hk => ?_, fun k hk => ?_⟩
  · by_cases hkj : k = j
    · subst hkj
      rw [blk_at P S T (2 * bs) k hP.symm (by rcases hB with h | ⟨h, h'⟩; exact .inl (by omega); exact .inr ⟨h, by omega⟩), blk_two]
      have e1 := h2 (2 * k) (Nat.le_refl _)
      have e2 := h2 (2 * k + 1) (by omega)
      rw [bA] at e1
      rw [bB] at e2
      exact sorted_trans e1 e2 hS
    · rw [blk_same P S (A ++ B) T (2 * bs) k hSl (.inl (by rw [hP]; exact Nat.mul_le_mul_right _ (by omega))), ← hD2]
      exact h1 k (by omega)
  · have hge : 2 * j * bs + 2 * bs ≤ k * bs := by rw [← Nat.add_mul]; exact Nat.mul_le_mul_right _ (by omega)
    rw [blk_same P S (A ++ B) T bs k hSl (.inr (by simp; rcases hB with h | ⟨h, h'⟩ <;> omega)), ← hD2]
    exact h2 k (by omega)

theorem blk_none (xs : List Int) (bs k : Nat) (h : xs.length ≤ k * bs) : blk xs bs k = [] := by
  unfold blk; rw [List.drop_eq_nil_of_le h]; simp

theorem sorted_nil {R : Int → Int → Prop} : SortedOf R [] [] := ⟨List.Perm.refl _, List.Pairwise.nil⟩

set_option maxRecDepth 1000000 in
set_option maxHeartbeats 8000000 in
theorem stable_any (g : Nat) (lb : Array Value) (eg : ∀ args w, (callFunc g args).run Tryz.prog w = .ok (.enter g args) w) (c : Int → Int → Int) (ok : Int → Prop) (R : Int → Int → Prop) (ht : ∀ x y z, R x y → R y z → R x z)
    (xs : List Int) (base : Nat) (v : Value) (N : Int) (w : World) (hc : CmpOK Tryz.prog g lb c ok base w) (hown : Own base 3 eInt 1 w v xs) (hbase : base ≤ w.heap.size) (hok : ∀ x ∈ xs, ok x) (hdec : xs.Pairwise (Dec c R)) (hN : N = xs.length) (hlen : xs.length < 1000000000) :
    Calls Tryz.prog 73 #[v, .int .i64 N, .func (.func g) #[] lb] w fun e w' => e = .returned (.tuple #[]) ∧ (∃ S, Own base 3 eInt 1 w' v S ∧ SortedOf R xs S) ∧ Below base w w' := by
  obtain ⟨n, hn⟩ : ∃ n, xs.length = n := ⟨_, rfl⟩
  rw [hn] at hlen hN
  subst hN
  have Hn := Lib.hid hn; have Hok := Lib.hid hok; have Hdec := Lib.hid hdec; have Hc := Lib.hid hc; have Ht := Lib.hid ht
  clear hn hok hdec hc ht
  go_enter Tryz.func73, Tryz.ntmps73
  go_wp2_with fail
  go_loopw [7, 8] (fun s7 s8 wr => ∃ (a b j : Nat) (D : List Int), s7 = .int .i64 a ∧ s8 = .int .i64 b ∧ b = a + 20 ∧ a ≤ n ∧ Own base 3 eInt 1 wr v D ∧ Below base w wr ∧
      Hid (a = j * 20 ∧ D.length = n ∧ D.drop a = xs.drop a ∧ ∀ k, k < j → SortedOf R (blk xs 20 k) (blk D 20 k))) (fun _ b _ => n + 20 - (intOf b).toNat)
  case atStart => exact ⟨0, 20, 0, xs, rfl, rfl, rfl, by omega, hown, Below.refl _ _, rfl, Hn.out, rfl, fun k hk => by omega⟩
  case round =>
    obtain ⟨a, b, j, D, rfl, rfl, rfl, han, hown, hb, hm⟩ := hrel
    have hsz := hb.size
    by_cases hlt : a + 20 ≤ n
    · have hlt' : decide (a + 20 ≤ n) = true := by simp; omega
      obtain ⟨m1, m2, m3, m4⟩ := hm.out
      have hsp := split_at D a 20 (by omega)
      have hL : (D.drop a).take 20 = blk xs 20 j := by rw [m3, m1]; rfl
      have hT : D.drop (a + 20) = xs.drop (a + 20) := by rw [← List.drop_drop, m3, List.drop_drop]
      have hPl : (D.take a).length = a := by simp; omega
      have hLl : ((D.drop a).take 20).length = 20 := by simp; omega
      have hTl : (D.drop (a + 20)).length = n - (a + 20) := by simp; omega
      generalize D.take a = P at *
      generalize hl : (D.drop a).take 20 = L at *
      generalize hd2 : D.drop (a + 20) = T at *
      have hfin := fun S (hS : SortedOf R L S) => ins_step xs D P L T S 20 j hsp (by omega) (.inl hLl) hL.symm m4 hS
      have HF := Lib.hid (And.intro hfin (And.intro hL (And.intro hT (And.intro m1 (And.intro hPl (And.intro hLl hTl))))))
      have hown1 : Own base 3 eInt 1 wr v (P ++ L ++ T) := by rw [← hsp]; exact hown
      clear hfin hL hT hPl hLl hTl m1 m2 m3 m4 hl hd2 hsp hown hm
      go_wp2_with fail
      refine Calls.mono (insertion_any g lb eg c ok R Ht.out P L T _ _ base v _ (Hc.out.later hb) hown1 (by omega) ?_ ?_ ?_ ?_ ?_) ?_
      · intro x hx
        rw [HF.out.2.1] at hx
        exact Hok.out x (blk_sub xs 20 j x hx)
      · rw [HF.out.2.1]; exact blk_pw Hdec.out 20 j
      · have := HF.out.2.2.2.2.1; omega
      · have := HF.out.2.2.2.2.1; have := HF.out.2.2.2.2.2.1; omega
      · have := HF.out.2.2.2.2.1; have := HF.out.2.2.2.2.2.1; have := HF.out.2.2.2.2.2.2; omega
      rintro e w1 ⟨rfl, ⟨S, hown2, hS⟩, hb1⟩
      have hbb := hb.trans hb1
      go_wp2_with fail
      go_roundw
      case measure => simp [intOf]; omega
      case rel =>
        obtain ⟨f1, f2, f3, f4, f5, f6, f7⟩ := HF.out
        have hSl := hS.1.length_eq
        refine ⟨a + 20, a + 20 + 20, j + 1, P ++ S ++ T, by go_num, by go_num, rfl, by omega, hown2, hbb, by omega, by simp; omega, ?_, f1 S hS⟩
        rw [← f3, show a + 20 = (P ++ S).length from by simp; omega, List.drop_left]
    · have hlt' : decide (a + 20 ≤ n) = false := by simp; omega
      obtain ⟨m1, m2, m3, m4⟩ := hm.out
      have hsp : D = D.take a ++ D.drop a ++ [] := by simp
      have hL : D.drop a = blk xs 20 j := by
        rw [m3]; unfold blk; rw [← m1, List.take_of_length_le]; have := Hn.out; simp; omega
      have hPl : (D.take a).length = a := by simp; omega
      have hLl : (D.drop a).length = n - a := by simp; omega
      generalize D.take a = P at *
      generalize hl : D.drop a = L at *
      have hfin := fun S (hS : SortedOf R L S) => ins_step xs D P L [] S 20 j hsp (by omega) (.inr ⟨rfl, by omega⟩) hL.symm m4 hS
      have HF := Lib.hid (And.intro hfin (And.intro hL (And.intro m1 (And.intro hPl hLl))))
      have hown1 : Own base 3 eInt 1 wr v (P ++ L ++ []) := by rw [← hsp]; exact hown
      clear hfin hL hPl hLl m1 m2 m3 m4 hl hsp hown hm
      go_wp2_with fail
      refine Calls.mono (insertion_any g lb eg c ok R Ht.out P L [] _ _ base v _ (Hc.out.later hb) hown1 (by omega) ?_ ?_ ?_ ?_ ?_) ?_
      · intro x hx
        rw [HF.out.2.1] at hx
        exact Hok.out x (blk_sub xs 20 j x hx)
      · rw [HF.out.2.1]; exact blk_pw Hdec.out 20 j
      · have := HF.out.2.2.2.1; omega
      · have := HF.out.2.2.2.1; have := HF.out.2.2.2.2; omega
      · have := HF.out.2.2.2.1; have := HF.out.2.2.2.2; simp; omega
      rintro e w1 ⟨rfl, ⟨S, hown2, hS⟩, hb1⟩
      have hbb := hb.trans hb1
      obtain ⟨D2, hown3, hD2⟩ : ∃ D2, Own base 3 eInt 1 w1 v D2 ∧ Hid (D2.length = n ∧ ∀ k, SortedOf R (blk xs 20 k) (blk D2 20 k)) := by
        obtain ⟨f1, f2, f3, f4, f5⟩ := HF.out
        have hSl := hS.1.length_eq
        refine ⟨P ++ S ++ [], hown2, by simp; omega, fun k => ?_⟩
        by_cases hk : k < j + 1
        · exact f1 S hS k hk
        · have h3 : (j + 1) * 20 ≤ k * 20 := Nat.mul_le_mul_right _ (by omega)
          rw [blk_none xs 20 k (by have := Hn.out; omega), blk_none _ 20 k (by simp; omega)]
          exact sorted_nil
      clear hown2 hb1
      go_wp2_with fail
      go_loopw [6] (fun s6 wr => ∃ (bs : Nat) (D : List Int), s6 = .int .i64 bs ∧ 20 ≤ bs ∧ (bs = 20 ∨ bs < 2 * n) ∧ Own base 3 eInt 1 wr v D ∧ Below base w wr ∧
          Hid (D.length = n ∧ ∀ k, SortedOf R (blk xs bs k) (blk D bs k))) (fun b _ => n - (intOf b).toNat)
      case atStart => exact ⟨20, D2, rfl, by omega, .inl rfl, hown3, hbb, hD2⟩
      case round =>
        obtain ⟨bs, D, rfl, hbs, hbs2, hown, hb, hm⟩ := hrel
        have hsz := hb.size
        by_cases hlt2 : bs < n
        · have hlt2' : decide (bs < n) = true := by simp; omega
          have HB := Lib.hid hbs2
          clear hbs2
          go_wp2_with fail
          obtain ⟨wo, rfl⟩ : ∃ wo : World, wo = wr := ⟨_, rfl⟩
          go_loopw [7, 8] (fun s7 s8 wr => ∃ (a b j : Nat) (D : List Int), s7 = .int .i64 a ∧ s8 = .int .i64 b ∧ b = a + 2 * bs ∧ a ≤ n ∧ Own base 3 eInt 1 wr v D ∧ Below base w wr ∧
            Hid (a = j * (2 * bs) ∧ D.length = n ∧ (∀ k, k < j → SortedOf R (blk xs (2 * bs) k) (blk D (2 * bs) k)) ∧ ∀ k, 2 * j ≤ k → SortedOf R (blk xs bs k) (blk D bs k))) (fun _ b _ => n + 2 * bs - (intOf b).toNat)
          case atStart => exact ⟨0, 2 * bs, 0, D, by go_num, by go_num, by omega, by omega, hown, hb, by simp, hm.out.1, fun k hk => by omega, fun k _ => hm.out.2 k⟩
          case round =>
            obtain ⟨a, b, j, D, rfl, rfl, rfl, han, hown, hb, hm⟩ := hrel
            have hsz := hb.size
            by_cases hlt3 : a + 2 * bs ≤ n
            · have hlt3' : decide ((a : Int) + 2 * bs ≤ n) = true := by simp; omega
              obtain ⟨m1, m2, m3, m4⟩ := hm.out
              have ej : j * (2 * bs) = 2 * j * bs := by rw [Nat.mul_comm j, Nat.mul_comm 2 bs, Nat.mul_assoc, Nat.mul_comm bs]
              obtain ⟨P, A, B, T, hsp, hPl, hAl, hBl, hTl, hA, hB⟩ : ∃ P A B T, D = P ++ A ++ B ++ T ∧ P.length = a ∧ A.length = bs ∧ B.length = bs ∧ T.length = n - (a + 2 * bs) ∧ A = blk D bs (2 * j) ∧ B = blk D bs (2 * j + 1) := by
                refine ⟨D.take a, (D.drop a).take bs, (D.drop (a + bs)).take bs, D.drop (a + 2 * bs), ?_, by simp; omega, by simp; omega, by simp; omega, by simp; omega, ?_, ?_⟩
                · have e1 := split_at D a bs (by omega)
                  have e2 : D.drop (a + bs) = (D.drop (a + bs)).take bs ++ D.drop (a + 2 * bs) := by
                    have e3 := (List.take_append_drop bs (D.drop (a + bs))).symm
                    rw [List.drop_drop] at e3
                    rw [show a + 2 * bs = (a + bs) + bs from by omega]
                    exact e3
                  rw [e2] at e1
                  rw [List.append_assoc]
                  exact e1
                · unfold blk; rw [← ej, ← m1]
                · unfold blk; rw [Nat.add_mul, Nat.one_mul, ← ej, ← m1]
              have sA := m4 (2 * j) (Nat.le_refl _)
              have sB := m4 (2 * j + 1) (by omega)
              rw [← hA] at sA
              rw [← hB] at sB
              have hfin := fun S (hS : SortedOf R (A ++ B) S) => merge_step xs D P A B T S bs j hsp (by omega) hAl (.inl hBl) m3 m4 hS
              have HF := Lib.hid (And.intro hfin (And.intro m1 (And.intro hPl (And.intro hAl (And.intro hBl hTl)))))
              have S2 := Lib.hid (And.intro sA sB)
              have hown1 : Own base 3 eInt 1 wr v (P ++ A ++ B ++ T) := by rw [← hsp]; exact hown
              clear hfin hPl hAl hBl hTl hA hB sA sB m1 m2 m3 m4 ej hsp hown hm
              go_wp2_with fail
              refine Calls.mono (sym_any g lb eg c ok R Ht.out base v (A.length + B.length) P A B T _ _ _ wr (Nat.le_refl _) (Hc.out.later hb) hown1 (by omega) ?_ ?_ ?_ S2.out.1.2 S2.out.2.2 ?_ ?_ ?_ ?_ ?_ ?_) ?_
              · intro x hx; exact Hok.out x (blk_sub xs bs _ x (S2.out.1.1.mem_iff.1 hx))
              · intro x hx; exact Hok.out x (blk_sub xs bs _ x (S2.out.2.1.mem_iff.1 hx))
              · intro x hx y hy; exact blk_mem_dec Hdec.out bs (2 * j) x (S2.out.1.1.mem_iff.1 hx) y (S2.out.2.1.mem_iff.1 hy)
              · have := HF.out.2.2.2.1; omega
              · have := HF.out.2.2.2.2.1; omega
              · have := HF.out.2.2.1; omega
              · have := HF.out.2.2.1; have := HF.out.2.2.2.1; omega
              · have := HF.out.2.2.1; have := HF.out.2.2.2.1; have := HF.out.2.2.2.2.1; omega
              · have := HF.out.2.2.1; have := HF.out.2.2.2.1; have := HF.out.2.2.2.2.1; have := HF.out.2.2.2.2.2; omega
              rintro e w2 ⟨rfl, ⟨S, hown2, hS⟩, hb2⟩
              have hbb2 := hb.trans hb2
              go_wp2_with fail
              go_roundw
              case measure => simp [intOf]; omega
              case rel =>
                obtain ⟨f1, f2, f3, f4, f5, f6⟩ := HF.out
                have hSl := hS.1.length_eq
                refine ⟨a + 2 * bs, a + 2 * bs + 2 * bs, j + 1, P ++ S ++ T, congrArg (Value.int .i64) (by omega), congrArg (Value.int .i64) (by omega), rfl, by omega, hown2, hbb2, ?_, ?_, (f1 S hS).1, (f1 S hS).2⟩
                · rw [Nat.add_mul]; omega
                · simp at hSl ⊢; omega
            · have hlt3' : decide ((a : Int) + 2 * bs ≤ n) = false := by simp; omega
              by_cases hlt4 : a + bs < n
              · have hlt4' : decide ((a : Int) + bs < n) = true := by simp; omega
                obtain ⟨m1, m2, m3, m4⟩ := hm.out
                have ej : j * (2 * bs) = 2 * j * bs := by rw [Nat.mul_comm j, Nat.mul_comm 2 bs, Nat.mul_assoc, Nat.mul_comm bs]
                obtain ⟨P, A, B, hsp, hPl, hAl, hBl, hA, hB⟩ : ∃ P A B, D = P ++ A ++ B ++ [] ∧ P.length = a ∧ A.length = bs ∧ B.length = n - (a + bs) ∧ A = blk D bs (2 * j) ∧ B = blk D bs (2 * j + 1) := by
                  refine ⟨D.take a, (D.drop a).take bs, D.drop (a + bs), ?_, by simp; omega, by simp; omega, by simp; omega, ?_, ?_⟩
                  · rw [List.append_nil]; exact split_at D a bs (by omega)
                  · unfold blk; rw [← ej, ← m1]
                  · unfold blk; rw [Nat.add_mul, Nat.one_mul, ← ej, ← m1, List.take_of_length_le (by simp; omega)]
                have sA := m4 (2 * j) (Nat.le_refl _)
                have sB := m4 (2 * j + 1) (by omega)
                rw [← hA] at sA
                rw [← hB] at sB
                have hfin := fun S (hS : SortedOf R (A ++ B) S) => merge_step xs D P A B [] S bs j hsp (by omega) hAl (.inr ⟨rfl, by omega⟩) m3 m4 hS
                have HF := Lib.hid (And.intro hfin (And.intro m1 (And.intro hPl (And.intro hAl hBl))))
                have S2 := Lib.hid (And.intro sA sB)
                have hown1 : Own base 3 eInt 1 wr v (P ++ A ++ B ++ []) := by rw [← hsp]; exact hown
                clear hfin hPl hAl hBl hA hB sA sB m1 m2 m3 m4 ej hsp hown hm
                go_wp2_with fail
                refine Calls.mono (sym_any g lb eg c ok R Ht.out base v (A.length + B.length) P A B [] _ _ _ wr (Nat.le_refl _) (Hc.out.later hb) hown1 (by omega) ?_ ?_ ?_ S2.out.1.2 S2.out.2.2 ?_ ?_ ?_ ?_ ?_ ?_) ?_
                · intro x hx; exact Hok.out x (blk_sub xs bs _ x (S2.out.1.1.mem_iff.1 hx))
                · intro x hx; exact Hok.out x (blk_sub xs bs _ x (S2.out.2.1.mem_iff.1 hx))
                · intro x hx y hy; exact blk_mem_dec Hdec.out bs (2 * j) x (S2.out.1.1.mem_iff.1 hx) y (S2.out.2.1.mem_iff.1 hy)
                · have := HF.out.2.2.2.1; omega
                · have := HF.out.2.2.2.2; omega
                · have := HF.out.2.2.1; omega
                · have := HF.out.2.2.1; have := HF.out.2.2.2.1; omega
                · have := HF.out.2.2.1; have := HF.out.2.2.2.1; have := HF.out.2.2.2.2; omega
                · have := HF.out.2.2.1; have := HF.out.2.2.2.1; have := HF.out.2.2.2.2; simp; omega
                rintro e w2 ⟨rfl, ⟨S, hown2, hS⟩, hb2⟩
                have hbb2 := hb.trans hb2
                go_wp2_with fail
                go_roundw
                case measure => simp [intOf]; omega
                case rel =>
                  obtain ⟨f1, f2, f3, f4, f5⟩ := HF.out
                  have hSl := hS.1.length_eq
                  have hDl : (P ++ S ++ []).length = n := by simp at hSl ⊢; omega
                  refine ⟨bs * 2, P ++ S ++ [], congrArg (Value.int .i64) (by omega), by omega, .inr (by omega), hown2, hbb2, hDl, fun k => ?_⟩
                  rw [Nat.mul_comm bs 2]
                  by_cases hk : k < j + 1
                  · exact (f1 S hS).1 k hk
                  · have h3 : (j + 1) * (2 * bs) ≤ k * (2 * bs) := Nat.mul_le_mul_right _ (by omega)
                    rw [Nat.add_mul] at h3
                    rw [blk_none xs (2 * bs) k (by have := Hn.out; omega), blk_none _ (2 * bs) k (by omega)]
                    exact sorted_nil
              · have hlt4' : decide ((a : Int) + bs < n) = false := by simp; omega
                go_wp2_with fail
                go_roundw
                case measure => simp [intOf]; omega
                case rel =>
                  obtain ⟨m1, m2, m3, m4⟩ := hm.out
                  have ej : j * (2 * bs) = 2 * j * bs := by rw [Nat.mul_comm j, Nat.mul_comm 2 bs, Nat.mul_assoc, Nat.mul_comm bs]
                  refine ⟨bs * 2, D, congrArg (Value.int .i64) (by omega), by omega, .inr (by omega), hown, hb, m2, fun k => ?_⟩
                  rw [Nat.mul_comm bs 2]
                  by_cases hk : k < j
                  · exact m3 k hk
                  · by_cases hkj : k = j
                    · subst hkj
                      have e3 : (2 * k + 1) * bs = 2 * k * bs + bs := by rw [Nat.add_mul, Nat.one_mul]
                      rw [blk_two, blk_two, blk_none xs bs (2 * k + 1) (by have := Hn.out; omega), blk_none D bs (2 * k + 1) (by omega), List.append_nil, List.append_nil]
                      exact m4 (2 * k) (Nat.le_refl _)
                    · have h3 : (j + 1) * (2 * bs) ≤ k * (2 * bs) := Nat.mul_le_mul_right _ (by omega)
                      rw [Nat.add_mul] at h3
                      rw [blk_none xs (2 * bs) k (by have := Hn.out; omega), blk_none _ (2 * bs) k (by omega)]
                      exact sorted_nil
        · have hlt2' : decide (bs < n) = false := by simp; omega
          go_wp2_with fail
          go_end0
          refine ⟨rfl, ⟨D, hown, ?_⟩, hb⟩
          obtain ⟨m1, m2⟩ := hm.out
          have := m2 0
          unfold blk at this
          simp only [Nat.zero_mul, List.drop_zero] at this
          rw [List.take_of_length_le (by have := Hn.out; omega), List.take_of_length_le (by omega)] at this
          exact this

set_option maxHeartbeats 400000 in
/-- slices.SortStableFunc at int. -/
theorem sortStable_any (g : Nat) (lb : Array Value) (eg : ∀ args w, (callFunc g args).run Tryz.prog w = .ok (.enter g args) w) (c : Int → Int → Int) (ok : Int → Prop) (R : Int → Int → Prop) (ht : ∀ x y z, R x y → R y z → R x z)
    (xs : List Int) (base : Nat) (v : Value) (w : World) (hc : CmpOK Tryz.prog g lb c ok base w) (hown : Own base 3 eInt 1 w v xs) (hbase : base ≤ w.heap.size) (hok : ∀ x ∈ xs, ok x) (hdec : xs.Pairwise (Dec c R)) (hlen : xs.length < 1000000000) :
    Calls Tryz.prog 47 #[v, .func (.func g) #[] lb] w fun e w' => e = .returned (.tuple #[]) ∧ (∃ S, Own base 3 eInt 1 w' v S ∧ SortedOf R xs S) ∧ Below base w w' := by
  obtain ⟨a, cap, rfl⟩ := hown.isSlice
  go_enter Tryz.func47, Tryz.ntmps47
  go_wp2_with fail
  refine Calls.mono (stable_any g lb eg c ok R ht xs base _ _ w hc hown hbase hok hdec rfl hlen) ?_
  rintro e w1 ⟨rfl, h1, h2⟩
  go_wp2_with fail
  go_end0
  exact ⟨rfl, h1, h2⟩

end Go.Proofs.YtlcfnbnpkcjjlaaGreat
