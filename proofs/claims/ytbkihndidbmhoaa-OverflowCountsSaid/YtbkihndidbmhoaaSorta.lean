/- slices.SortStableFunc at int, its lower functions: insertion, swapping and rotating. Conditions: fewer than 2^31 elements; the row is the caller's own; the comparison reads only. -/
import Derived.Test.YtbkihndidbmhoaaRows
import Derived.Test.YtbkihndidbmhoaaBase
import Derived.BigRegion
import Derived.Deep.QuietTactic
import Derived.BigQuiet
import Derived.Shelf.Abstract
import Derived.Lib.Hide
namespace Go.Proofs.Ytbkihndidbmhoaa
open Go.RowKit
set_option linter.unusedVariables false
set_option linter.unusedSimpArgs false

/-- A comparison handed over as a function value: it hands back 'c x y', and only reads. -/
def CmpOK (P : Program) (g : Nat) (lb : Array Value) (c : Int → Int → Int) (ok : Int → Prop) (base : Nat) (w0 : World) : Prop :=
  ∀ W, Below base w0 W → ∀ x y, ok x → ok y → Calls P g (#[.int .i64 x, .int .i64 y] ++ lb) W fun e w' => e = .returned (.int .i64 (c x y)) ∧ ∃ q, w' = W.drewN q

theorem Own.int {base : Nat} {e : TypeId} {w : World} {g n cap : Nat} {xs : List Int} (h : Own base e eInt 1 w (.slice (some ⟨g, 0, none⟩) n cap) xs) (i : Nat) (hi : i < xs.length) :
    w.cell? ⟨g, i, none⟩ = some (.int .i64 (xs.getD i 0)) := by
  have := h.cellAt' (k := 1) (fun _ => rfl) i 0 hi (by decide)
  simpa [List.getD, List.getElem?_eq_getElem hi] using this

theorem Own.len {α : Type} {base : Nat} {e : TypeId} {enc : α → List Value} {k : Nat} {w : World} {a : Option Addr} {n cap : Nat} {xs : List α} (h : Own base e enc k w (.slice a n cap) xs) : n = xs.length := by
  obtain ⟨a, c, e'⟩ := h.isSlice
  simp only [Value.slice.injEq] at e'
  exact e'.2.1

theorem Own.placeA {α : Type} {base : Nat} {e : TypeId} {enc : α → List Value} {k : Nat} {w : World} {a : Option Addr} {n cap : Nat} {xs : List α} (h : Own base e enc k w (.slice a n cap) xs) (hne : 0 < xs.length) :
    ∃ g, a = some ⟨g, 0, none⟩ ∧ base ≤ g ∧ g < w.heap.size ∧ n ≤ cap ∧ cap ≤ 9223372036854775807 := by
  obtain ⟨g, cap', e', hb, hg, h1, h2⟩ := h.place hne
  simp only [Value.slice.injEq] at e'
  obtain ⟨rfl, rfl, rfl⟩ := e'
  exact ⟨g, rfl, hb, hg, h1, h2⟩

theorem Own.ofHeap {α : Type} {base : Nat} {e : TypeId} {enc : α → List Value} {k : Nat} {w w' : World} {v : Value} {xs : List α} (h : Own base e enc k w v xs) (he : w'.heap = w.heap) : Own base e enc k w' v xs := by
  unfold Own World.ownsRow at *
  rw [he]; exact h

theorem Own.setInt {base : Nat} {e : TypeId} {w : World} {g n cap : Nat} {xs : List Int} (h : Own base e eInt 1 w (.slice (some ⟨g, 0, none⟩) n cap) xs) (i : Nat) (hi : i < xs.length) (y : Int) :
    Own base e eInt 1 (w.setCell ⟨g, i, none⟩ (.int .i64 y)) (.slice (some ⟨g, 0, none⟩) n cap) (xs.set i y) := by
  have := h.store (k := 1) (fun _ => rfl) i 0 hi (by decide) (.int .i64 y) y (by simp)
  simpa using this

def swapL (xs : List Int) (i j : Nat) : List Int := (xs.set i (xs.getD j 0)).set j (xs.getD i 0)
theorem swapL_len (xs : List Int) (i j : Nat) : (swapL xs i j).length = xs.length := by simp [swapL]

theorem swapL_mem (xs : List Int) (i j : Nat) (hi : i < xs.length) (hj : j < xs.length) : ∀ x ∈ swapL xs i j, x ∈ xs := by
  intro x hx
  unfold swapL at hx
  rcases List.mem_or_eq_of_mem_set hx with hx | rfl
  · rcases List.mem_or_eq_of_mem_set hx with hx | rfl
    · exact hx
    · simp [List.getD, List.getElem?_eq_getElem hj]
  · simp [List.getD, List.getElem?_eq_getElem hi]

theorem swapL_mid (A B C : List Int) (x y : Int) (i j : Nat) (hi : i = A.length) (hj : j = A.length + 1 + B.length) : swapL (A ++ x :: (B ++ y :: C)) i j = A ++ y :: (B ++ x :: C) := by
  subst hi; subst hj
  have h1 : (A ++ x :: (B ++ y :: C)).getD A.length 0 = x := by simp
  have h2 : (A ++ x :: (B ++ y :: C)).getD (A.length + 1 + B.length) 0 = y := by
    rw [List.getD, List.getElem?_append_right (by omega), show A.length + 1 + B.length - A.length = B.length + 1 from by omega]
    simp
  unfold swapL
  rw [h1, h2]
  rw [List.set_append_right _ _ (by omega), Nat.sub_self, List.set_cons_zero]
  rw [List.set_append_right _ _ (by omega), show A.length + 1 + B.length - A.length = B.length + 1 from by omega, List.set_cons_succ]
  rw [List.set_append_right _ _ (by omega), Nat.sub_self, List.set_cons_zero]

theorem Own.mid {base : Nat} {e : TypeId} {w : World} {g n cap : Nat} {xs : List Int} (h : Own base e eInt 1 w (.slice (some ⟨g, 0, none⟩) n cap) xs) (A B : List Int) (y : Int) (i : Nat) (hx : xs = A ++ y :: B) (hi : i = A.length) :
    w.cell? ⟨g, i, none⟩ = some (.int .i64 y) := by
  subst hx; subst hi
  have := h.int A.length (by simp)
  rw [this]
  simp

theorem Own.swap12 {base : Nat} {e : TypeId} {w : World} {g n cap : Nat} {xs : List Int} (h : Own base e eInt 1 w (.slice (some ⟨g, 0, none⟩) n cap) xs) (A B C : List Int) (x y : Int) (i j : Nat) (hx : xs = A ++ x :: (B ++ y :: C)) (hi : i = A.length) (hj : j = A.length + 1 + B.length) :
    Own base e eInt 1 ((w.setCell ⟨g, i, none⟩ (.int .i64 y)).setCell ⟨g, j, none⟩ (.int .i64 x)) (.slice (some ⟨g, 0, none⟩) n cap) (A ++ y :: (B ++ x :: C)) := by
  subst hx
  have h1 := (h.setInt i (by simp; omega) y).setInt j (by simp; omega) x
  have h2 := swapL_mid A B C x y i j hi hj
  unfold swapL at h2
  have e1 : (A ++ x :: (B ++ y :: C)).getD i 0 = x := by subst hi; simp
  have e2 : (A ++ x :: (B ++ y :: C)).getD j 0 = y := by
    subst hj
    rw [List.getD, List.getElem?_append_right (by omega), show A.length + 1 + B.length - A.length = B.length + 1 from by omega]
    simp
  rw [e1, e2] at h2
  rw [← h2]
  exact h1

theorem Own.swap21 {base : Nat} {e : TypeId} {w : World} {g n cap : Nat} {xs : List Int} (h : Own base e eInt 1 w (.slice (some ⟨g, 0, none⟩) n cap) xs) (A B C : List Int) (x y : Int) (i j : Nat) (hx : xs = A ++ x :: (B ++ y :: C)) (hi : i = A.length) (hj : j = A.length + 1 + B.length) :
    Own base e eInt 1 ((w.setCell ⟨g, j, none⟩ (.int .i64 x)).setCell ⟨g, i, none⟩ (.int .i64 y)) (.slice (some ⟨g, 0, none⟩) n cap) (A ++ y :: (B ++ x :: C)) := by
  subst hx
  have h1 := (h.setInt j (by simp; omega) x).setInt i (by simp; omega) y
  have h2 := swapL_mid A B C x y i j hi hj
  unfold swapL at h2
  have e1 : (A ++ x :: (B ++ y :: C)).getD i 0 = x := by subst hi; simp
  have e2 : (A ++ x :: (B ++ y :: C)).getD j 0 = y := by
    subst hj
    rw [List.getD, List.getElem?_append_right (by omega), show A.length + 1 + B.length - A.length = B.length + 1 from by omega]
    simp
  rw [e1, e2] at h2
  rw [← h2, List.set_comm _ _ (by omega)]
  exact h1

/-- swapRange, from place k on. -/
def swapGo (a b : Nat) : Nat → Nat → List Int → List Int
  | 0, _, xs => xs
  | n + 1, k, xs => swapGo a b n (k + 1) (swapL xs (a + k) (b + k))

theorem swapGo_blocks (P Q T : List Int) : ∀ (n k a b : Nat) (X1 X2 Y1 Y2 : List Int), X2.length = n → Y2.length = n → X1.length = k → Y1.length = k → a = P.length → b = P.length + k + n + Q.length →
    swapGo a b n k (P ++ Y1 ++ X2 ++ Q ++ X1 ++ Y2 ++ T) = P ++ (Y1 ++ Y2) ++ Q ++ (X1 ++ X2) ++ T
  | 0, k, a, b, X1, X2, Y1, Y2, h1, h2, h3, h4, h5, h6 => by
    obtain rfl := List.eq_nil_of_length_eq_zero h1
    obtain rfl := List.eq_nil_of_length_eq_zero h2
    simp [swapGo]
  | n + 1, k, a, b, X1, X2, Y1, Y2, h1, h2, h3, h4, h5, h6 => by
    match X2, Y2, h1, h2 with
    | x :: X2, y :: Y2, h1, h2 =>
      simp only [List.length_cons, Nat.add_right_cancel_iff] at h1 h2
      have e : P ++ Y1 ++ x :: X2 ++ Q ++ X1 ++ y :: Y2 ++ T = (P ++ Y1) ++ x :: ((X2 ++ Q ++ X1) ++ y :: (Y2 ++ T)) := by simp
      rw [swapGo, e, swapL_mid (P ++ Y1) (X2 ++ Q ++ X1) (Y2 ++ T) x y (a + k) (b + k) (by simp; omega) (by simp; omega)]
      have e2 : (P ++ Y1) ++ y :: ((X2 ++ Q ++ X1) ++ x :: (Y2 ++ T)) = P ++ (Y1 ++ [y]) ++ X2 ++ Q ++ (X1 ++ [x]) ++ Y2 ++ T := by simp
      rw [e2, swapGo_blocks P Q T n (k + 1) a b (X1 ++ [x]) X2 (Y1 ++ [y]) Y2 h1 h2 (by simp; omega) (by simp; omega) h5 (by omega)]
      simp

/-- Two blocks of one length change places. -/
theorem swapGo_two (P X Q Y T : List Int) (a b n : Nat) (h1 : X.length = n) (h2 : Y.length = n) (h5 : a = P.length) (h6 : b = P.length + n + Q.length) :
    swapGo a b n 0 (P ++ X ++ Q ++ Y ++ T) = P ++ Y ++ Q ++ X ++ T := by
  have := swapGo_blocks P Q T n 0 a b [] X [] Y h1 h2 rfl rfl h5 (by omega)
  simpa using this

set_option maxHeartbeats 1000000 in
theorem swapRange_any (fv : Value) (a b n : Nat) (base : Nat) (xs : List Int) (v : Value) (w : World) (hown : Own base 3 eInt 1 w v xs) (hbase : base ≤ w.heap.size)
    (hab : a + n ≤ b) (hbn : b + n ≤ xs.length) (hlen : xs.length < 2147483648) :
    Calls Try.prog 139 #[v, .int .i64 a, .int .i64 b, .int .i64 n, fv] w fun e w' => e = .returned (.tuple #[]) ∧ Own base 3 eInt 1 w' v (swapGo a b n 0 xs) ∧ Below base w w' := by
  go_enter Try.func139, Try.ntmps139
  go_wp2_with fail
  go_loopw [10] (fun s10 wr => ∃ (k m : Nat) (ys : List Int), k + m = n ∧ s10 = .int .i64 k ∧ Own base 3 eInt 1 wr v ys ∧ ys.length = xs.length ∧ Below base w wr ∧ Hid (swapGo a b n 0 xs = swapGo a b m k ys)) (fun i _ => n - (intOf i).toNat)
  case atStart => exact ⟨0, n, xs, by omega, rfl, hown, rfl, Below.refl _ _, rfl⟩
  case round =>
    obtain ⟨k, m, ys, hkm, rfl, hown, hys, hb, hm⟩ := hrel
    have hsz := hb.size
    cases m with
    | zero =>
      obtain rfl : k = n := by omega
      clear hkm
      go_wp2_with fail
      go_end0
      exact ⟨rfl, by rw [hm.out]; exact hown, hb⟩
    | succ m =>
      obtain ⟨g, cap2, rfl, hbg, hgl, hc1, hc2⟩ := hown.place (by omega)
      have hk : k < n := by omega
      have c1 := hown.int (a + k) (by omega)
      have c2 := hown.int (b + k) (by omega)
      have f1 := hown.free (a + k)
      have f2 := hown.free (b + k)
      have l1 : (a : Int) + k < ys.length := by omega
      have l2 : (b : Int) + k < ys.length := by omega
      have l3 : a + k < ys.length := by omega
      have l4 : b + k < ys.length := by omega
      have lm : ys.length < 2147483648 := by omega
      have ne : ¬ a + k = b + k := by omega
      generalize e1 : ys.getD (a + k) 0 = x1 at *
      generalize e2 : ys.getD (b + k) 0 = x2 at *
      have E1 := Lib.hid e1
      have E2 := Lib.hid e2
      have Hkm := Lib.hid hkm
      have Hys := Lib.hid hys
      clear e1 e2 hkm hys
      go_wp2_with fail
      go_region
      go_wp2
      go_roundw
      case measure => simp [intOf]; omega
      case rel =>
        refine ⟨k + 1, m, _, by have := Hkm.out; omega, by go_num, (hown.setInt (a + k) l3 x2).setInt (b + k) (by simpa using l4) x1, by simp [Hys.out], by repeat' (first | exact Below.refl _ _ | assumption | refine Below.more ?_ ?_ _ | refine Below.alloc ?_ ?_ _ | refine Below.drew ?_ | refine below_drewN ?_ _ | refine Below.setCell ?_ ?_ _ | exact Below.size (by assumption) | (simp [go_sem, size_more]; done) | (simp [go_sem, size_more]; omega)), hm.out.trans ?_⟩
        simp only [swapGo, swapL, E1.out, E2.out]


/-- swapRange over two blocks of a row. -/
theorem swapRange_two (fv : Value) (P X Q Y T : List Int) (A B N : Int) (base : Nat) (v : Value) (w : World) (hown : Own base 3 eInt 1 w v (P ++ X ++ Q ++ Y ++ T)) (hbase : base ≤ w.heap.size)
    (hX : X.length = Y.length) (hA : A = P.length) (hB : B = P.length + X.length + Q.length) (hN : N = X.length) (hlen : P.length + X.length + Q.length + Y.length + T.length < 2147483648) :
    Calls Try.prog 139 #[v, .int .i64 A, .int .i64 B, .int .i64 N, fv] w fun e w' => e = .returned (.tuple #[]) ∧ Own base 3 eInt 1 w' v (P ++ Y ++ Q ++ X ++ T) ∧ Below base w w' := by
  obtain rfl : A = ((P.length : Nat) : Int) := hA
  obtain rfl : B = ((P.length + X.length + Q.length : Nat) : Int) := by omega
  obtain rfl : N = ((X.length : Nat) : Int) := hN
  have := swapRange_any fv P.length (P.length + X.length + Q.length) X.length base _ v w hown hbase (by omega) (by simp; omega) (by simp; omega)
  rw [swapGo_two P X Q Y T P.length (P.length + X.length + Q.length) X.length rfl hX.symm rfl rfl] at this
  exact this

set_option maxHeartbeats 1000000 in
/-- rotate: two neighbouring blocks change places. -/
theorem rotate_any (fv : Value) (P A B T : List Int) (base : Nat) (v : Value) (w : World) (hown : Own base 3 eInt 1 w v (P ++ A ++ B ++ T)) (hbase : base ≤ w.heap.size)
    (hA : 0 < A.length) (hB : 0 < B.length) (hlen : P.length + A.length + B.length + T.length < 2147483648) :
    Calls Try.prog 120 #[v, .int .i64 P.length, .int .i64 (P.length + A.length), .int .i64 (P.length + A.length + B.length), fv] w fun e w' => e = .returned (.tuple #[]) ∧ Own base 3 eInt 1 w' v (P ++ B ++ A ++ T) ∧ Below base w w' := by
  generalize hp : P.length = p at *
  generalize ha : A.length = a at *
  generalize hb : B.length = b at *
  have Hp := Lib.hid hp; have Ha := Lib.hid ha; have Hb := Lib.hid hb
  clear hp ha hb
  go_enter Try.func120, Try.ntmps120
  go_wp2_with fail
  go_loopw [10, 11] (fun s10 s11 wr => ∃ (i j : Nat) (P' A' B' T' : List Int), s10 = .int .i64 i ∧ s11 = .int .i64 j ∧ 0 < i ∧ 0 < j ∧ i + j ≤ a + b ∧ i ≤ p + a ∧ j ≤ b ∧ Own base 3 eInt 1 wr v (P' ++ A' ++ B' ++ T') ∧ Below base w wr ∧
      Hid (A'.length = i ∧ B'.length = j ∧ P'.length + i = p + a ∧ P ++ B ++ A ++ T = P' ++ B' ++ A' ++ T')) (fun i j _ => (intOf i).toNat + (intOf j).toNat)
  case atStart => exact ⟨a, b, P, A, B, T, by go_num, by go_num, hA, hB, by omega, by omega, by omega, hown, Below.refl _ _, Ha.out, Hb.out, by rw [Hp.out], rfl⟩
  case round =>
    obtain ⟨i, j, P', A', B', T', rfl, rfl, hi, hj, hij, hip, hjb, hown, hb, hm⟩ := hrel
    have hsz := hb.size
    have hL : (P' ++ A' ++ B' ++ T').length = (P ++ A ++ B ++ T).length := by
      have := congrArg List.length hm.out.2.2.2
      simp only [List.length_append] at this ⊢
      omega
    have HL := Lib.hid hL
    clear hL
    rcases Nat.lt_trichotomy i j with h | h | h
    · obtain ⟨B1, B2, hB12, hB2⟩ : ∃ B1 B2, B' = B1 ++ B2 ∧ B2.length = i := ⟨B'.take (j - i), B'.drop (j - i), by simp, by have := hm.out.2.1; simp; omega⟩
      subst hB12
      have hne : ((i : Int) != (j : Int)) = true := by rw [bne_iff_ne]; omega
      have HB2 := Lib.hid hB2
      clear hB2
      have hown' : Own base 3 eInt 1 wr v (P' ++ A' ++ B1 ++ B2 ++ T') := by simpa using hown
      clear hown
      go_wp2_with fail
      refine Calls.mono (swapRange_two _ P' A' B1 B2 T' _ _ _ base _ _ hown' (by omega) ?_ ?_ ?_ ?_ ?_) ?_
      · rw [HB2.out, hm.out.1]
      · have := hm.out.2.2.1; omega
      · have h1 := hm.out.1; have h2 := hm.out.2.1; have := hm.out.2.2.1; have := HB2.out; simp only [List.length_append] at *; omega
      · rw [hm.out.1]
      · have h3 := HL.out; simp only [List.length_append] at h3; have := Hp.out; have := Ha.out; have := Hb.out; omega
      rintro e w1 ⟨rfl, hown1, hb1⟩
      have hbb := hb.trans (hb1.mono (by omega))
      go_wp2_with fail
      go_roundw
      case measure => simp [intOf]; omega
      case rel =>
        have h1 := hm.out.1; have h2 := hm.out.2.1; have h3 := hm.out.2.2.1; have h4 := hm.out.2.2.2; have h5 := HB2.out
        simp only [List.length_append] at h2
        exact ⟨i, j - i, P', B2, B1, A' ++ T', rfl, congrArg (Value.int .i64) (by omega), by omega, by omega, by omega, by omega, by omega, by simpa using hown1, hbb, h5, by omega, by omega, by rw [h4]; simp⟩
    · subst h
      have hne : ((i : Int) != (i : Int)) = false := by simp
      have hown' : Own base 3 eInt 1 wr v (P' ++ A' ++ [] ++ B' ++ T') := by simpa using hown
      go_wp2_with fail
      refine Calls.mono (swapRange_two _ P' A' [] B' T' _ _ _ base _ _ hown' (by omega) ?_ ?_ ?_ ?_ ?_) ?_
      · rw [hm.out.1, hm.out.2.1]
      · have := hm.out.2.2.1; omega
      · have := hm.out.2.2.1; have := hm.out.1; simp only [List.length_nil]; omega
      · rw [hm.out.1]
      · have h3 := HL.out; simp only [List.length_append] at h3; have := Hp.out; have := Ha.out; have := Hb.out; simp only [List.length_nil]; omega
      rintro e w1 ⟨rfl, hown1, hb1⟩
      have hbb := hb.trans (hb1.mono (by omega))
      go_wp2_with fail
      go_end0
      refine ⟨rfl, ?_, hbb⟩
      rw [hm.out.2.2.2]
      simpa using hown1
    · obtain ⟨A1, A2, hA12, hA1⟩ : ∃ A1 A2, A' = A1 ++ A2 ∧ A1.length = j := ⟨A'.take j, A'.drop j, by simp, by have := hm.out.1; simp; omega⟩
      subst hA12
      have hne : ((i : Int) != (j : Int)) = true := by rw [bne_iff_ne]; omega
      have HA1 := Lib.hid hA1
      clear hA1
      have hown' : Own base 3 eInt 1 wr v (P' ++ A1 ++ A2 ++ B' ++ T') := by simpa using hown
      clear hown
      go_wp2_with fail
      refine Calls.mono (swapRange_two _ P' A1 A2 B' T' _ _ _ base _ _ hown' (by omega) ?_ ?_ ?_ ?_ ?_) ?_
      · rw [HA1.out, hm.out.2.1]
      · have := hm.out.2.2.1; omega
      · have h1 := hm.out.1; have h2 := hm.out.2.1; have := hm.out.2.2.1; have := HA1.out; simp only [List.length_append] at *; omega
      · rw [HA1.out]
      · have h3 := HL.out; simp only [List.length_append] at h3; have := Hp.out; have := Ha.out; have := Hb.out; omega
      rintro e w1 ⟨rfl, hown1, hb1⟩
      have hbb := hb.trans (hb1.mono (by omega))
      go_wp2_with fail
      go_roundw
      case measure => simp [intOf]; omega
      case rel =>
        have h1 := hm.out.1; have h2 := hm.out.2.1; have h3 := hm.out.2.2.1; have h4 := hm.out.2.2.2; have h5 := HA1.out
        simp only [List.length_append] at h1
        exact ⟨i - j, j, P' ++ B', A2, A1, T', congrArg (Value.int .i64) (by omega), rfl, by omega, by omega, by omega, by omega, by omega, by simpa using hown1, hbb, by omega, h5, by simp; omega, by rw [h4]; simp⟩

end Go.Proofs.Ytbkihndidbmhoaa
