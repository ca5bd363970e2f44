/- Quantile of the program. Conditions: the slice reads as a list. -/
import Derived.Test.YtdlaghjijfgncaaEvsrt
import Derived.Test.YtdlaghjijfgncaaEvm
namespace Go.Proofs.Ytdlaghjijfgncaa
open Go.RowKit
set_option linter.unusedVariables false
set_option linter.unusedSimpArgs false

def totalsM (l : List Ev) : List Int := l.map fun x => x.Total
def sortedT (l : List Ev) : List Int := (totalsM l).mergeSort fun x y => decide (x ≤ y)
/-- How many are enough. -/
def qK (num den : Int) (n : Nat) : Int := (num * n + den - 1) / den
def quantM (l : List Ev) (num den : Int) : Int × Int :=
  if validM l = false then (0, 1) else if den < 1 ∨ 1073741824 < den ∨ num < 0 ∨ den < num then (0, 2) else if l.length = 0 then (0, 14)
  else ((sortedT l).getD ((max (qK num den l.length) 1 - 1).toNat) 0, 0)

theorem qK_bd {num den : Int} {n : Nat} (h1 : 1 ≤ den) (h2 : 0 ≤ num) (h3 : num ≤ den) : 0 ≤ qK num den n ∧ qK num den n ≤ n := by
  unfold qK
  have hn : (0 : Int) ≤ n := by omega
  have h4 : 0 ≤ num * n := Int.mul_nonneg h2 hn
  have h5 : num * n ≤ den * n := Int.mul_le_mul_of_nonneg_right h3 hn
  refine ⟨Int.ediv_nonneg (by omega) (by omega), ?_⟩
  have : num * n + den - 1 < (n + 1) * den := by rw [Int.add_mul, Int.one_mul, Int.mul_comm (n : Int) den]; omega
  have := Int.ediv_lt_of_lt_mul (by omega) this
  omega

theorem q_lt {m n : Nat} (h : (m : Int) + 1 ≤ n) : m < n := by omega
theorem q_ltI {m n : Nat} (h : m < n) : (m : Int) < n := by omega
theorem q_max (m : Nat) : max ((m : Int) + 1) 1 = (m : Int) + 1 := by omega
theorem q_w {m : Nat} {N : Nat} (h : m < N) (hN : N ≤ 1000) : wrap64 (m : Int) = m ∧ IntKind.i64.wrap ((m : Int) + 1 - 1) = m := by
  refine ⟨IntWalk.wrap64_in _ (by omega), ?_⟩
  rw [show (m : Int) + 1 - 1 = (m : Int) from by omega]
  exact IntWalk.i64_in _ (by omega)
theorem q_get (T : List Int) (m : Nat) (h : m < T.length) : T.getD ((max ((m : Int) + 1) 1 - 1).toNat) 0 = T[m] := by
  rw [q_max, show ((m : Int) + 1 - 1).toNat = m from by omega]
  simp [List.getD, List.getElem?_eq_getElem h]
theorem q_get0 (T : List Int) (h : 0 < T.length) : T.getD ((max (0 : Int) 1 - 1).toNat) 0 = T[0] := by
  show T.getD 0 0 = _
  simp [List.getD, List.getElem?_eq_getElem h]

set_option maxRecDepth 100000 in
set_option maxHeartbeats 4000000 in
theorem quant_any (l : List Ev) (v : Value) (num den : Int) (w : World) (hv : IsEvs w v l) :
    Calls Try.prog 24 #[v, .int .i64 num, .int .i64 den] w fun e w' => e = .returned (.tuple #[.int .i64 (quantM l num den).1, .int .i64 (quantM l num den).2]) ∧ Below w.heap.size w w' := by
  cases hr : validM l
  · rw [show quantM l num den = (0, 1) from by simp only [quantM, hr, if_true]]
    have HR := Lib.hid hr
    go_enter Try.func24, Try.ntmps24
    go_wp2_with fail
    refine Calls.to (evalid_any l _ _ hv) ?_
    rintro e w1 rfl hb1
    rw [HR.out]
    go_wp2_with fail
    go_ret2
    exact ⟨rfl, hb1⟩
  have HR := Lib.hid hr
  have hl := validM_len hr
  obtain ⟨va, vc, rfl, hcap, hbig, hs⟩ := hv
  have hv : IsEvs w (.slice va l.length vc) l := ⟨va, vc, rfl, hcap, hbig, hs⟩
  by_cases q1 : den < 1
  · rw [show quantM l num den = (0, 2) from by simp only [quantM, hr, q1, true_or, if_true]; simp]
    have u1 := decide_eq_true q1
    go_enter Try.func24, Try.ntmps24
    go_wp2_with fail
    refine Calls.to (evalid_any l _ _ hv) ?_
    rintro e w1 rfl hb1
    rw [HR.out]
    go_wp2_with fail
    go_ret2
    exact ⟨rfl, hb1⟩
  have u1 := decide_eq_false q1
  by_cases q2 : 1073741824 < den
  · rw [show quantM l num den = (0, 2) from by simp only [quantM, hr, q2, true_or, or_true, if_true]; simp]
    have u2 := decide_eq_true q2
    go_enter Try.func24, Try.ntmps24
    go_wp2_with fail
    refine Calls.to (evalid_any l _ _ hv) ?_
    rintro e w1 rfl hb1
    rw [HR.out]
    go_wp2_with fail
    go_ret2
    exact ⟨rfl, hb1⟩
  have u2 := decide_eq_false q2
  by_cases q3 : num < 0
  · rw [show quantM l num den = (0, 2) from by simp only [quantM, hr, q3, true_or, or_true, if_true]; simp]
    have u3 := decide_eq_true q3
    go_enter Try.func24, Try.ntmps24
    go_wp2_with fail
    refine Calls.to (evalid_any l _ _ hv) ?_
    rintro e w1 rfl hb1
    rw [HR.out]
    go_wp2_with fail
    go_ret2
    exact ⟨rfl, hb1⟩
  have u3 := decide_eq_false q3
  by_cases q4 : den < num
  · rw [show quantM l num den = (0, 2) from by simp only [quantM, hr, q4, or_true, if_true]; simp]
    have u4 := decide_eq_true q4
    go_enter Try.func24, Try.ntmps24
    go_wp2_with fail
    refine Calls.to (evalid_any l _ _ hv) ?_
    rintro e w1 rfl hb1
    rw [HR.out]
    go_wp2_with fail
    go_ret2
    exact ⟨rfl, hb1⟩
  have u4 := decide_eq_false q4
  by_cases q5 : l.length = 0
  · rw [show quantM l num den = (0, 14) from by simp only [quantM, hr, q1, q2, q3, q4, q5, or_self, if_true, if_false]; simp]
    have u5 : ((l.length : Int) == 0) = true := by rw [q5]; rfl
    clear q5
    go_enter Try.func24, Try.ntmps24
    go_wp2_with fail
    refine Calls.to (evalid_any l _ _ hv) ?_
    rintro e w1 rfl hb1
    rw [HR.out]
    go_wp2_with fail
    go_ret2
    exact ⟨rfl, hb1⟩
  have u5 : ((l.length : Int) == 0) = false := by rw [beq_eq_false_iff_ne]; omega
  have HQ : Hid (quantM l num den = ((sortedT l).getD ((max (qK num den l.length) 1 - 1).toNat) 0, 0)) := by
    show _ = _
    simp only [quantM, hr, q1, q2, q3, q4, q5, or_self, if_false]
    simp
  obtain ⟨res, hres⟩ : ∃ r, quantM l num den = r := ⟨_, rfl⟩
  have HRES := Lib.hid (hres.symm.trans HQ.out)
  rw [hres]
  clear hres HQ
  have hkb := qK_bd (n := l.length) (show 1 ≤ den by omega) (show 0 ≤ num by omega) (show num ≤ den by omega)
  have p0 : 0 ≤ num * (l.length : Int) := Int.mul_nonneg (by omega) (by omega)
  have p1 : num * (l.length : Int) ≤ 1073741824 * 1000 := Int.mul_le_mul (by omega) (by omega) (by omega) (by omega)
  have x1 : IntKind.i64.wrap (num * (l.length : Int)) = num * (l.length : Int) := IntWalk.i64_in _ (by omega)
  have x2 : IntKind.i64.wrap (num * (l.length : Int) + den) = num * (l.length : Int) + den := IntWalk.i64_in _ (by omega)
  have x3 : IntKind.i64.wrap (num * (l.length : Int) + den - 1) = num * (l.length : Int) + den - 1 := IntWalk.i64_in _ (by omega)
  have z0 : (den == 0) = false := by rw [beq_eq_false_iff_ne]; omega
  have b1 : 0 ≤ num * (l.length : Int) + den - 1 := by omega
  have b2 : 1 ≤ den := by omega
  have hl0 : 0 < l.length := by omega
  have HQK : Hid (qK num den l.length = (num * (l.length : Int) + den - 1) / den) := rfl
  go_enter Try.func24, Try.ntmps24
  go_wp2_with fail
  refine Calls.to (evalid_any l _ _ hv) ?_
  rintro e w1 rfl hb1
  rw [HR.out]
  have HP := Lib.hid (And.intro p0 (And.intro p1 (show den ≤ 1073741824 by omega)))
  have HB := Lib.hid b1
  clear q1 q2 q3 q4 q5 x1 x2 x3 p0 p1 b1
  go_wp2_with fail
  go_loopw [8, 38] (fun s8 s38 wr => ∃ i : Nat, i ≤ l.length ∧ s38 = .int .i64 i ∧ Own w.heap.size 3 eInt 1 wr s8 ((totalsM l).take i) ∧ Below w.heap.size w wr) (fun _ i _ => l.length - (intOf i).toNat)
  case atStart => exact ⟨0, Nat.zero_le _, rfl, by rw [List.take_zero]; exact World.ownsRow_nil _ _ _ _, hb1⟩
  case round =>
    obtain ⟨i, hi, rfl, hown, hb⟩ := hrel
    have htl : (totalsM l).length = l.length := by simp [totalsM]
    by_cases hlt : i < l.length
    · obtain ⟨b, off, rfl, c1, c2, c3, c4⟩ := (hs.mono hb).ev i hlt
      have HT : Hid ((totalsM l).take (i + 1) = (totalsM l).take i ++ [l[i].Total]) := by
        show _ = _
        rw [List.take_succ_eq_append_getElem (by omega)]
        simp [totalsM]
      have hyl : ((totalsM l).take i).length < 2147483648 := by rw [List.length_take]; omega
      have hz := hb.size
      have hbA : Below w.heap.size w (wr.alloc (.cells #[.int .i64 l[i].From, .int .i64 l[i].To, .int .i64 l[i].Total, .int .i64 l[i].Peak] 34)) := hb.alloc hb.size _
      have hownA := hown.below ((Below.refl _ _).alloc (Nat.le_refl _) (.cells #[.int .i64 l[i].From, .int .i64 l[i].To, .int .i64 l[i].Total, .int .i64 l[i].Peak] 34))
      have hzA : w.heap.size ≤ (wr.alloc (.cells #[.int .i64 l[i].From, .int .i64 l[i].To, .int .i64 l[i].Total, .int .i64 l[i].Peak] 34)).heap.size := by simp; omega
      have hsA : (wr.alloc (.cells #[.int .i64 l[i].From, .int .i64 l[i].To, .int .i64 l[i].Total, .int .i64 l[i].Peak] 34)).heap.size = wr.heap.size + 1 := by simp
      have x4 : IntKind.i64.wrap ((i : Int) + 1) = i + 1 := IntWalk.i64_in _ (by omega)
      obtain ⟨a5, c5, rfl⟩ := hown.isSlice
      have HTL := Lib.hid htl
      clear hs hown htl
      generalize (totalsM l).take i = ys at *
      generalize l[i] = x at *
      go_wp2_with (at_builtin; go_must (refine wpList_pushB rfl _ _ 22 rfl 3 _ 1 8 undInts infInt rfl (by decide) x.Total (fun _ => rfl) (by simp [Value.oneCell']) _ ys rfl hownA _ rfl hsA hyl (by decide) hzA _ rfl ?_); intro g3 cap3 w2 hown2 hbg2 hgl2 hb2 hc21 hc22)
      go_roundw
      case measure => simp [intOf]; omega
      case rel => exact ⟨i + 1, by omega, by go_num, by rw [HT.out]; exact hown2, hbA.trans hb2⟩
    · obtain rfl : i = l.length := by omega
      rw [List.take_of_length_le (by omega)] at hown
      obtain ⟨g, cap, rfl, hbg, hgl, hcp, hcb⟩ := hown.place (by omega)
      have HTL := Lib.hid htl
      have hbw := hb
      clear htl hs
      go_wp2_with fail
      refine Calls.mono (sortI_any _ _ w.heap.size wr hown (by have := HTL.out; omega) (by have := HTL.out; omega)) ?_
      rintro e w3 ⟨⟨rfl, hown3⟩, hb3⟩
      have hsl : (sortedT l).length = l.length := by rw [← HTL.out]; exact List.length_mergeSort _
      have hown3 : Own w.heap.size 3 eInt 1 w3 (.slice (some ⟨g, 0, none⟩) (totalsM l).length cap) (sortedT l) := hown3
      have hbw3 := hbw.trans hb3
      obtain ⟨p0, p1, p2⟩ := HP.out
      have b1 := HB.out
      have x1 : IntKind.i64.wrap (num * (l.length : Int)) = num * (l.length : Int) := IntWalk.i64_in _ (by omega)
      have x2 : IntKind.i64.wrap (num * (l.length : Int) + den) = num * (l.length : Int) + den := IntWalk.i64_in _ (by omega)
      have x3 : IntKind.i64.wrap (num * (l.length : Int) + den - 1) = num * (l.length : Int) + den - 1 := IntWalk.i64_in _ (by omega)
      rw [HQK.out] at hkb HRES
      obtain ⟨K, hK⟩ : ∃ K, (num * (l.length : Int) + den - 1) / den = K := ⟨_, rfl⟩
      rw [hK] at hkb HRES
      have x7 : (num * (l.length : Int) + den - 1).tdiv den = K := (Int.tdiv_eq_ediv_of_nonneg b1).trans hK
      have x5 : IntKind.i64.wrap K = K := IntWalk.i64_in _ (by omega)
      have x6 : wrap64 K = K := IntWalk.wrap64_in _ (by omega)
      have X1 := Lib.hid x1
      have X2 := Lib.hid x2
      have X3 := Lib.hid x3
      have X5 := Lib.hid x5
      have X6 := Lib.hid x6
      have X7 := Lib.hid x7
      clear x1 x2 x3 x5 x6 x7 hK p0 p1 p2 b1
      by_cases k1 : K < 1
      · obtain rfl : K = 0 := by omega
        have h0' : 0 < (sortedT l).length := by rw [hsl]; exact hl0
        have c1 := hown3.int 0 h0'
        have hT0 : 0 < (totalsM l).length := by rw [HTL.out]; exact hl0
        have y0 : max (0 : Int) 1 = 1 := rfl
        have y0' : (max (0 : Int) 1).toNat - 1 = 0 := rfl
        have hget := q_get0 (sortedT l) h0'
        have HR2 := Lib.hid (HRES.out.trans (congrArg (fun t => (t, (0 : Int))) hget))
        clear HTL hsl hget HRES
        have x1 := X1.out
        have x2 := X2.out
        have x3 := X3.out
        have x5 := X5.out
        have x6 := X6.out
        have x7 := X7.out
        go_wp2_with fail
        go_ret2
        exact ⟨by rw [HR2.out]; rfl, hbw3⟩
      · obtain ⟨m, rfl⟩ : ∃ m : Nat, K = (m : Int) + 1 := ⟨(K - 1).toNat, by omega⟩
        have hm' : m < l.length := q_lt hkb.2
        have hml : m < (sortedT l).length := by rw [hsl]; exact hm'
        have c1 := hown3.int m hml
        have hTm : (m : Int) < (totalsM l).length := by rw [HTL.out]; exact q_ltI hm'
        have hT0 : (0 : Int) ≤ m := Int.natCast_nonneg m
        have y1 := q_max m
        obtain ⟨y2, y3⟩ := q_w hm' hl
        have hget := q_get (sortedT l) m hml
        have HR2 := Lib.hid (HRES.out.trans (congrArg (fun t => (t, (0 : Int))) hget))
        clear HTL hsl hget HRES
        have x1 := X1.out
        have x2 := X2.out
        have x3 := X3.out
        have x5 := X5.out
        have x6 := X6.out
        have x7 := X7.out
        go_wp2_with fail
        go_ret2
        exact ⟨by rw [HR2.out]; rfl, hbw3⟩

end Go.Proofs.Ytdlaghjijfgncaa
