/- slices.SortStableFunc at int: symMerge where one of the two parts has one element. Conditions: fewer than 2^31 elements; the row is the caller's own; the comparison reads only. -/
import Derived.Test.YtbkihndidbmhoaaSortb
namespace Go.Proofs.Ytbkihndidbmhoaa
open Go.RowKit
set_option linter.unusedVariables false
set_option linter.unusedSimpArgs false

theorem getD_mid (A M B : List Int) (i q : Nat) (hi : i = A.length + q) (hq : q < M.length) : (A ++ M ++ B).getD i 0 = M.getD q 0 := by
  subst hi
  simp only [List.getD]
  rw [List.append_assoc, List.getElem?_append_right (by omega), show A.length + q - A.length = q from by omega, List.getElem?_append_left hq]

theorem getD_mem (M : List Int) (q : Nat) (hq : q < M.length) : M.getD q 0 ∈ M := by
  simp [List.getD, List.getElem?_eq_getElem hq]

theorem pw_get {R : Int → Int → Prop} {M : List Int} (h : M.Pairwise R) (i j : Nat) (hij : i < j) (hj : j < M.length) : R (M.getD i 0) (M.getD j 0) := by
  have := List.pairwise_iff_getElem.1 h i j (by omega) hj hij
  simpa [List.getD, List.getElem?_eq_getElem hj, List.getElem?_eq_getElem (show i < M.length by omega)] using this

theorem mem_take_get {M : List Int} {n : Nat} {y : Int} (hy : y ∈ M.take n) : ∃ q, q < n ∧ q < M.length ∧ M.getD q 0 = y := by
  obtain ⟨q, hq, rfl⟩ := List.getElem_of_mem hy
  simp only [List.length_take] at hq
  exact ⟨q, by omega, by omega, by simp [List.getD, List.getElem?_eq_getElem (show q < M.length by omega)]⟩

theorem mem_drop_get {M : List Int} {n : Nat} {y : Int} (hy : y ∈ M.drop n) : ∃ q, n ≤ q ∧ q < M.length ∧ M.getD q 0 = y := by
  obtain ⟨q, hq, rfl⟩ := List.getElem_of_mem hy
  simp only [List.length_drop] at hq
  exact ⟨n + q, by omega, by omega, by simp [List.getD, List.getElem?_eq_getElem (show n + q < M.length by omega)]⟩

set_option maxRecDepth 1000000 in
set_option maxHeartbeats 2000000 in
theorem sym_left (g : Nat) (lb : Array Value) (eg : ∀ args w, (callFunc g args).run Try.prog w = .ok (.enter g args) w) (c : Int → Int → Int) (ok : Int → Prop) (R : Int → Int → Prop) (ht : ∀ x y z, R x y → R y z → R x z)
    (P M T : List Int) (x : Int) (A B D : Int) (base : Nat) (v : Value) (w : World) (hc : CmpOK Try.prog g lb c ok base w) (hown : Own base 3 eInt 1 w v (P ++ x :: M ++ T)) (hbase : base ≤ w.heap.size) (hokx : ok x) (hok : ∀ y ∈ M, ok y)
    (hdec : ∀ y ∈ M, Dec c R x y) (hM : M.Pairwise R) (hA : A = P.length) (hB : B = P.length + 1) (hD : D = P.length + 1 + M.length) (hlen : P.length + M.length + T.length < 2147483640) :
    Calls Try.prog 104 #[v, .int .i64 A, .int .i64 B, .int .i64 D, .func (.func g) #[] lb] w fun e w' => e = .returned (.tuple #[]) ∧ (∃ S, Own base 3 eInt 1 w' v (P ++ S ++ T) ∧ SortedOf R (x :: M) S) ∧ Below base w w' := by
  generalize hp : P.length = p at *
  generalize hl : M.length = l at *
  have Hp := Lib.hid hp; have Hl := Lib.hid hl; have Hok := Lib.hid hok; have Hdec := Lib.hid hdec; have Ht := Lib.hid ht; have Hc := Lib.hid hc; have HM := Lib.hid hM
  clear hp hl hok hdec ht hc hM
  subst hA; subst hB; subst hD
  obtain ⟨a, cap, rfl⟩ := hown.isSlice
  obtain ⟨n, hn⟩ : ∃ n, n = (P ++ x :: M ++ T).length := ⟨_, rfl⟩
  rw [← hn] at hown ⊢
  obtain ⟨gg, rfl, hbg, hgl, hc1, hc2⟩ := hown.placeA (by simp; omega)
  have hnl : n = p + 1 + l + T.length := by have := Hp.out; have := Hl.out; rw [hn]; simp; omega
  clear hn
  have hpn : (p : Int) < n := by omega
  have hpn2 : (p : Int) + 1 + l ≤ n := by omega
  have hnm : (n : Int) < 2147483648 := by omega
  clear hnl
  have hone : (((p : Int) + 1 - p) == 1) = true := by simp; omega
  go_enter Try.func104, Try.ntmps104
  go_wp2_with fail
  go_loopw [10, 11] (fun s10 s11 wr => ∃ (i j : Nat), s10 = .int .i64 i ∧ s11 = .int .i64 j ∧ p + 1 ≤ i ∧ i ≤ j ∧ j ≤ p + 1 + l ∧ Own base 3 eInt 1 wr (.slice (some ⟨gg, 0, none⟩) n cap) (P ++ x :: M ++ T) ∧ Below base w wr ∧
      Hid ((∀ q, q < i - (p + 1) → R (M.getD q 0) x) ∧ (∀ q, j - (p + 1) ≤ q → q < l → R x (M.getD q 0)))) (fun i j _ => (intOf j).toNat - (intOf i).toNat)
  case atStart => exact ⟨p + 1, p + 1 + l, by go_num, by go_num, by omega, by omega, by omega, hown, Below.refl _ _, fun q hq => by omega, fun q hq hq2 => by omega⟩
  case round =>
    obtain ⟨i, j, rfl, rfl, hi, hij, hj, hown, hb, hm⟩ := hrel
    have hsz := hb.size
    have hx0 : wr.cell? ⟨gg, p, none⟩ = some (.int .i64 x) := hown.mid P (M ++ T) x p (by simp) Hp.out.symm
    by_cases hlt : i < j
    · obtain ⟨h, hh⟩ : ∃ h : Nat, ((i : Int) + j) / 2 = h := ⟨(i + j) / 2, by omega⟩
      have h1 : i ≤ h := by omega
      have h2 : h < j := by omega
      obtain ⟨y, hy⟩ : ∃ y, Hid (M.getD (h - (p + 1)) 0 = y) := ⟨M.getD (h - (p + 1)) 0, rfl⟩
      have hym : y ∈ M := by rw [← hy.out]; exact getD_mem M _ (by have := Hl.out; omega)
      have cy : wr.cell? ⟨gg, h, none⟩ = some (.int .i64 y) := by
        have := hown.int h (by have := Hp.out; have := Hl.out; simp; omega)
        rw [this, ← hy.out]
        have e : P ++ x :: M ++ T = (P ++ [x]) ++ M ++ T := by simp
        rw [e, getD_mid (P ++ [x]) M T h (h - (p + 1)) (by have := Hp.out; simp; omega) (by have := Hl.out; omega)]
      have hn0 : (0 : Int) ≤ h := by omega
      have hn1 : (h : Int) < n := by omega
      have hij' : decide ((i : Int) < j) = true := by simp; omega
      have HY := Lib.hid (Hdec.out y hym)
      have hoky := Hok.out y hym
      by_cases hcy : c y x < 0
      · go_wp2_with fail
        go_quiet ((go_at_fn g; exact Calls.quiet_of (Hc.out _ (below_drewN hb _) y x hoky hokx)))
        go_wp2_with fail
        go_roundw
        case measure => simp [intOf]; omega
        case rel =>
          refine ⟨h + 1, j, by go_num, rfl, by omega, by omega, by omega, hown.ofHeap rfl, by repeat' (first | exact Below.refl _ _ | assumption | refine Below.more ?_ ?_ _ | refine Below.alloc ?_ ?_ _ | refine Below.drew ?_ | refine below_drewN ?_ _ | refine Below.setCell ?_ ?_ _ | exact Below.size (by assumption) | (simp [go_sem, size_more]; done) | (simp [go_sem, size_more]; omega)), ?_, hm.out.2⟩
          intro q hq
          have hyx := HY.out.1 hcy
          by_cases hqh : q = h - (p + 1)
          · rw [hqh, hy.out]; exact hyx
          · refine Ht.out _ _ _ (pw_get HM.out q (h - (p + 1)) (by omega) (by have := Hl.out; omega)) ?_
            rw [hy.out]; exact hyx
      · have hcb : decide (c y x < 0) = false := by simp; omega
        go_wp2_with fail
        go_quiet ((go_at_fn g; exact Calls.quiet_of (Hc.out _ (below_drewN hb _) y x hoky hokx)))
        go_wp2_with fail
        go_roundw
        case measure => simp [intOf]; omega
        case rel =>
          refine ⟨i, h, rfl, rfl, by omega, by omega, by omega, hown.ofHeap rfl, by repeat' (first | exact Below.refl _ _ | assumption | refine Below.more ?_ ?_ _ | refine Below.alloc ?_ ?_ _ | refine Below.drew ?_ | refine below_drewN ?_ _ | refine Below.setCell ?_ ?_ _ | exact Below.size (by assumption) | (simp [go_sem, size_more]; done) | (simp [go_sem, size_more]; omega)), hm.out.1, ?_⟩
          intro q hq hql
          have hyx := HY.out.2 (by omega)
          by_cases hqh : q = h - (p + 1)
          · rw [hqh, hy.out]; exact hyx
          · refine Ht.out _ (M.getD (h - (p + 1)) 0) _ ?_ (pw_get HM.out (h - (p + 1)) q (by omega) (by have := Hl.out; omega))
            rw [hy.out]; exact hyx
    · obtain rfl : i = j := by omega
      have hij' : decide ((i : Int) < i) = false := by simp
      go_wp2_with fail
      obtain ⟨wo, rfl⟩ : ∃ wo : World, wo = wr := ⟨_, rfl⟩
      clear hx0
      go_loopw [13] (fun s13 wr => ∃ (k : Nat), s13 = .int .i64 k ∧ p ≤ k ∧ k + 1 ≤ i ∧ Own base 3 eInt 1 wr (.slice (some ⟨gg, 0, none⟩) n cap) (P ++ M.take (k - p) ++ x :: (M.drop (k - p) ++ T)) ∧ Below base w wr) (fun k _ => i - (intOf k).toNat)
      case atStart => exact ⟨p, rfl, by omega, by omega, by simpa using hown, hb⟩
      case round =>
        obtain ⟨k, rfl, hk1, hk2, hown, hb⟩ := hrel
        have hsz := hb.size
        by_cases hlt2 : k + 1 < i
        · obtain ⟨y, hy⟩ : ∃ y, Hid (M.drop (k - p) = y :: M.drop (k + 1 - p)) := ⟨M[k - p]'(by have := Hl.out; omega), by
            show M.drop (k - p) = _
            rw [show k + 1 - p = (k - p) + 1 from by omega]
            exact List.drop_eq_getElem_cons (by have := Hl.out; omega)⟩
          have htk : (M.take (k - p)).length = k - p := by have := Hl.out; simp; omega
          have hx : P ++ M.take (k - p) ++ x :: (M.drop (k - p) ++ T) = (P ++ M.take (k - p)) ++ x :: ([] ++ y :: (M.drop (k + 1 - p) ++ T)) := by rw [hy.out]; simp
          have hk : k = (P ++ M.take (k - p)).length := by have := Hp.out; rw [List.length_append, htk]; omega
          have c1 := hown.mid (P ++ M.take (k - p)) ([] ++ y :: (M.drop (k + 1 - p) ++ T)) x k hx hk
          have c2 := hown.mid (P ++ M.take (k - p) ++ [x]) (M.drop (k + 1 - p) ++ T) y (k + 1) (by rw [hx]; simp) (by rw [List.length_append, ← hk]; simp)
          have f1 := hown.free k
          have f2 := hown.free (k + 1)
          have HX := Lib.hid hx
          have HK := Lib.hid hk
          have HT := Lib.hid htk
          clear hx hk htk
          have hn0 : (k : Int) + 1 < n := by omega
          have hn1 : (k : Int) < n := by omega
          have hd : decide ((k : Int) < i - 1) = true := by simp; omega
          go_wp2_with fail
          go_region
          go_wp2
          go_roundw
          case measure => simp [intOf]; omega
          case rel =>
            refine ⟨k + 1, by go_num, by omega, by omega, ?_, by repeat' (first | exact Below.refl _ _ | assumption | refine Below.more ?_ ?_ _ | refine Below.alloc ?_ ?_ _ | refine Below.drew ?_ | refine below_drewN ?_ _ | refine Below.setCell ?_ ?_ _ | exact Below.size (by assumption) | (simp [go_sem, size_more]; done) | (simp [go_sem, size_more]; omega))⟩
            have := hown.swap12 (P ++ M.take (k - p)) [] (M.drop (k + 1 - p) ++ T) x y k (k + 1) HX.out HK.out (by rw [← HK.out]; simp)
            have e : P ++ M.take (k - p) ++ y :: ([] ++ x :: (M.drop (k + 1 - p) ++ T)) = P ++ M.take (k + 1 - p) ++ x :: (M.drop (k + 1 - p) ++ T) := by
              have e2 : M.take (k + 1 - p) = M.take (k - p) ++ [y] := by
                rw [show k + 1 - p = (k - p) + 1 from by omega, List.take_add_one]
                have : M[k - p]? = some y := by
                  have h3 := hy.out
                  rw [List.drop_eq_getElem_cons (by have := Hl.out; omega)] at h3
                  simp only [List.cons.injEq] at h3
                  rw [List.getElem?_eq_getElem (by have := Hl.out; omega), h3.1]
                rw [this]; rfl
              rw [e2]; simp
            rw [e] at this
            exact this.ofHeap rfl
        · obtain rfl : i = k + 1 := by omega
          have hd : decide ((k : Int) < ((k + 1 : Nat) : Int) - 1) = false := by simp
          go_wp2_with fail
          (try simp only [Exit.inBlock, Exit.then])
          refine bodyPost_ret (results_none rfl _ _ _) rfl ⟨rfl, ⟨M.take (k - p) ++ x :: M.drop (k - p), by simpa using hown, ?_, ?_⟩, hb⟩
          · have e : (M.take (k - p) ++ x :: M.drop (k - p)).Perm (x :: (M.take (k - p) ++ M.drop (k - p))) := List.perm_middle
            rw [List.take_append_drop] at e
            exact e
          · have hpw := HM.out
            rw [← List.take_append_drop (k - p) M, List.pairwise_append] at hpw
            rw [List.pairwise_append]
            obtain ⟨m1, m2⟩ := hm.out
            refine ⟨hpw.1, List.pairwise_cons.2 ⟨?_, hpw.2.1⟩, ?_⟩
            · intro y hy
              obtain ⟨q, hq1, hq2, rfl⟩ := mem_drop_get hy
              exact m2 q (by omega) (by have := Hl.out; omega)
            · intro z hz y hy
              obtain ⟨q, hq1, hq2, rfl⟩ := mem_take_get hz
              rcases List.mem_cons.1 hy with rfl | hy
              · exact m1 q (by omega)
              · exact hpw.2.2 _ hz _ hy

set_option maxRecDepth 1000000 in
set_option maxHeartbeats 2000000 in
theorem sym_right (g : Nat) (lb : Array Value) (eg : ∀ args w, (callFunc g args).run Try.prog w = .ok (.enter g args) w) (c : Int → Int → Int) (ok : Int → Prop) (R : Int → Int → Prop) (ht : ∀ x y z, R x y → R y z → R x z)
    (P L T : List Int) (y : Int) (A B D : Int) (base : Nat) (v : Value) (w : World) (hc : CmpOK Try.prog g lb c ok base w) (hown : Own base 3 eInt 1 w v (P ++ L ++ y :: T)) (hbase : base ≤ w.heap.size) (hoky : ok y) (hok : ∀ x ∈ L, ok x)
    (hdec : ∀ x ∈ L, Dec c R x y) (hL : L.Pairwise R) (hL2 : 2 ≤ L.length) (hA : A = P.length) (hB : B = P.length + L.length) (hD : D = P.length + L.length + 1) (hlen : P.length + L.length + T.length < 2147483640) :
    Calls Try.prog 104 #[v, .int .i64 A, .int .i64 B, .int .i64 D, .func (.func g) #[] lb] w fun e w' => e = .returned (.tuple #[]) ∧ (∃ S, Own base 3 eInt 1 w' v (P ++ S ++ T) ∧ SortedOf R (L ++ [y]) S) ∧ Below base w w' := by
  generalize hp : P.length = p at *
  generalize hl : L.length = l at *
  have Hp := Lib.hid hp; have Hl := Lib.hid hl; have Hok := Lib.hid hok; have Hdec := Lib.hid hdec; have Ht := Lib.hid ht; have Hc := Lib.hid hc; have HM := Lib.hid hL
  clear hp hl hok hdec ht hc hL
  subst hA; subst hB; subst hD
  obtain ⟨a, cap, rfl⟩ := hown.isSlice
  obtain ⟨n, hn⟩ : ∃ n, n = (P ++ L ++ y :: T).length := ⟨_, rfl⟩
  rw [← hn] at hown ⊢
  obtain ⟨gg, rfl, hbg, hgl, hc1, hc2⟩ := hown.placeA (by simp; omega)
  have hnl : n = p + l + 1 + T.length := by have := Hp.out; have := Hl.out; rw [hn]; simp; omega
  clear hn
  have hpn : (p : Int) < n := by omega
  have hpn2 : (p : Int) + l + 1 ≤ n := by omega
  have hpn3 : (p : Int) + l < n := by omega
  have hnm : (n : Int) < 2147483648 := by omega
  clear hnl
  have hone0 : (((p : Int) + l - p) == 1) = false := by simp; omega
  have hone : (((p : Int) + l + 1 - (p + l)) == 1) = true := by simp; omega
  go_enter Try.func104, Try.ntmps104
  go_wp2_with fail
  go_loopw [14, 15] (fun s10 s11 wr => ∃ (i j : Nat), s10 = .int .i64 i ∧ s11 = .int .i64 j ∧ p ≤ i ∧ i ≤ j ∧ j ≤ p + l ∧ Own base 3 eInt 1 wr (.slice (some ⟨gg, 0, none⟩) n cap) (P ++ L ++ y :: T) ∧ Below base w wr ∧
      Hid ((∀ q, q < i - p → R (L.getD q 0) y) ∧ (∀ q, j - p ≤ q → q < l → R y (L.getD q 0)))) (fun i j _ => (intOf j).toNat - (intOf i).toNat)
  case atStart => exact ⟨p, p + l, by go_num, by go_num, by omega, by omega, by omega, hown, Below.refl _ _, fun q hq => by omega, fun q hq hq2 => by omega⟩
  case round =>
    obtain ⟨i, j, rfl, rfl, hi, hij, hj, hown, hb, hm⟩ := hrel
    have hsz := hb.size
    have hy0 : wr.cell? ⟨gg, p + l, none⟩ = some (.int .i64 y) := hown.mid (P ++ L) T y (p + l) (by simp) (by have := Hp.out; have := Hl.out; simp; omega)
    by_cases hlt : i < j
    · obtain ⟨h, hh⟩ : ∃ h : Nat, ((i : Int) + j) / 2 = h := ⟨(i + j) / 2, by omega⟩
      have h1 : i ≤ h := by omega
      have h2 : h < j := by omega
      obtain ⟨x, hx⟩ : ∃ x, Hid (L.getD (h - p) 0 = x) := ⟨L.getD (h - p) 0, rfl⟩
      have hxm : x ∈ L := by rw [← hx.out]; exact getD_mem L _ (by have := Hl.out; omega)
      have cx : wr.cell? ⟨gg, h, none⟩ = some (.int .i64 x) := by
        have := hown.int h (by have := Hp.out; have := Hl.out; simp; omega)
        rw [this, ← hx.out, getD_mid P L (y :: T) h (h - p) (by have := Hp.out; omega) (by have := Hl.out; omega)]
      have hn0 : (0 : Int) ≤ h := by omega
      have hn1 : (h : Int) < n := by omega
      have hij' : decide ((i : Int) < j) = true := by simp; omega
      have HY := Lib.hid (Hdec.out x hxm)
      have hokx := Hok.out x hxm
      by_cases hcy : c y x < 0
      · have hcb : decide (c y x < 0) = true := by simp; omega
        go_wp2_with fail
        go_quiet ((go_at_fn g; exact Calls.quiet_of (Hc.out _ (below_drewN hb _) y x hoky hokx)))
        go_wp2_with fail
        go_roundw
        case measure => simp [intOf]; omega
        case rel =>
          refine ⟨i, h, rfl, rfl, by omega, by omega, by omega, hown.ofHeap rfl, by repeat' (first | exact Below.refl _ _ | assumption | refine Below.more ?_ ?_ _ | refine Below.alloc ?_ ?_ _ | refine Below.drew ?_ | refine below_drewN ?_ _ | refine Below.setCell ?_ ?_ _ | exact Below.size (by assumption) | (simp [go_sem, size_more]; done) | (simp [go_sem, size_more]; omega)), hm.out.1, ?_⟩
          intro q hq hql
          have hyx := HY.out.1 hcy
          by_cases hqh : q = h - p
          · rw [hqh, hx.out]; exact hyx
          · refine Ht.out _ (L.getD (h - p) 0) _ ?_ (pw_get HM.out (h - p) q (by omega) (by have := Hl.out; omega))
            rw [hx.out]; exact hyx
      · have hcb : decide (c y x < 0) = false := by simp; omega
        have HC := Lib.hid hcy
        go_wp2_with fail
        go_quiet ((go_at_fn g; exact Calls.quiet_of (Hc.out _ (below_drewN hb _) y x hoky hokx)))
        go_wp2_with fail
        go_roundw
        case measure => simp [intOf]; omega
        case rel =>
          refine ⟨h + 1, j, by go_num, rfl, by omega, by omega, by omega, hown.ofHeap rfl, by repeat' (first | exact Below.refl _ _ | assumption | refine Below.more ?_ ?_ _ | refine Below.alloc ?_ ?_ _ | refine Below.drew ?_ | refine below_drewN ?_ _ | refine Below.setCell ?_ ?_ _ | exact Below.size (by assumption) | (simp [go_sem, size_more]; done) | (simp [go_sem, size_more]; omega)), ?_, hm.out.2⟩
          intro q hq
          have hyx := HY.out.2 (by have := HC.out; omega)
          by_cases hqh : q = h - p
          · rw [hqh, hx.out]; exact hyx
          · refine Ht.out _ _ _ (pw_get HM.out q (h - p) (by omega) (by have := Hl.out; omega)) ?_
            rw [hx.out]; exact hyx
    · obtain rfl : i = j := by omega
      have hij' : decide ((i : Int) < i) = false := by simp
      go_wp2_with fail
      obtain ⟨wo, rfl⟩ : ∃ wo : World, wo = wr := ⟨_, rfl⟩
      clear hy0
      go_loopw [17] (fun s13 wr => ∃ (k : Nat), s13 = .int .i64 k ∧ i ≤ k ∧ k ≤ p + l ∧ Own base 3 eInt 1 wr (.slice (some ⟨gg, 0, none⟩) n cap) (P ++ L.take (k - p) ++ y :: (L.drop (k - p) ++ T)) ∧ Below base w wr) (fun k _ => (intOf k).toNat)
      case atStart => exact ⟨p + l, by go_num, by omega, by omega, by rw [show p + l - p = L.length from by have := Hl.out; omega]; simpa using hown, hb⟩
      case round =>
        obtain ⟨k, rfl, hk1, hk2, hown, hb⟩ := hrel
        have hsz := hb.size
        by_cases hlt2 : i < k
        · obtain ⟨q, rfl⟩ : ∃ q, k = q + 1 := ⟨k - 1, by omega⟩
          obtain ⟨x, hx0⟩ : ∃ x, Hid (L.drop (q - p) = x :: L.drop (q + 1 - p)) := ⟨L[q - p]'(by have := Hl.out; omega), by
            show L.drop (q - p) = _
            rw [show q + 1 - p = (q - p) + 1 from by omega]
            exact List.drop_eq_getElem_cons (by have := Hl.out; omega)⟩
          have htk : (L.take (q - p)).length = q - p := by have := Hl.out; simp; omega
          have e2 : L.take (q + 1 - p) = L.take (q - p) ++ [x] := by
            rw [show q + 1 - p = (q - p) + 1 from by omega, List.take_add_one]
            have : L[q - p]? = some x := by
              have h3 := hx0.out
              rw [List.drop_eq_getElem_cons (by have := Hl.out; omega)] at h3
              simp only [List.cons.injEq] at h3
              rw [List.getElem?_eq_getElem (by have := Hl.out; omega), h3.1]
            rw [this]; rfl
          have hx : P ++ L.take (q + 1 - p) ++ y :: (L.drop (q + 1 - p) ++ T) = (P ++ L.take (q - p)) ++ x :: ([] ++ y :: (L.drop (q + 1 - p) ++ T)) := by rw [e2]; simp
          have hk : q = (P ++ L.take (q - p)).length := by have := Hp.out; rw [List.length_append, htk]; omega
          have c1 := hown.mid (P ++ L.take (q - p)) ([] ++ y :: (L.drop (q + 1 - p) ++ T)) x q hx hk
          have c2 := hown.mid (P ++ L.take (q - p) ++ [x]) (L.drop (q + 1 - p) ++ T) y (q + 1) (by rw [hx]; simp) (by rw [List.length_append, ← hk]; simp)
          have f1 := hown.free q
          have f2 := hown.free (q + 1)
          have HX := Lib.hid hx
          have HK := Lib.hid hk
          clear hx hk htk e2
          have hn0 : (q : Int) + 1 < n := by omega
          have hn1 : (q : Int) < n := by omega
          have hd : decide ((i : Int) < (q : Int) + 1) = true := by simp; omega
          go_wp2_with fail
          go_region
          go_wp2
          go_roundw
          case measure => simp [intOf]
          case rel =>
            refine ⟨q, by go_num, by omega, by omega, ?_, by repeat' (first | exact Below.refl _ _ | assumption | refine Below.more ?_ ?_ _ | refine Below.alloc ?_ ?_ _ | refine Below.drew ?_ | refine below_drewN ?_ _ | refine Below.setCell ?_ ?_ _ | exact Below.size (by assumption) | (simp [go_sem, size_more]; done) | (simp [go_sem, size_more]; omega))⟩
            have := hown.swap21 (P ++ L.take (q - p)) [] (L.drop (q + 1 - p) ++ T) x y q (q + 1) HX.out HK.out (by rw [← HK.out]; simp)
            have e : P ++ L.take (q - p) ++ y :: ([] ++ x :: (L.drop (q + 1 - p) ++ T)) = P ++ L.take (q - p) ++ y :: (L.drop (q - p) ++ T) := by
              rw [hx0.out]; simp
            rw [e] at this
            exact this.ofHeap rfl
        · obtain rfl : k = i := by omega
          have hd : decide ((k : Int) < (k : Int)) = false := by simp
          go_wp2_with fail
          (try simp only [Exit.inBlock, Exit.then])
          refine bodyPost_ret (results_none rfl _ _ _) rfl ⟨rfl, ⟨L.take (k - p) ++ y :: L.drop (k - p), by simpa using hown, ?_, ?_⟩, hb⟩
          · have e : (L.take (k - p) ++ y :: L.drop (k - p)).Perm (y :: (L.take (k - p) ++ L.drop (k - p))) := List.perm_middle
            rw [List.take_append_drop] at e
            exact e.trans (by simpa using (List.perm_append_comm (l₁ := [y]) (l₂ := L)))
          · have hpw := HM.out
            rw [← List.take_append_drop (k - p) L, List.pairwise_append] at hpw
            rw [List.pairwise_append]
            obtain ⟨m1, m2⟩ := hm.out
            refine ⟨hpw.1, List.pairwise_cons.2 ⟨?_, hpw.2.1⟩, ?_⟩
            · intro z hz
              obtain ⟨q, hq1, hq2, rfl⟩ := mem_drop_get hz
              exact m2 q (by omega) (by have := Hl.out; omega)
            · intro z hz x hx
              obtain ⟨q, hq1, hq2, rfl⟩ := mem_take_get hz
              rcases List.mem_cons.1 hx with rfl | hx
              · exact m1 q (by omega)
              · exact hpw.2.2 _ hz _ hx

end Go.Proofs.Ytbkihndidbmhoaa
