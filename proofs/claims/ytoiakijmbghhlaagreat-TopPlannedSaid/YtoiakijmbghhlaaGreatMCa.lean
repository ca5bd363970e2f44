/- certificate.long, shaped, given. Conditions: the plan and the rows read as data. | certificate.given. Conditions: the plan and the rows read as data. | certificate.holds$1 and certificate.steps. Conditions: shaped rows, a right plan. -/
import Derived.Test.YtoiakijmbghhlaaGreatYca
namespace Go.Proofs.YtoiakijmbghhlaaGreat
open Go.RowKit
set_option linter.unusedVariables false
set_option linter.unusedSimpArgs false

/-- Rows of numbers that read as data. -/
def IsRws (w : World) (v : Value) (rs : List (Sl Int)) : Prop := IsL (fun s : Sl Int => [vSl s]) 1 w v rs ∧ ∀ s ∈ rs, IsInts w (vSl s) s.xs
theorem IsRws.mono {w w' : World} {v : Value} {rs : List (Sl Int)} (h : IsRws w v rs) (hb : Below w.heap.size w w') : IsRws w' v rs := ⟨h.1.mono hb, fun s hs => (h.2 s hs).mono hb⟩
theorem IsC.slAt {w : World} {a : Option Addr} {rs : List (Sl Int)} (h : IsC (fun s : Sl Int => [vSl s]) 1 w a rs) (i : Nat) (hi : i < rs.length) : ∃ b off, a = some ⟨b, off, none⟩ ∧ w.cell? ⟨b, off + i, none⟩ = some (.slice rs[i].a rs[i].xs.length rs[i].cap) := by
  obtain ⟨b, off, e, hc⟩ := h i hi
  exact ⟨b, off, e, by simpa using hc 0 (by omega)⟩
def longB (row : List Int) : Bool := decide (8000 < row.length)
theorem clong_any (row : List Int) (v : Value) (w : World) (hv : IsInts w v row) : Calls Tryz.prog 140 #[v] w fun e w' => e = .returned (.bool (longB row)) ∧ Below w.heap.size w w' := by
  obtain ⟨a, cap, rfl, _, _, hs⟩ := hv
  obtain ⟨b, hb⟩ : ∃ b, longB row = b := ⟨_, rfl⟩
  rw [hb]
  unfold longB at hb
  have hb2 : decide ((8000 : Int) < row.length) = b := by rw [← hb]; congr 1; apply propext; omega
  go_enter Tryz.func140, Tryz.ntmps140
  go_wp2_with fail
  go_ret
  exact ⟨ret_bool (by simp [hb, hb2]), Below.refl _ _⟩
def entB (p : PlD) (row : List Int) (k : Nat) : Bool :=
  !decide (row.getD (2 * k) 0 < p.Rs) && (!decide (p.Cp < row.getD (2 * k) 0) && ((k == 0 || !decide (row.getD (2 * k) 0 ≤ row.getD (2 * (k - 1)) 0)) && (!decide (row.getD (2 * k + 1) 0 < -1) && !decide (1152921504606846976 < row.getD (2 * k + 1) 0))))
def rowB (p : PlD) (row : List Int) : Bool := decide (row.length % 2 = 0) && allFrom (entB p row) 0 (row.length / 2)
def shapedB (p : PlD) (rows : List (List Int)) : Bool := decide (rows.length = p.I.xs.length + 1) && rows.all (rowB p)

set_option maxRecDepth 100000 in
set_option maxHeartbeats 16000000 in
theorem cshaped_any (p : PlD) (rs : List (Sl Int)) (v : Value) (w : World) (hg : gPl w p) (hr : IsRws w v rs) (hI : p.I.xs.length ≤ 200) (hs : ∀ s ∈ rs, s.xs.length ≤ 8000) (hrl : rs.length < 2147483648) :
    Calls Tryz.prog 141 #[vPl p, v] w fun e w' => e = .returned (.bool (shapedB p (rs.map (·.xs)))) ∧ Below w.heap.size w w' := by
  have hb0 : Below w.heap.size w (w.alloc (.cells (ePl p).toArray 68)) := (Below.refl _ _).alloc (Nat.le_refl _) _
  obtain ⟨_, c1, c2, c3, _, _, _⟩ := boxPl w (w.alloc (.cells (ePl p).toArray 68)) 68 p _ rfl _ rfl (Below.refl _ _)
  obtain ⟨res, hres⟩ : ∃ res, res = shapedB p (rs.map (·.xs)) := ⟨_, rfl⟩
  rw [← hres]
  have HR := Lib.hid hres
  have hC := hr.1
  obtain ⟨va, vc, rfl, _, _, hC⟩ := hC
  have HC := Lib.hid hC
  have HRR := Lib.hid hr.2
  have HS := Lib.hid hs
  obtain ⟨n, hn⟩ : ∃ n, n = p.I.xs.length := ⟨_, rfl⟩
  rw [← hn] at c3 hI
  have HN := Lib.hid hn
  obtain ⟨m, hm⟩ : ∃ m, m = rs.length := ⟨_, rfl⟩
  rw [← hm] at hrl ⊢
  have HM := Lib.hid hm
  have x1 : IntKind.i64.wrap ((n : Int) + 1) = n + 1 := IntWalk.i64_in _ (by omega)
  clear hres hC hs hn hm hr hg
  obtain ⟨W, hW⟩ : ∃ W, W = w.alloc (.cells (ePl p).toArray 68) := ⟨_, rfl⟩
  by_cases hmn : m = n + 1
  rotate_left
  · have j1 : ((m : Int) != (n : Int) + 1) = true := by rw [bne_iff_ne]; omega
    have HF : Hid (res = false) := Lib.hid (by
      rw [HR.out, shapedB, decide_eq_false (by rw [List.length_map, ← HM.out, ← HN.out]; exact hmn)]; rfl)
    have j2 : decide ((m : Int) = (n : Int) + 1) = false := decide_eq_false (by omega)
    clear hmn hW
    go_enter Tryz.func141, Tryz.ntmps141
    go_wp2_with fail
    go_ret
    exact ⟨ret_bool HF.out.symm, hb0⟩
  have hmi : (m : Int) = (n : Int) + 1 := by omega
  have j1 : ((m : Int) != (n : Int) + 1) = false := by rw [hmi]; simp
  have j2 : decide ((m : Int) = (n : Int) + 1) = true := decide_eq_true hmi
  have HR2 : Hid (res = (rs.drop 0).all fun s => rowB p s.xs) := Lib.hid (by
    rw [HR.out, shapedB, decide_eq_true (by rw [List.length_map, ← HM.out, ← HN.out]; exact hmn)]; simp [List.all_map, Function.comp_def])
  clear hmn hmi
  go_enter Tryz.func141, Tryz.ntmps141
  go_wp2_with fail
  clear x1 j1 j2 c3
  rw [← hW]
  rw [← hW] at hb0 c1 c2
  clear hW
  go_loopw [19] (fun s19 wr => ∃ i : Nat, i ≤ m ∧ s19 = .int .i64 i ∧ Below W.heap.size W wr ∧ Hid (res = (rs.drop i).all fun s => rowB p s.xs)) (fun s19 _ => m - (RowKit.intOf s19).toNat)
  case atStart => exact ⟨0, Nat.zero_le _, rfl, Below.refl _ _, HR2⟩
  case round =>
    obtain ⟨i, hi, rfl, hb, hm⟩ := hrel
    have hbr := hb0.trans (hb.mono hb0.size)
    have hC := HC.out
    by_cases him : i < m
    · have hir : i < rs.length := by rw [← HM.out]; exact him
      obtain ⟨b, off, rfl, d0⟩ := (hC.mono hbr).slAt i hir
      obtain ⟨ra, rc, hre, _, _, hrc⟩ := (HRR.out _ (List.getElem_mem hir)).mono hbr
      have hrl8 := HS.out _ (List.getElem_mem hir)
      have hst : (rs.drop i).all (fun s => rowB p s.xs) = (rowB p rs[i].xs && (rs.drop (i + 1)).all fun s => rowB p s.xs) := by rw [List.drop_eq_getElem_cons hir]; rfl
      rw [hst] at hm
      obtain ⟨s, hs⟩ : ∃ s, s = rs[i] := ⟨_, rfl⟩
      rw [← hs] at d0 hre hrc hrl8 hm
      obtain ⟨row, hrow⟩ : ∃ row, row = s.xs := ⟨_, rfl⟩
      rw [← hrow] at d0 hre hrc hrl8 hm
      have hre' : Value.slice s.a row.length s.cap = Value.slice ra row.length rc := by rw [← hre]; unfold vSl; rw [hrow]
      simp only [Value.slice.injEq] at hre'
      obtain ⟨rfl, -, rfl⟩ := hre'
      obtain ⟨sa, hsa⟩ : ∃ sa, sa = s.a := ⟨_, rfl⟩
      obtain ⟨sc, hsc⟩ : ∃ sc, sc = s.cap := ⟨_, rfl⟩
      rw [← hsa, ← hsc] at d0
      rw [← hsa] at hrc
      have HROW := Lib.hid hrc
      have HRES := Lib.hid hm
      have i1 : decide (i < m) = true := decide_eq_true him
      have x8 : IntKind.i64.wrap ((i : Int) + 1) = i + 1 := IntWalk.i64_in _ (by omega)
      have i2 : (0 : Int) ≤ i := by omega
      have i3 : (i : Int) < m := by omega
      obtain ⟨n2, hn2⟩ : ∃ n2, n2 = row.length / 2 := ⟨_, rfl⟩
      obtain ⟨rl, hrle⟩ : ∃ rl, rl = row.length := ⟨_, rfl⟩
      rw [← hrle] at d0 hrl8
      have HRL := Lib.hid hrle
      clear hs hrow hre hsa hsc hst hrc hC hm
      by_cases hpar : rl % 2 = 0
      rotate_left
      · have t1 : (rl : Int).tmod 2 = 1 := by rw [Int.tmod_eq_emod_of_nonneg (by omega)]; omega
        have HF : Hid (res = false) := Lib.hid (by rw [HRES.out, rowB, decide_eq_false (by rw [← HRL.out]; exact hpar)]; rfl)
        clear hpar hn2 hrle
        go_wp2_with fail
        go_ret
        exact ⟨ret_bool HF.out.symm, hbr⟩
      have t1 : (rl : Int).tmod 2 = 0 := by rw [Int.tmod_eq_emod_of_nonneg (by omega)]; omega
      have hn2' : rl = 2 * n2 := by omega
      have HN2 := Lib.hid hn2'
      have HR3 : Hid (res = (allFrom (entB p row) 0 n2 && (rs.drop (i + 1)).all fun s => rowB p s.xs)) := Lib.hid (by rw [HRES.out, rowB, decide_eq_true (by rw [← HRL.out]; exact hpar), ← hn2]; rfl)
      clear hpar hn2 hn2' hrle
      go_wp2_with fail
      obtain ⟨wo, hwo⟩ : ∃ wo, wo = wr := ⟨_, rfl⟩
      subst hwo
      have c1r := cel_lt c1 hb
      have c2r := cel_lt c2 hb
      go_loopw [7] (fun s7 wx => ∃ k j : Nat, j = 2 * k ∧ k ≤ n2 ∧ s7 = .int .i64 j ∧ Below wo.heap.size wo wx ∧ Hid (res = (allFrom (entB p row) k n2 && (rs.drop (i + 1)).all fun s => rowB p s.xs))) (fun s7 _ => rl - (RowKit.intOf s7).toNat)
      case atStart => exact ⟨0, 0, rfl, Nat.zero_le _, rfl, Below.refl _ _, HR3⟩
      case round =>
        obtain ⟨k, j, hj, hk, rfl, hbx, hr⟩ := hrel
        obtain ⟨wx, hwx⟩ : ∃ wx, wx = wr := ⟨_, rfl⟩
        subst hwx
        have c1x := cel_lt c1r hbx
        have c2x := cel_lt c2r hbx
        have hbrx := hbr.trans (hbx.mono hbr.size)
        have hrx := HROW.out.mono hbx
        have HJ := Lib.hid hj
        by_cases hkn : k < n2
        · have hjl : j < rl := by have := HN2.out; omega
          have hjr : j < row.length := by rw [← HRL.out]; exact hjl
          have hjr1 : j + 1 < row.length := by have := HN2.out; rw [← HRL.out]; omega
          obtain ⟨b2, o2, rfl, d1⟩ := hrx.int j hjr
          obtain ⟨_, _, he, d2⟩ := hrx.int (j + 1) hjr1
          simp only [Option.some.injEq, Addr.mk.injEq] at he
          obtain ⟨rfl, rfl, -⟩ := he
          have g1 : row.getD (2 * k) 0 = row[j] := by rw [← HJ.out]; simp [List.getD, List.getElem?_eq_getElem hjr]
          have g2 : row.getD (2 * k + 1) 0 = row[j + 1] := by rw [← HJ.out]; simp [List.getD, List.getElem?_eq_getElem hjr1]
          obtain ⟨y0, hy0⟩ : ∃ y, y = row[j] := ⟨_, rfl⟩
          obtain ⟨y1, hy1⟩ : ∃ y, y = row[j + 1] := ⟨_, rfl⟩
          obtain ⟨j1, hj1⟩ : ∃ j1, j1 = j + 1 := ⟨_, rfl⟩
          rw [← hy0] at d1 g1
          rw [← hy1] at d2 g2
          rw [show o2 + (j + 1) = o2 + j1 from by rw [hj1]] at d2
          have i4 : (j : Int) < rl := by omega
          have i5 : (0 : Int) ≤ j := by omega
          have i6 : (j1 : Int) < rl := by have := HN2.out; omega
          have i7 : (0 : Int) ≤ j1 := by omega
          have i8 : decide (j < rl) = true := decide_eq_true hjl
          have x1 : IntKind.i64.wrap ((j : Int) + 1) = j1 := by rw [IntWalk.i64_in _ (by omega)]; omega
          have x2 : IntKind.i64.wrap ((j : Int) + 2) = ((j + 2 : Nat) : Int) := by rw [IntWalk.i64_in _ (by omega)]; omega
          obtain ⟨j3, hj3⟩ : ∃ j3, j3 = j + 2 := ⟨_, rfl⟩
          rw [← hj3] at x2
          have HJ3 := Lib.hid hj3
          obtain ⟨b1, e1⟩ : ∃ b, decide (y0 < p.Rs) = b := ⟨_, rfl⟩
          obtain ⟨b2', e2⟩ : ∃ b, decide (p.Cp < y0) = b := ⟨_, rfl⟩
          obtain ⟨b4, e4⟩ : ∃ b, decide (y1 < -1) = b := ⟨_, rfl⟩
          obtain ⟨b5, e5⟩ : ∃ b, decide (1152921504606846976 < y1) = b := ⟨_, rfl⟩
          have hstep := allFrom_step (entB p row) hkn
          have HKN := Lib.hid hkn
          by_cases hk0 : k = 0
          · have hE : entB p row k = (!b1 && (!b2' && (!b4 && !b5))) := by
              unfold entB; rw [g1, g2, e1, e2, e4, e5, hk0]; simp
            have i9 : decide ((0 : Int) < j) = false := decide_eq_false (by omega)
            have i9n : decide (0 < j) = false := decide_eq_false (by omega)
            have i9m : ¬ 0 < j := by omega
            rw [hstep, hE] at hr
            have HRR2 := Lib.hid hr
            clear hstep hE hr hj hk0 hy0 hy1 hj1 hj3 g1 g2 hkn hjl hjr hjr1
            cases b1
            rotate_left
            · have HF : Hid (res = false) := Lib.hid (by rw [HRR2.out]; rfl)
              go_wp2_with go_quiet(fail)
              all_goals go_ret
              all_goals exact ⟨ret_bool HF.out.symm, below_drewN hbrx _⟩
            cases b2'
            rotate_left
            · have HF : Hid (res = false) := Lib.hid (by rw [HRR2.out]; rfl)
              go_wp2_with go_quiet(fail)
              all_goals go_ret
              all_goals exact ⟨ret_bool HF.out.symm, below_drewN hbrx _⟩
            cases b4
            rotate_left
            · have HF : Hid (res = false) := Lib.hid (by rw [HRR2.out]; rfl)
              go_wp2_with go_quiet(fail)
              all_goals go_ret
              all_goals exact ⟨ret_bool HF.out.symm, below_drewN hbrx _⟩
            cases b5
            rotate_left
            · have HF : Hid (res = false) := Lib.hid (by rw [HRR2.out]; rfl)
              go_wp2_with go_quiet(fail)
              all_goals go_ret
              all_goals exact ⟨ret_bool HF.out.symm, below_drewN hbrx _⟩
            go_wp2_with go_quiet(fail)
            go_roundw
            case measure => have := HJ3.out; simp [RowKit.intOf, this]; omega
            case rel => exact ⟨k + 1, j3, by have := HJ3.out; have := HJ.out; omega, HKN.out, rfl, below_drewN hbx _, Lib.hid (by rw [HRR2.out]; rfl)⟩
          · have hk1 : 2 * (k - 1) < row.length := by omega
            obtain ⟨jp, hjp⟩ : ∃ jp, jp = 2 * (k - 1) := ⟨_, rfl⟩
            have hjpr : jp < row.length := by omega
            obtain ⟨_, _, he, d3⟩ := hrx.int jp hjpr
            simp only [Option.some.injEq, Addr.mk.injEq] at he
            obtain ⟨rfl, rfl, -⟩ := he
            have g3 : row.getD (2 * (k - 1)) 0 = row[jp] := by rw [← hjp]; simp [List.getD, List.getElem?_eq_getElem hjpr]
            obtain ⟨yp, hyp⟩ : ∃ y, y = row[jp] := ⟨_, rfl⟩
            rw [← hyp] at d3 g3
            have x3 : IntKind.i64.wrap ((j : Int) - 2) = jp := by rw [IntWalk.i64_in _ (by omega)]; omega
            have i10 : (jp : Int) < rl := by omega
            have i11 : (0 : Int) ≤ jp := by omega
            obtain ⟨b3, e3⟩ : ∃ b, decide (y0 ≤ yp) = b := ⟨_, rfl⟩
            have hE : entB p row k = (!b1 && (!b2' && (!b3 && (!b4 && !b5)))) := by
              unfold entB; rw [g1, g2, g3, e1, e2, e3, e4, e5, (by simpa using hk0 : (k == 0) = false)]; simp
            have i9 : decide ((0 : Int) < j) = true := decide_eq_true (by omega)
            have i9n : decide (0 < j) = true := decide_eq_true (by omega)
            have i9m : 0 < j := by omega
            rw [hstep, hE] at hr
            have HRR2 := Lib.hid hr
            clear hstep hE hr hj hk0 hy0 hy1 hyp hj1 hj3 hjp g1 g2 g3 hk1 hjpr hkn hjl hjr hjr1
            cases b1
            rotate_left
            · have HF : Hid (res = false) := Lib.hid (by rw [HRR2.out]; rfl)
              go_wp2_with go_quiet(fail)
              all_goals go_ret
              all_goals exact ⟨ret_bool HF.out.symm, below_drewN hbrx _⟩
            cases b2'
            rotate_left
            · have HF : Hid (res = false) := Lib.hid (by rw [HRR2.out]; rfl)
              go_wp2_with go_quiet(fail)
              all_goals go_ret
              all_goals exact ⟨ret_bool HF.out.symm, below_drewN hbrx _⟩
            cases b3
            rotate_left
            · have HF : Hid (res = false) := Lib.hid (by rw [HRR2.out]; rfl)
              go_wp2_with go_quiet(fail)
              all_goals go_ret
              all_goals exact ⟨ret_bool HF.out.symm, below_drewN hbrx _⟩
            cases b4
            rotate_left
            · have HF : Hid (res = false) := Lib.hid (by rw [HRR2.out]; rfl)
              go_wp2_with go_quiet(fail)
              all_goals go_ret
              all_goals exact ⟨ret_bool HF.out.symm, below_drewN hbrx _⟩
            cases b5
            rotate_left
            · have HF : Hid (res = false) := Lib.hid (by rw [HRR2.out]; rfl)
              go_wp2_with go_quiet(fail)
              all_goals go_ret
              all_goals exact ⟨ret_bool HF.out.symm, below_drewN hbrx _⟩
            go_wp2_with go_quiet(fail)
            go_roundw
            case measure => have := HJ3.out; simp [RowKit.intOf, this]; omega
            case rel => exact ⟨k + 1, j3, by have := HJ3.out; have := HJ.out; omega, HKN.out, rfl, below_drewN hbx _, Lib.hid (by rw [HRR2.out]; rfl)⟩
        · have i8 : decide (j < rl) = false := decide_eq_false (by have := HN2.out; have := HJ.out; omega)
          have i9 : decide ((j : Int) < rl) = false := decide_eq_false (by have := HN2.out; have := HJ.out; omega)
          have HR4 : Hid (res = (rs.drop (i + 1)).all fun s => rowB p s.xs) := Lib.hid (by rw [hr, allFrom_end _ (by omega)]; rfl)
          have hbox := hb.trans (hbx.mono hb.size)
          clear hkn hj hr c1x c2x c1r c2r hrx
          go_wp2_with fail
          go_roundw
          case measure => simp [RowKit.intOf, x8]; omega
          case rel => exact ⟨i + 1, by omega, by go_num, hbox, HR4⟩
    · have i1 : decide (i < m) = false := decide_eq_false him
      have HF : Hid (res = true) := Lib.hid (by rw [hm, List.drop_eq_nil_of_le (by have := HM.out; omega)]; rfl)
      clear hm hC
      go_wp2_with fail
      go_ret
      exact ⟨ret_bool HF.out.symm, hbr⟩

end Go.Proofs.YtoiakijmbghhlaaGreat

namespace Go.Proofs.YtoiakijmbghhlaaGreat
open Go.RowKit
set_option linter.unusedVariables false
set_option linter.unusedSimpArgs false

abbrev SlI := Sl Int
abbrev eSlI (s : SlI) : List Value := [vSl s]
abbrev vSlI (s : SlI) : Value := vSl s
abbrev IsSlI (w : World) (v : Value) (rs : List SlI) : Prop := IsL eSlI 1 w v rs

set_option maxHeartbeats 1000000 in
theorem indexRowsL (g : Nat) (lb : Array Value) (eg : ∀ args w, (callFunc g args).run Tryz.prog w = .ok (.enter g args) w) (p : SlI → Bool) (xs : List SlI) (v : Value) (w : World)
    (hv : IsSlI w v xs) (hp : PredOn Tryz.prog g lb vSlI p xs w) :
    Calls Tryz.prog 68 #[v, .func (.func g) #[] lb] w fun e w' => e = .returned (.int .i64 (idxFrom p xs 0)) ∧ Below w.heap.size w w' := by
  obtain ⟨a, cap, rfl, hcap, hbig, hs⟩ := hv
  go_enter Tryz.func68, Tryz.ntmps68
  go_wp2
  go_loopw [5, 8] (fun _ s8 wr => ∃ k : Nat, k ≤ xs.length ∧ s8 = .int .i64 k ∧ Below w.heap.size w wr ∧ Hid (idxFrom p xs 0 = idxFrom p (xs.drop k) k)) (fun _ i _ => xs.length - (RowKit.intOf i).toNat)
  case atStart => exact ⟨0, Nat.zero_le _, rfl, Below.refl _ _, rfl⟩
  case round =>
    obtain ⟨k, hk, rfl, hb, hm⟩ := hrel
    by_cases hlt : k < xs.length
    · obtain ⟨b, off, rfl, c0⟩ := (hs.mono hb).slAt k hlt
      have hx := hp wr hb xs[k] (List.getElem_mem hlt)
      have hstep : Hid (idxFrom p (xs.drop k) k = if p xs[k] then (k : Int) else idxFrom p (xs.drop (k + 1)) (k + 1)) := by
        rw [List.drop_eq_getElem_cons hlt]; rfl
      clear hs hp
      generalize xs[k] = y at *
      cases hpy : p y
      all_goals
        rw [hpy] at hx hstep
        clear hpy
        go_wp2_with fail
        refine (Calls.to hx ?_)
        rintro e w1 rfl hb1
        have hbb := hb.trans (hb1.mono hb.size)
        go_wp2_with fail
      · go_roundw
        case rel => exact ⟨k + 1, by omega, by go_num, by repeat' (first | exact Below.refl _ _ | assumption | refine Below.more ?_ ?_ _ | refine Below.alloc ?_ ?_ _ | refine Below.drew ?_ | refine below_drewN ?_ _ | refine Below.setCell ?_ ?_ _ | exact Below.size (by assumption) | (simp [go_sem, size_more]; done) | (simp [go_sem, size_more]; omega)), hm.out.trans (hstep.out.trans (by simp))⟩
        case measure => simp [RowKit.intOf]; omega
      · go_ret
        exact ⟨ret_int (hm.out.trans (hstep.out.trans (by simp))).symm, by repeat' (first | exact Below.refl _ _ | assumption | refine Below.more ?_ ?_ _ | refine Below.alloc ?_ ?_ _ | refine Below.drew ?_ | refine below_drewN ?_ _ | refine Below.setCell ?_ ?_ _ | exact Below.size (by assumption) | (simp [go_sem, size_more]; done) | (simp [go_sem, size_more]; omega))⟩
    · go_wp2
      go_ret
      refine ⟨ret_int ?_, by repeat' (first | exact Below.refl _ _ | assumption | refine Below.more ?_ ?_ _ | refine Below.alloc ?_ ?_ _ | refine Below.drew ?_ | refine below_drewN ?_ _ | refine Below.setCell ?_ ?_ _ | exact Below.size (by assumption) | (simp [go_sem, size_more]; done) | (simp [go_sem, size_more]; omega))⟩
      rw [hm.out, List.drop_eq_nil_of_le (by omega)]; rfl

set_option maxHeartbeats 400000 in
theorem containsRowsL (g : Nat) (lb : Array Value) (eg : ∀ args w, (callFunc g args).run Tryz.prog w = .ok (.enter g args) w) (p : SlI → Bool) (xs : List SlI) (v : Value) (w : World)
    (hv : IsSlI w v xs) (hp : PredOn Tryz.prog g lb vSlI p xs w) :
    Calls Tryz.prog 17 #[v, .func (.func g) #[] lb] w fun e w' => e = .returned (.bool (xs.any p)) ∧ Below w.heap.size w w' := by
  go_enter Tryz.func17, Tryz.ntmps17
  go_wp2_with fail
  refine Calls.to (indexRowsL g lb eg p xs v w hv hp) ?_
  rintro e w1 rfl hb
  go_wp2_with fail
  go_ret
  exact ⟨ret_bool (idxFrom_any p xs 0), hb⟩


theorem ent140 : ∀ args w, (callFunc 140 args).run Tryz.prog w = .ok (.enter 140 args) w := by
  intro args w
  simp [go_sem]

def givenE (p : PlD) (rows : List (List Int)) : Int :=
  if planB p = false then 1 else if rows.any longB = true then 4 else if shapedB p rows = false then 25 else 0

set_option maxRecDepth 100000 in
set_option maxHeartbeats 4000000 in
theorem cgiven_any (p : PlD) (rs : List (Sl Int)) (v : Value) (w : World) (hg : gPl w p) (hr : IsRws w v rs) (hrl : rs.length < 2147483648) :
    Calls Tryz.prog 75 #[vPl p, v] w fun e w' => e = .returned (.int .i64 (givenE p (rs.map (·.xs)))) ∧ Below w.heap.size w w' := by
  have hb0 : Below w.heap.size w (w.alloc (.cells (ePl p).toArray 68)) := (Below.refl _ _).alloc (Nat.le_refl _) _
  obtain ⟨c0, c1, c2, c3, c4, c5, c6⟩ := boxPl w (w.alloc (.cells (ePl p).toArray 68)) 68 p _ rfl _ rfl (Below.refl _ _)
  have HP := Lib.hid (rdPl.mono hg hb0)
  have HG := Lib.hid hg
  have hv := pvalid_any p _ HP.out
  obtain ⟨res, hres⟩ : ∃ res, res = givenE p (rs.map (·.xs)) := ⟨_, rfl⟩
  rw [← hres]
  have HR := Lib.hid hres
  have HRW := Lib.hid hr
  obtain ⟨va, vc, rfl, _, _, _⟩ := hr.1
  clear hres hr hg c0 c1 c2 c3 c4 c5 c6
  go_enter Tryz.func75, Tryz.ntmps75
  go_wp2_with fail
  refine Calls.to hv ?_
  rintro e w1 rfl hb1
  have hbw := hb0.trans (hb1.mono hb0.size)
  obtain ⟨c0, c1, c2, c3, c4, c5, c6⟩ := boxPl w w1 68 p _ rfl _ rfl (hb1.mono (by simp))
  clear hb1 hb0 hv
  cases hP : planB p
  · have HF : Hid (res = 1) := Lib.hid (by rw [HR.out, givenE, if_pos hP])
    clear hP c0 c1 c2 c3 c4 c5 c6
    go_wp2_with fail
    go_ret
    exact ⟨ret_int HF.out.symm, hbw⟩
  have HPB := Lib.hid hP
  clear hP
  have hc := containsRowsL 140 #[] ent140 (fun s => longB s.xs) rs _ w1 (HRW.out.mono hbw).1 (fun W hW x hx => clong_any x.xs (vSl x) W (((HRW.out.mono hbw).mono hW).2 x hx))
  go_wp2_with fail
  refine Calls.to hc ?_
  rintro e w2 rfl hb2
  have hbw2 := hbw.trans (hb2.mono hbw.size)
  have d0 := cel_lt c0 hb2
  have d1 := cel_lt c1 hb2
  have d2 := cel_lt c2 hb2
  have d3 := cel_lt c3 hb2
  have d4 := cel_lt c4 hb2
  have d5 := cel_lt c5 hb2
  have d6 := cel_lt c6 hb2
  clear c0 c1 c2 c3 c4 c5 c6 hc
  cases hL : rs.any fun s => longB s.xs
  rotate_left
  · have HF : Hid (res = 4) := Lib.hid (by rw [HR.out, givenE, if_neg (by rw [HPB.out]; simp), if_pos (by rw [List.any_map]; exact hL)])
    clear hL d0 d1 d2 d3 d4 d5 d6
    go_wp2_with fail
    go_ret
    exact ⟨ret_int HF.out.symm, hbw2⟩
  have hI : p.I.xs.length ≤ 200 := (planB_ok HPB.out).il
  have hs : ∀ s ∈ rs, s.xs.length ≤ 8000 := fun s hs => by
    have := List.any_eq_false.mp hL s hs
    unfold longB at this
    simpa using this
  have HL : Hid (rs.any (fun s => longB s.xs) = false) := Lib.hid hL
  have hsh := cshaped_any p rs _ w2 (rdPl.mono HG.out hbw2) (HRW.out.mono hbw2) hI hs hrl
  clear hL hs hI
  go_wp2_with fail
  refine Calls.to hsh ?_
  rintro e w3 rfl hb3
  have hbw3 := hbw2.trans (hb3.mono hbw2.size)
  cases hS : shapedB p (rs.map (·.xs))
  · have HF : Hid (res = 25) := Lib.hid (by rw [HR.out, givenE, if_neg (by rw [HPB.out]; simp), if_neg (by rw [List.any_map]; show ¬ (rs.any (fun s => longB s.xs)) = true; rw [HL.out]; simp), if_pos hS])
    clear hS d0 d1 d2 d3 d4 d5 d6
    go_wp2_with fail
    go_ret
    exact ⟨ret_int HF.out.symm, hbw3⟩
  · have HF : Hid (res = 0) := Lib.hid (by rw [HR.out, givenE, if_neg (by rw [HPB.out]; simp), if_neg (by rw [List.any_map]; show ¬ (rs.any (fun s => longB s.xs)) = true; rw [HL.out]; simp), if_neg (by rw [hS]; simp)])
    clear hS d0 d1 d2 d3 d4 d5 d6
    go_wp2_with fail
    go_ret
    exact ⟨ret_int HF.out.symm, hbw3⟩

end Go.Proofs.YtoiakijmbghhlaaGreat

namespace Go.Proofs.YtoiakijmbghhlaaGreat
open Go.RowKit
set_option linter.unusedVariables false
set_option linter.unusedSimpArgs false

structure RowGood (p : PlD) (row : List Int) : Prop where
  ev : row.length = 2 * (prs row).length
  asc : ascP (prs row)
  bd : ∀ k (hk : k < (prs row).length), (p.Rs ≤ (prs row)[k].1 ∧ (prs row)[k].1 ≤ p.Cp) ∧ -1 ≤ (prs row)[k].2 ∧ (prs row)[k].2 ≤ 1152921504606846976
theorem rowB_iff {p : PlD} {row : List Int} : rowB p row = true ↔ RowGood p row := by
  have hent : ∀ k (hk : k < (prs row).length), entB p row k = true ↔ ((p.Rs ≤ (prs row)[k].1 ∧ (prs row)[k].1 ≤ p.Cp) ∧ -1 ≤ (prs row)[k].2 ∧ (prs row)[k].2 ≤ 1152921504606846976) ∧ ∀ h0 : 0 < k, ((prs row)[k - 1]'(by omega)).1 < (prs row)[k].1 := by
    intro k hk
    obtain ⟨e1, _⟩ := prs_at row k hk
    rw [e1]
    by_cases h0 : k = 0
    · subst h0
      simp [entB]
      omega
    · obtain ⟨e2, _⟩ := prs_at row (k - 1) (by omega)
      simp only [e2]
      have hk0 : (k == 0) = false := by simpa using h0
      simp only [entB, hk0, Bool.false_or, Bool.and_eq_true, Bool.not_eq_true', decide_eq_false_iff_not]
      constructor
      · rintro ⟨a1, a2, a3, a4, a5⟩
        exact ⟨by omega, fun _ => by omega⟩
      · rintro ⟨a1, a2⟩
        have := a2 (by omega)
        omega
  constructor
  · intro h
    simp only [rowB, Bool.and_eq_true, decide_eq_true_eq, allFrom_iff] at h
    obtain ⟨h1, h2⟩ := h
    rw [← prs_len row] at h2
    refine ⟨by rw [prs_len]; omega, ?_, fun k hk => ((hent k hk).1 (h2 k hk)).1⟩
    intro i j hi hj hij
    obtain ⟨d, hd⟩ : ∃ d, j = i + 1 + d := ⟨j - i - 1, by omega⟩
    subst hd
    induction d with
    | zero => exact ((hent (i + 1) hj).1 (h2 _ hj)).2 (by omega)
    | succ d ih =>
      have a := ih (by omega) (by omega)
      have b := ((hent (i + 1 + d + 1) hj).1 (h2 _ hj)).2 (by omega)
      simp only [Nat.add_sub_cancel] at b
      have e : i + 1 + (d + 1) = i + 1 + d + 1 := by omega
      simp only [e]
      omega
  · intro h
    simp only [rowB, Bool.and_eq_true, decide_eq_true_eq, allFrom_iff]
    refine ⟨by have := h.ev; omega, ?_⟩
    rw [← prs_len row]
    intro k hk
    exact (hent k hk).2 ⟨h.bd k hk, fun h0 => h.asc (k - 1) k (by omega) hk (by omega)⟩

def findB (nxt : List Int) (w c x : Int) : Bool :=
  match Pn.fnd (prs nxt) w with
  | none => false
  | some y => y == -1 || (!(x == -1) && decide (x ≤ c + y))
def stepB (p : PlD) (nxt : List Int) (v i x : Int) (k : Nat) : Bool :=
  match Pn.stepP (plOf p) v i k with
  | none => true
  | some z => findB nxt z.1 z.2 x
theorem fnd_bd {p : PlD} {row : List Int} (h : RowGood p row) {t y : Int} (hy : Pn.fnd (prs row) t = some y) : -1 ≤ y ∧ y ≤ 1152921504606846976 := by
  obtain ⟨k, hk, e⟩ := List.mem_iff_getElem.1 (Pn.fnd_mem hy)
  have := (h.bd k hk).2
  rw [e] at this
  exact this

set_option maxRecDepth 100000 in
set_option maxHeartbeats 8000000 in
theorem choldst_any (p : PlD) (rs : List (Sl Int)) (va : Option Addr) (vc : Nat) (g1 g2 g3 i : Nat) (x t c : Int) (w : World) (hr : IsRws w (.slice va rs.length vc) rs) (hi : i + 1 < rs.length) (hrl : rs.length < 2147483648)
    (hb : RowGood p rs[i + 1].xs) (h8 : rs[i + 1].xs.length ≤ 8000) (hc : 0 ≤ c ∧ c ≤ Pn.K)
    (c1 : w.cell? ⟨g1, 0, none⟩ = some (.slice va rs.length vc)) (c2 : w.cell? ⟨g2, 0, none⟩ = some (.int .i64 i)) (c3 : w.cell? ⟨g3, 0, none⟩ = some (.int .i64 x)) :
    Calls Tryz.prog 143 #[.int .i64 t, .int .i64 c, .pointer (some ⟨g1, 0, none⟩), .pointer (some ⟨g2, 0, none⟩), .pointer (some ⟨g3, 0, none⟩)] w fun e w' => e = .returned (.bool (findB rs[i + 1].xs t c x)) ∧ Below w.heap.size w w' := by
  obtain ⟨a', c', he, _, _, hC⟩ := hr.1
  simp only [Value.slice.injEq] at he
  obtain ⟨rfl, -, rfl⟩ := he
  obtain ⟨b, off, rfl, d0⟩ := hC.slAt (i + 1) hi
  have hf := cfind_any rs[i + 1].xs (.slice rs[i + 1].a rs[i + 1].xs.length rs[i + 1].cap) t w (hr.2 _ (List.getElem_mem hi)) hb.ev hb.asc h8
  obtain ⟨i1, hi1⟩ : ∃ i1, i1 = i + 1 := ⟨_, rfl⟩
  have x1 : IntKind.i64.wrap ((i : Int) + 1) = i1 := by rw [IntWalk.i64_in _ (by omega)]; omega
  have j1 : (0 : Int) ≤ i1 := by omega
  have j2 : (i1 : Int) < rs.length := by omega
  rw [show off + (i + 1) = off + i1 from by rw [hi1]] at d0
  obtain ⟨res, hres⟩ : ∃ res, res = findB rs[i + 1].xs t c x := ⟨_, rfl⟩
  rw [← hres]
  unfold findB at hres
  have hbd := fun y => fnd_bd (t := t) (y := y) hb
  obtain ⟨fd, hfd⟩ : ∃ fd, fd = Pn.fnd (prs rs[i + 1].xs) t := ⟨_, rfl⟩
  rw [← hfd] at hf hres hbd
  obtain ⟨s, hs⟩ : ∃ s, s = rs[i + 1] := ⟨_, rfl⟩
  rw [← hs] at d0 hf
  obtain ⟨m, hm⟩ : ∃ m, m = rs.length := ⟨_, rfl⟩
  rw [← hm] at j2 c1
  clear hs hm hfd hi1 hC hr hb h8 hi hrl
  unfold Pn.K at hc
  cases fd with
  | none =>
    have HR := Lib.hid hres
    clear hres hbd
    go_enter Tryz.func143, Tryz.ntmps143
    go_wp2_with fail
    refine Calls.to hf ?_
    rintro e w1 rfl hb1
    have c1 := cel_lt c1 hb1
    have c2 := cel_lt c2 hb1
    have c3 := cel_lt c3 hb1
    simp only [fndV]
    go_wp2_with fail
    go_ret
    exact ⟨ret_bool HR.out.symm, hb1⟩
  | some y =>
    have hyb := hbd y rfl
    simp only at hres
    obtain ⟨q1, e1⟩ : ∃ q, (y == -1) = q := ⟨_, rfl⟩
    obtain ⟨q2, e2⟩ : ∃ q, (x == -1) = q := ⟨_, rfl⟩
    obtain ⟨q3, e3⟩ : ∃ q, decide (x ≤ c + y) = q := ⟨_, rfl⟩
    rw [e1, e2, e3] at hres
    have x2 : IntKind.i64.wrap (c + y) = c + y := IntWalk.i64_in _ (by omega)
    have e2n : (x != -1) = !q2 := by rw [← e2]; rfl
    have HR := Lib.hid hres
    clear hres hbd
    go_enter Tryz.func143, Tryz.ntmps143
    go_wp2_with fail
    refine Calls.to hf ?_
    rintro e w1 rfl hb1
    have c1 := cel_lt c1 hb1
    have c2 := cel_lt c2 hb1
    have c3 := cel_lt c3 hb1
    simp only [fndV]
    cases q1
    · cases q2
      · simp only [Bool.not_false] at e2n
        go_wp2_with fail
        go_ret
        exact ⟨ret_bool HR.out.symm, hb1⟩
      · simp only [Bool.not_true] at e2n
        go_wp2_with fail
        go_ret
        exact ⟨ret_bool HR.out.symm, hb1⟩
    · go_wp2_with fail
      go_ret
      exact ⟨ret_bool HR.out.symm, hb1⟩

end Go.Proofs.YtoiakijmbghhlaaGreat
