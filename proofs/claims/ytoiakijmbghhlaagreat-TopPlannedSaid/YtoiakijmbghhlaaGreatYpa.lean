/- Plans as data; planner.within and Valid. Conditions: the plan reads as data. -/
import Derived.Test.YtoiakijmbghhlaaGreatLst
import Derived.Test.YtoiakijmbghhlaaGreatNc
namespace Go.Proofs.YtoiakijmbghhlaaGreat
open Go.RowKit
set_option linter.unusedVariables false
set_option linter.unusedSimpArgs false

theorem cel_lt {w w' : World} {b off : Nat} {v : Value} (h : w.cell? ⟨b, off, none⟩ = some v) (hb : Below w.heap.size w w') : w'.cell? ⟨b, off, none⟩ = some v := by
  rw [hb.cell (World.block_lt_of_cell? _ _ h)]; exact h

structure PlD where
  St : Int
  Cp : Int
  Rs : Int
  I : Sl Int
  L : Sl Int
  T : Sl Kn
  W : Int
abbrev ePl (p : PlD) : List Value := [.int .i64 p.St, .int .i64 p.Cp, .int .i64 p.Rs, vSl p.I, vSl p.L, vSl p.T, .int .i64 p.W]
abbrev vPl (p : PlD) : Value := .agg #[.int .i64 p.St, .int .i64 p.Cp, .int .i64 p.Rs, vSl p.I, vSl p.L, vSl p.T, .int .i64 p.W]
theorem ePl_len (p : PlD) : (ePl p).length = 7 := rfl
structure gPl (W : World) (p : PlD) : Prop where
  st : gI64 W p.St
  cp : gI64 W p.Cp
  rs : gI64 W p.Rs
  i : gInts W p.I
  l : gInts W p.L
  t : gTab W p.T
  w : gI64 W p.W
theorem rdPl : Rdr Tryz.prog 68 ePl 7 gPl := by
  refine ⟨by kernel_rfl, fun _ => rfl, ?_, ?_⟩
  · intro H e W fuel cs x h
    obtain ⟨hl, hf⟩ := rd_fields (by kernel_rfl) h
    rw [show Tryz.prog.cellsOf 68 = 7 from by kernel_rfl] at hl
    obtain ⟨a0, e0, g0⟩ := hf 0 3 0 (by kernel_rfl) rdI
    obtain ⟨a1, e1, g1⟩ := hf 1 3 1 (by kernel_rfl) rdI
    obtain ⟨a2, e2, g2⟩ := hf 2 3 2 (by kernel_rfl) rdI
    obtain ⟨a3, e3, g3⟩ := hf 3 28 3 (by kernel_rfl) rdInts
    obtain ⟨a4, e4, g4⟩ := hf 4 28 4 (by kernel_rfl) rdInts
    obtain ⟨a5, e5, g5⟩ := hf 5 46 5 (by kernel_rfl) rdTab
    obtain ⟨a6, e6, g6⟩ := hf 6 3 6 (by kernel_rfl) rdI
    have hj := cutAt_join cs [1, 1, 1, 1, 1, 1, 1] 0 (by rw [hl]; rfl)
    simp only [cutAt, Nat.zero_add, Nat.reduceAdd] at hj
    rw [e0, e1, e2, e3, e4, e5, e6] at hj
    exact ⟨⟨a0, a1, a2, a3, a4, a5, a6⟩, by simpa using hj.symm, ⟨g0, g1, g2, g3, g4, g5, g6⟩⟩
  · intro W W' a h hb
    exact ⟨h.st, h.cp, h.rs, rdInts.mono h.i hb, rdInts.mono h.l hb, rdTab.mono h.t hb, h.w⟩
set_option maxRecDepth 100000 in
theorem openPl {H : Type} {en : TypeId × Value → H} {W : World} {v : Value} {d : DataW H} {ps : List MemPlace} {r : Reach} {b0 : Nat} (hv : Value.okWide Tryz.prog W r b0 68 v) (h : DataW.Trod en Tryz.prog W 0 (fun _ => true) true 68 v d ps) :
    ∃ p : PlD, v = vPl p ∧ gPl W p := arg_struct (fs := flds Tryz.prog 68) rdPl (by kernel_rfl) hv h

theorem pwithin_any (n lo hi : Int) (w : World) : Calls Tryz.prog 205 #[.int .i64 n, .int .i64 lo, .int .i64 hi] w fun e w' => e = .returned (.bool (btwB n lo hi)) ∧ w' = w := by
  by_cases h1 : lo ≤ n <;> by_cases h2 : n ≤ hi
  all_goals
    go_enter Tryz.func205, Tryz.ntmps205
    go_wp2_with fail
    go_ret
    exact ⟨ret_bool (by simp [btwB, h1, h2]), rfl⟩
theorem pwithin_lit {n lo hi : Int} {b : Bool} (h : btwB n lo hi = b) (w : World) : Calls Tryz.prog 205 #[.int .i64 n, .int .i64 lo, .int .i64 hi] w fun e w' => e = .returned (.bool b) ∧ w' = w := by
  rw [← h]; exact pwithin_any n lo hi w

theorem boxPl (w W : World) (T : TypeId) (p : PlD) (cs : Array Value) (hcs : cs = (ePl p).toArray) (B : Nat) (hB : B = w.heap.size + 1) (hb : Below B (w.alloc (.cells cs T)) W) :
    W.cell? ⟨w.heap.size, 0, none⟩ = some (.int .i64 p.St) ∧ W.cell? ⟨w.heap.size, 1, none⟩ = some (.int .i64 p.Cp) ∧ W.cell? ⟨w.heap.size, 2, none⟩ = some (.int .i64 p.Rs) ∧
    W.cell? ⟨w.heap.size, 3, none⟩ = some (.slice p.I.a p.I.xs.length p.I.cap) ∧ W.cell? ⟨w.heap.size, 4, none⟩ = some (.slice p.L.a p.L.xs.length p.L.cap) ∧ W.cell? ⟨w.heap.size, 5, none⟩ = some (.slice p.T.a p.T.xs.length p.T.cap) ∧
    W.cell? ⟨w.heap.size, 6, none⟩ = some (.int .i64 p.W) := by
  subst hB; subst hcs
  exact ⟨(hb.cell (p := ⟨w.heap.size, 0, none⟩) (by simp)).trans (by simp [go_sem]), (hb.cell (p := ⟨w.heap.size, 1, none⟩) (by simp)).trans (by simp [go_sem]), (hb.cell (p := ⟨w.heap.size, 2, none⟩) (by simp)).trans (by simp [go_sem]),
    (hb.cell (p := ⟨w.heap.size, 3, none⟩) (by simp)).trans (by simp [go_sem]), (hb.cell (p := ⟨w.heap.size, 4, none⟩) (by simp)).trans (by simp [go_sem]), (hb.cell (p := ⟨w.heap.size, 5, none⟩) (by simp)).trans (by simp [go_sem]), (hb.cell (p := ⟨w.heap.size, 6, none⟩) (by simp)).trans (by simp [go_sem])⟩

def inB (n : Int) : Bool := btwB n 0 1099511627776
def infB (I : List Int) (i : Nat) : Bool := inB (I.getD i 0)
def relB (L : List Int) (i : Nat) : Bool := inB (L.getD i 0) && (i == 0 || decide (L.getD (i - 1) 0 < L.getD i 0))
def endsB (T : List Kn) : Bool := decide (0 ≤ (T.getD 0 default).Y) && decide ((lastK T).Y ≤ 1099511627776)
/-- A plan is right. -/
def planB (p : PlD) : Bool :=
  btwB p.Cp 1 1099511627776 && (btwB p.Rs 0 p.Cp && (btwB p.St p.Rs p.Cp && (!decide (200 < p.I.xs.length) && (btwB p.L.xs.length 1 20 && (btwB p.W 0 1000 && (tabB p.T.xs &&
    (allFrom (infB p.I.xs) 0 p.I.xs.length && (allFrom (relB p.L.xs) 0 p.L.xs.length && endsB p.T.xs))))))))

theorem infB_at {I : List Int} {k : Nat} (h : k < I.length) : infB I k = btwB I[k] 0 1099511627776 := by
  simp [infB, inB, List.getD, List.getElem?_eq_getElem h]
theorem relB_0 {L : List Int} (h : 0 < L.length) : relB L 0 = btwB L[0] 0 1099511627776 := by
  simp [relB, inB, List.getD, List.getElem?_eq_getElem h]
theorem relB_pos {L : List Int} {k : Nat} (h : k < L.length) (h0 : 0 < k) : relB L k = (btwB L[k] 0 1099511627776 && !decide (L[k] ≤ L[k - 1]'(by omega))) := by
  have e : (k == 0) = false := by rw [beq_eq_false_iff_ne]; omega
  simp only [relB, inB, List.getD, List.getElem?_eq_getElem h, List.getElem?_eq_getElem (show k - 1 < L.length by omega), e, Bool.false_or, Option.getD_some]
  congr 1
  rw [Bool.eq_iff_iff]
  simp

set_option maxRecDepth 100000 in
set_option maxHeartbeats 8000000 in
theorem pvalid_any (p : PlD) (w : World) (hg : gPl w p) : Calls Tryz.prog 136 #[vPl p] w fun e w' => e = .returned (.bool (planB p)) ∧ Below w.heap.size w w' := by
  obtain ⟨res, hres⟩ : ∃ res, res = planB p := ⟨_, rfl⟩
  rw [← hres]
  have HR := Lib.hid hres
  clear hres
  have hI := hg.i.2.2.1
  have hL := hg.l.2.2.1
  have hTL := hg.t.isL
  obtain ⟨St, Cp, Rs, ⟨ia, ic, is⟩, ⟨la, lc, ls⟩, ⟨ta, tc, ts⟩, Wt⟩ := p
  have hb0 : Below w.heap.size w (w.alloc (.cells #[.int .i64 St, .int .i64 Cp, .int .i64 Rs, .slice ia is.length ic, .slice la ls.length lc, .slice ta ts.length tc, .int .i64 Wt] 68)) := (Below.refl _ _).alloc (Nat.le_refl _) _
  simp only at hI hL hTL
  clear hg
  have HI := Lib.hid hI
  have HL := Lib.hid hL
  have HT := Lib.hid hTL
  clear hI hL hTL
  simp only [vPl, vSl]
  go_enter Tryz.func136, Tryz.ntmps136
  go_wp2_with fail
  refine (pwithin_any _ _ _ _).mono ?_
  rintro e w1 ⟨rfl, rfl⟩
  cases h1 : btwB Cp 1 1099511627776
  · go_wp2_with fail
    go_ret
    exact ⟨ret_bool (by rw [HR.out]; simp [planB, h1]), hb0⟩
  go_wp2_with fail
  refine (pwithin_any _ _ _ _).mono ?_
  rintro e w1 ⟨rfl, rfl⟩
  cases h2 : btwB Rs 0 Cp
  · go_wp2_with fail
    go_ret
    exact ⟨ret_bool (by rw [HR.out]; simp [planB, h1, h2]), hb0⟩
  go_wp2_with fail
  refine (pwithin_any _ _ _ _).mono ?_
  rintro e w1 ⟨rfl, rfl⟩
  cases h3 : btwB St Rs Cp
  · go_wp2_with fail
    go_ret
    exact ⟨ret_bool (by rw [HR.out]; simp [planB, h1, h2, h3]), hb0⟩
  by_cases hn : 200 < is.length
  · have q1 : decide ((200 : Int) < is.length) = true := decide_eq_true (by omega)
    have q2 : decide (200 < is.length) = true := decide_eq_true hn
    go_wp2_with fail
    go_ret
    exact ⟨ret_bool (by rw [HR.out]; simp [planB, h1, h2, h3, hn]), hb0⟩
  have q1 : decide ((200 : Int) < is.length) = false := decide_eq_false (by omega)
  have q2 : decide (200 < is.length) = false := decide_eq_false hn
  go_wp2_with fail
  refine (pwithin_any _ _ _ _).mono ?_
  rintro e w1 ⟨rfl, rfl⟩
  cases h4 : btwB (ls.length : Int) 1 20
  · go_wp2_with fail
    go_ret
    exact ⟨ret_bool (by rw [HR.out]; simp [planB, h1, h2, h3, hn, h4]), hb0⟩
  go_wp2_with fail
  refine (pwithin_any _ _ _ _).mono ?_
  rintro e w1 ⟨rfl, rfl⟩
  cases h5 : btwB Wt 0 1000
  · go_wp2_with fail
    go_ret
    exact ⟨ret_bool (by rw [HR.out]; simp [planB, h1, h2, h3, hn, h4, h5]), hb0⟩
  go_wp2_with fail
  refine Calls.to (tvalid_any ts _ _ (HT.out.mono hb0)) ?_
  rintro e w2 rfl hb2
  have hbw := hb0.trans (hb2.mono hb0.size)
  cases h6 : tabB ts
  · go_wp2_with fail
    go_ret
    exact ⟨ret_bool (by rw [HR.out]; simp [planB, h1, h2, h3, hn, h4, h5, h6]), hbw⟩
  obtain ⟨_, _, _, c3, c4, c5, _⟩ := boxPl w w2 68 ⟨St, Cp, Rs, ⟨ia, ic, is⟩, ⟨la, lc, ls⟩, ⟨ta, tc, ts⟩, Wt⟩ _ rfl _ rfl (hb2.mono (by simp))
  have hres : res = (allFrom (infB is) 0 is.length && (allFrom (relB ls) 0 ls.length && endsB ts)) := by rw [HR.out]; simp [planB, h1, h2, h3, hn, h4, h5, h6]
  have HR := Lib.hid hres
  have ht1 := (tabB_len h6).1
  have HTL := Lib.hid (tabB_len h6).2
  have hl1 : ls.length < 2147483648 := by simp [btwB] at h4; omega
  have C4 := Lib.hid c4
  have C5 := Lib.hid c5
  clear hres h1 h2 h3 h4 h5 h6 q1 q2 hb2 hb0 c4 c5
  go_wp2_with fail
  go_loopw [57] (fun s57 wr => ∃ k : Nat, k ≤ is.length ∧ s57 = .int .i64 k ∧ wr = w2 ∧ Hid (res = (allFrom (infB is) k is.length && (allFrom (relB ls) 0 ls.length && endsB ts)))) (fun s57 _ => is.length - (intOf s57).toNat)
  case atStart => exact ⟨0, Nat.zero_le _, rfl, rfl, HR⟩
  case round =>
    obtain ⟨k, hk, rfl, rfl, hm⟩ := hrel
    by_cases hkl : k < is.length
    · obtain ⟨b, off, rfl, d0⟩ := (HI.out.mono hbw).int k hkl
      have i1 : decide (k < is.length) = true := decide_eq_true hkl
      have x8 : IntKind.i64.wrap ((k : Int) + 1) = k + 1 := IntWalk.i64_in _ (by omega)
      have hst := Lib.hid ((allFrom_step (infB is) hkl).trans (by rw [infB_at hkl]))
      clear HL HT
      obtain ⟨x, hx⟩ : ∃ x, x = is[k] := ⟨_, rfl⟩
      rw [← hx] at d0 hst
      clear hx
      go_wp2_with fail
      refine (pwithin_any _ _ _ _).mono ?_
      rintro e w1 ⟨rfl, rfl⟩
      cases h1 : btwB x 0 1099511627776
      · go_wp2_with fail
        go_ret
        exact ⟨ret_bool (by rw [hm.out, hst.out, h1]; rfl), hbw⟩
      · go_wp2_with fail
        go_roundw
        case measure => simp [intOf]; omega
        case rel => exact ⟨k + 1, by omega, by go_num, trivial, hm.out.trans (by rw [hst.out, h1]; rfl)⟩
    · have i1 : decide (k < is.length) = false := decide_eq_false hkl
      obtain rfl : k = is.length := by omega
      have hm2 : res = (allFrom (relB ls) 0 ls.length && endsB ts) := by rw [hm.out, allFrom_end _ (Nat.le_refl _)]; rfl
      have HM := Lib.hid hm2
      have c4 := C4.out
      clear hm2 hm c3
      go_wp2_with fail
      go_loopw [68] (fun s68 wx => ∃ k : Nat, k ≤ ls.length ∧ s68 = .int .i64 k ∧ wx = wr ∧ Hid (res = (allFrom (relB ls) k ls.length && endsB ts))) (fun s68 _ => ls.length - (intOf s68).toNat)
      case atStart => exact ⟨0, Nat.zero_le _, rfl, rfl, HM⟩
      case round =>
        obtain ⟨k, hk, rfl, rfl, hm⟩ := hrel
        by_cases hkl : k < ls.length
        · obtain ⟨b, off, rfl, d0⟩ := (HL.out.mono hbw).int k hkl
          have i1 : decide (k < ls.length) = true := decide_eq_true hkl
          have x8 : IntKind.i64.wrap ((k : Int) + 1) = k + 1 := IntWalk.i64_in _ (by omega)
          have hst := Lib.hid (allFrom_step (relB ls) hkl)
          by_cases hk0 : k = 0
          · have hr := Lib.hid (show relB ls k = btwB ls[k] 0 1099511627776 by subst hk0; exact relB_0 hkl)
            have q0 : decide (0 < k) = false := decide_eq_false (by omega)
            have q1 : decide ((0 : Int) < k) = false := decide_eq_false (by omega)
            have HK0 := Lib.hid hk0
            clear hk0
            obtain ⟨x, hx⟩ : ∃ x, x = ls[k] := ⟨_, rfl⟩
            rw [← hx] at d0 hr
            clear hx
            go_wp2_with fail
            refine (pwithin_any _ _ _ _).mono ?_
            rintro e w1 ⟨rfl, rfl⟩
            cases h1 : btwB x 0 1099511627776
            · go_wp2_with fail
              go_ret
              exact ⟨ret_bool (by rw [hm.out, hst.out, hr.out, h1]; rfl), hbw⟩
            · go_wp2_with fail
              go_roundw
              case measure => simp [intOf]; omega
              case rel => exact ⟨k + 1, by omega, by go_num, trivial, hm.out.trans (by rw [hst.out, hr.out, h1]; rfl)⟩
          · obtain ⟨j, hj⟩ : ∃ j, k = j + 1 := ⟨k - 1, by omega⟩
            subst hj
            obtain ⟨b', off', he, d1⟩ := (HL.out.mono hbw).int j (by omega)
            simp only [Option.some.injEq, Addr.mk.injEq] at he
            obtain ⟨rfl, rfl, _⟩ := he
            have hr0 := relB_pos hkl (by omega)
            simp only [Nat.add_sub_cancel] at hr0
            have hr := Lib.hid hr0
            have q0 : decide (0 < j + 1) = true := decide_eq_true (by omega)
            have q1 : decide ((0 : Int) < ((j + 1 : Nat) : Int)) = true := decide_eq_true (by omega)
            have q2 : decide ((0 : Int) < (j : Int) + 1) = true := decide_eq_true (by omega)
            have x9 : IntKind.i64.wrap (((j + 1 : Nat) : Int) - 1) = j := by rw [IntWalk.i64_in _ (by omega)]; omega
            have x10 : IntKind.i64.wrap ((j : Int) + 1 - 1) = j := by rw [IntWalk.i64_in _ (by omega)]; omega
            have i2 : (0 : Int) ≤ j := by omega
            have i3 : (j : Int) < ls.length := by omega
            obtain ⟨x, hx⟩ : ∃ x, x = ls[j + 1] := ⟨_, rfl⟩
            obtain ⟨y, hy⟩ : ∃ y, y = ls[j] := ⟨_, rfl⟩
            rw [← hx] at d0 hr
            rw [← hy] at d1 hr
            clear hx hy hk0 hr0
            go_wp2_with fail
            refine (pwithin_any _ _ _ _).mono ?_
            rintro e w1 ⟨rfl, rfl⟩
            cases h1 : btwB x 0 1099511627776
            · go_wp2_with fail
              go_ret
              exact ⟨ret_bool (by rw [hm.out, hst.out, hr.out, h1]; rfl), hbw⟩
            · cases h2 : decide (x ≤ y)
              · go_wp2_with fail
                go_roundw
                case measure => simp [intOf]; omega
                case rel => exact ⟨j + 1 + 1, by omega, by go_num, trivial, hm.out.trans (by rw [hst.out, hr.out, h1, h2]; rfl)⟩
              · go_wp2_with fail
                go_ret
                exact ⟨ret_bool (by rw [hm.out, hst.out, hr.out, h1, h2]; rfl), hbw⟩
        · have i1 : decide (k < ls.length) = false := decide_eq_false hkl
          obtain rfl : k = ls.length := by omega
          have he := show endsB ts = (decide ((0 : Int) ≤ (ts[0]'(by omega)).Y) && decide ((ts[ts.length - 1]'(by omega)).Y ≤ 1099511627776)) by
            rw [endsB, lastK_eq ht1]; simp [List.getD, List.getElem?_eq_getElem (show 0 < ts.length by omega)]
          have HE := Lib.hid he
          have HTC := HT.out.mono hbw
          obtain ⟨tb, tcap, htv, _, _, hC⟩ := HTC
          simp only [Value.slice.injEq] at htv
          obtain ⟨rfl, _, _⟩ := htv
          obtain ⟨b, off, rfl, d0, d1⟩ := hC.kn 0 (by omega)
          obtain ⟨b', off', he', d2, d3⟩ := hC.kn (ts.length - 1) (by omega)
          simp only [Option.some.injEq, Addr.mk.injEq] at he'
          obtain ⟨rfl, rfl, _⟩ := he'
          have hl2 := (show ts.length < 2147483648 by have := HTL.out; omega)
          have x9 : IntKind.i64.wrap ((ts.length : Int) - 1) = ((ts.length - 1 : Nat) : Int) := by rw [IntWalk.i64_in _ (by omega)]; omega
          have i2 : (0 : Int) ≤ ((ts.length - 1 : Nat) : Int) := by omega
          have i3 : ((ts.length - 1 : Nat) : Int) < ts.length := by omega
          have i4 : (0 : Int) < ts.length := by omega
          have c5 := C5.out
          obtain ⟨y0, hy0⟩ : ∃ y, y = (ts[0]'(by omega)).Y := ⟨_, rfl⟩
          obtain ⟨y1, hy1⟩ : ∃ y, y = (ts[ts.length - 1]'(by omega)).Y := ⟨_, rfl⟩
          rw [← hy0] at d1 HE
          rw [← hy1] at d3 HE
          obtain ⟨m, hmm⟩ : ∃ m, m = ts.length - 1 := ⟨_, rfl⟩
          clear d0 d2 hy0 hy1 he
          rw [← hmm] at d3 x9 i2 i3
          clear hmm ht1
          cases h1 : decide (0 ≤ y0)
          · go_wp2_with fail
            go_ret
            exact ⟨ret_bool (by rw [hm.out, allFrom_end _ (Nat.le_refl _), HE.out, h1]; rfl), hbw⟩
          · cases h2 : decide (y1 ≤ 1099511627776)
            · go_wp2_with fail
              go_ret
              exact ⟨ret_bool (by rw [hm.out, allFrom_end _ (Nat.le_refl _), HE.out, h1, h2]; rfl), hbw⟩
            · go_wp2_with fail
              go_ret
              exact ⟨ret_bool (by rw [hm.out, allFrom_end _ (Nat.le_refl _), HE.out, h1, h2]; rfl), hbw⟩

end Go.Proofs.YtoiakijmbghhlaaGreat
