/- reports.Rows at two short texts. Conditions: the texts lie in memory. -/
import Derived.Test.YtoiakijmbghhlaaGreatMSa
import Derived.Test.YtoiakijmbghhlaaGreatOrw
import Derived.Laws.IdiomStrings
namespace Go.Proofs.YtoiakijmbghhlaaGreat
open Go.RowKit
set_option linter.unusedVariables false
set_option linter.unusedSimpArgs false

abbrev By := Int
abbrev eBy (x : By) : List Value := [.int .u8 x]
abbrev vBy (x : By) : Value := .int .u8 x
abbrev IsBys (w : World) (v : Value) (xs : List By) : Prop := IsL eBy 1 w v xs
theorem IsC.by {w : World} {a : Option Addr} {xs : List By} (h : IsC eBy 1 w a xs) (i : Nat) (hi : i < xs.length) :
    ∃ b off, a = some ⟨b, off, none⟩ ∧ w.cell? ⟨b, off + i, none⟩ = some (.int .u8 xs[i]) := by
  obtain ⟨b, off, e, hc⟩ := h i hi
  exact ⟨b, off, e, by simpa using hc 0 (by omega)⟩
set_option maxHeartbeats 1000000 in
theorem indexBy (g : Nat) (lb : Array Value) (eg : ∀ args w, (callFunc g args).run Tryz.prog w = .ok (.enter g args) w) (p : By → Bool) (xs : List By) (v : Value) (w : World)
    (hv : IsBys w v xs) (hp : PredOn Tryz.prog g lb vBy p xs w) :
    Calls Tryz.prog 181 #[v, .func (.func g) #[] lb] w fun e w' => e = .returned (.int .i64 (idxFrom p xs 0)) ∧ Below w.heap.size w w' := by
  obtain ⟨a, cap, rfl, hcap, hbig, hs⟩ := hv
  go_enter Tryz.func181, Tryz.ntmps181
  go_wp2
  go_loopw [5, 8] (fun _ s8 wr => ∃ k : Nat, k ≤ xs.length ∧ s8 = .int .i64 k ∧ Below w.heap.size w wr ∧ Hid (idxFrom p xs 0 = idxFrom p (xs.drop k) k)) (fun _ i _ => xs.length - (RowKit.intOf i).toNat)
  case atStart => exact ⟨0, Nat.zero_le _, rfl, Below.refl _ _, rfl⟩
  case round =>
    obtain ⟨k, hk, rfl, hb, hm⟩ := hrel
    by_cases hlt : k < xs.length
    · obtain ⟨b, off, rfl, c0⟩ := (hs.mono hb).by k hlt
      have hx := hp wr hb xs[k] (List.getElem_mem hlt)
      have hstep : Hid (idxFrom p (xs.drop k) k = if p xs[k] then (k : Int) else idxFrom p (xs.drop (k + 1)) (k + 1)) := by
        rw [List.drop_eq_getElem_cons hlt]; rfl
      clear hs hp
      generalize xs[k] = y at *
      cases hpy : p y
      all_goals
        rw [hpy] at hx hstep
        clear hpy
        go_wp2_with fail
        refine (Calls.to hx ?_)
        rintro e w1 rfl hb1
        have hbb := hb.trans (hb1.mono hb.size)
        go_wp2_with fail
      · go_roundw
        case rel => exact ⟨k + 1, by omega, by go_num, by repeat' (first | exact Below.refl _ _ | assumption | refine Below.more ?_ ?_ _ | refine Below.alloc ?_ ?_ _ | refine Below.drew ?_ | refine below_drewN ?_ _ | refine Below.setCell ?_ ?_ _ | exact Below.size (by assumption) | (simp [go_sem, size_more]; done) | (simp [go_sem, size_more]; omega)), hm.out.trans (hstep.out.trans (by simp))⟩
        case measure => simp [RowKit.intOf]; omega
      · go_ret
        exact ⟨ret_int (hm.out.trans (hstep.out.trans (by simp))).symm, by repeat' (first | exact Below.refl _ _ | assumption | refine Below.more ?_ ?_ _ | refine Below.alloc ?_ ?_ _ | refine Below.drew ?_ | refine below_drewN ?_ _ | refine Below.setCell ?_ ?_ _ | exact Below.size (by assumption) | (simp [go_sem, size_more]; done) | (simp [go_sem, size_more]; omega))⟩
    · go_wp2
      go_ret
      refine ⟨ret_int ?_, by repeat' (first | exact Below.refl _ _ | assumption | refine Below.more ?_ ?_ _ | refine Below.alloc ?_ ?_ _ | refine Below.drew ?_ | refine below_drewN ?_ _ | refine Below.setCell ?_ ?_ _ | exact Below.size (by assumption) | (simp [go_sem, size_more]; done) | (simp [go_sem, size_more]; omega))⟩
      rw [hm.out, List.drop_eq_nil_of_le (by omega)]; rfl

set_option maxHeartbeats 400000 in
theorem containsBy (g : Nat) (lb : Array Value) (eg : ∀ args w, (callFunc g args).run Tryz.prog w = .ok (.enter g args) w) (p : By → Bool) (xs : List By) (v : Value) (w : World)
    (hv : IsBys w v xs) (hp : PredOn Tryz.prog g lb vBy p xs w) :
    Calls Tryz.prog 112 #[v, .func (.func g) #[] lb] w fun e w' => e = .returned (.bool (xs.any p)) ∧ Below w.heap.size w w' := by
  go_enter Tryz.func112, Tryz.ntmps112
  go_wp2_with fail
  refine Calls.to (indexBy g lb eg p xs v w hv hp) ?_
  rintro e w1 rfl hb
  go_wp2_with fail
  go_ret
  exact ⟨ret_bool (idxFrom_any p xs 0), hb⟩


abbrev Tx := ByteArray
abbrev eTx (x : Tx) : List Value := [.string x]
abbrev vTx (x : Tx) : Value := .string x
abbrev IsTxs (w : World) (v : Value) (xs : List Tx) : Prop := IsL eTx 1 w v xs
theorem IsC.tx {w : World} {a : Option Addr} {xs : List Tx} (h : IsC eTx 1 w a xs) (i : Nat) (hi : i < xs.length) :
    ∃ b off, a = some ⟨b, off, none⟩ ∧ w.cell? ⟨b, off + i, none⟩ = some (.string xs[i]) := by
  obtain ⟨b, off, e, hc⟩ := h i hi
  exact ⟨b, off, e, by simpa using hc 0 (by omega)⟩
set_option maxHeartbeats 1000000 in
theorem indexTx (g : Nat) (lb : Array Value) (eg : ∀ args w, (callFunc g args).run Tryz.prog w = .ok (.enter g args) w) (p : Tx → Bool) (xs : List Tx) (v : Value) (w : World)
    (hv : IsTxs w v xs) (hp : PredOn Tryz.prog g lb vTx p xs w) :
    Calls Tryz.prog 182 #[v, .func (.func g) #[] lb] w fun e w' => e = .returned (.int .i64 (idxFrom p xs 0)) ∧ Below w.heap.size w w' := by
  obtain ⟨a, cap, rfl, hcap, hbig, hs⟩ := hv
  go_enter Tryz.func182, Tryz.ntmps182
  go_wp2
  go_loopw [5, 8] (fun _ s8 wr => ∃ k : Nat, k ≤ xs.length ∧ s8 = .int .i64 k ∧ Below w.heap.size w wr ∧ Hid (idxFrom p xs 0 = idxFrom p (xs.drop k) k)) (fun _ i _ => xs.length - (RowKit.intOf i).toNat)
  case atStart => exact ⟨0, Nat.zero_le _, rfl, Below.refl _ _, rfl⟩
  case round =>
    obtain ⟨k, hk, rfl, hb, hm⟩ := hrel
    by_cases hlt : k < xs.length
    · obtain ⟨b, off, rfl, c0⟩ := (hs.mono hb).tx k hlt
      have hx := hp wr hb xs[k] (List.getElem_mem hlt)
      have hstep : Hid (idxFrom p (xs.drop k) k = if p xs[k] then (k : Int) else idxFrom p (xs.drop (k + 1)) (k + 1)) := by
        rw [List.drop_eq_getElem_cons hlt]; rfl
      clear hs hp
      generalize xs[k] = y at *
      cases hpy : p y
      all_goals
        rw [hpy] at hx hstep
        clear hpy
        go_wp2_with fail
        refine (Calls.to hx ?_)
        rintro e w1 rfl hb1
        have hbb := hb.trans (hb1.mono hb.size)
        go_wp2_with fail
      · go_roundw
        case rel => exact ⟨k + 1, by omega, by go_num, by repeat' (first | exact Below.refl _ _ | assumption | refine Below.more ?_ ?_ _ | refine Below.alloc ?_ ?_ _ | refine Below.drew ?_ | refine below_drewN ?_ _ | refine Below.setCell ?_ ?_ _ | exact Below.size (by assumption) | (simp [go_sem, size_more]; done) | (simp [go_sem, size_more]; omega)), hm.out.trans (hstep.out.trans (by simp))⟩
        case measure => simp [RowKit.intOf]; omega
      · go_ret
        exact ⟨ret_int (hm.out.trans (hstep.out.trans (by simp))).symm, by repeat' (first | exact Below.refl _ _ | assumption | refine Below.more ?_ ?_ _ | refine Below.alloc ?_ ?_ _ | refine Below.drew ?_ | refine below_drewN ?_ _ | refine Below.setCell ?_ ?_ _ | exact Below.size (by assumption) | (simp [go_sem, size_more]; done) | (simp [go_sem, size_more]; omega))⟩
    · go_wp2
      go_ret
      refine ⟨ret_int ?_, by repeat' (first | exact Below.refl _ _ | assumption | refine Below.more ?_ ?_ _ | refine Below.alloc ?_ ?_ _ | refine Below.drew ?_ | refine below_drewN ?_ _ | refine Below.setCell ?_ ?_ _ | exact Below.size (by assumption) | (simp [go_sem, size_more]; done) | (simp [go_sem, size_more]; omega))⟩
      rw [hm.out, List.drop_eq_nil_of_le (by omega)]; rfl

set_option maxHeartbeats 400000 in
theorem containsTx (g : Nat) (lb : Array Value) (eg : ∀ args w, (callFunc g args).run Tryz.prog w = .ok (.enter g args) w) (p : Tx → Bool) (xs : List Tx) (v : Value) (w : World)
    (hv : IsTxs w v xs) (hp : PredOn Tryz.prog g lb vTx p xs w) :
    Calls Tryz.prog 114 #[v, .func (.func g) #[] lb] w fun e w' => e = .returned (.bool (xs.any p)) ∧ Below w.heap.size w w' := by
  go_enter Tryz.func114, Tryz.ntmps114
  go_wp2_with fail
  refine Calls.to (indexTx g lb eg p xs v w hv hp) ?_
  rintro e w1 rfl hb
  go_wp2_with fail
  go_ret
  exact ⟨ret_bool (idxFrom_any p xs 0), hb⟩


theorem ent113 : ∀ args w, (callFunc 113 args).run Tryz.prog w = .ok (.enter 113 args) w := by
  intro args w
  simp [go_sem]
theorem ent115 : ∀ args w, (callFunc 115 args).run Tryz.prog w = .ok (.enter 115 args) w := by
  intro args w
  simp [go_sem]
theorem rows1_any (x : Int) (w : World) (hx : 33 ≤ x ∧ x ≤ 126) : Calls Tryz.prog 113 #[.int .u8 x] w fun e w' => e = .returned (.bool false) ∧ Below w.heap.size w w' := by
  have i1 : decide (x < 33) = false := decide_eq_false (by omega)
  have i2 : decide (126 < x) = false := decide_eq_false (by omega)
  clear hx
  go_enter Tryz.func113, Tryz.ntmps113
  go_wp2_with fail
  go_ret
  exact ⟨rfl, Below.refl _ _⟩
theorem rows2_any (s : ByteArray) (B : Nat) (w : World) (hB : w.cell? ⟨B, 0, none⟩ = some (.int .i64 3)) (hs : s.size = 1) : Calls Tryz.prog 115 #[.string s, .pointer (some ⟨B, 0, none⟩)] w fun e w' => e = .returned (.bool false) ∧ Below w.heap.size w w' := by
  have i1 : decide ((3 : Int) < s.size) = false := decide_eq_false (by omega)
  have i2 : decide (3 < s.size) = false := decide_eq_false (by omega)
  clear hs
  go_enter Tryz.func115, Tryz.ntmps115
  go_wp2_with fail
  go_ret
  exact ⟨rfl, Below.refl _ _⟩

theorem undStr : Tryz.prog.underlying 42 = some (.slice 9) := by kernel_rfl
theorem infStr : (Tryz.prog.info? 9).map (fun i => (i.zero, i.size, i.bytes)) = some (some (.string ⟨#[]⟩), 1, 16) := by kernel_rfl
theorem undByt : Tryz.prog.underlying 69 = some (.slice 5) := by kernel_rfl
theorem undBy : Tryz.prog.underlying 5 = some (.int .u8) := by kernel_rfl
theorem bytesOf (w : World) (s : ByteArray) (hs : s.size ≤ maxLen) : ∃ W c, (convert 9 69 (.string s)).run Tryz.prog w = .ok (.slice (some ⟨w.heap.size, 0, none⟩) s.size c) W ∧ Below w.heap.size w W ∧ IsBys W (.slice (some ⟨w.heap.size, 0, none⟩) s.size c) (s.data.toList.map fun b => (b.toNat : Int)) := by
  have hl : (s.data.toList.map fun b => (b.toNat : Int)).length = s.size := by rw [List.length_map, Array.length_toList]; rfl
  refine ⟨_, _, run_bytes_of_string w _ _ 5 s undS undByt undBy, (Below.refl _ _).drew.alloc (Nat.le_refl _) _, ?_⟩
  refine ⟨_, _, by rw [hl], by rw [hl]; exact grownCap_ge _ _ _ _, (show grownCap w s.size 0 5 ≤ 9223372036854775807 from grownCap_le_maxLen _ _ _ _ hs), fun i hi => ⟨w.heap.size, 0, rfl, fun j hj => ?_⟩⟩
  have hi' : i < s.data.size := by rw [hl] at hi; exact hi
  have hj0 : j = 0 := by omega
  subst hj0
  rw [show 0 + i * 1 + 0 = i from by omega]
  refine (World.cell?_alloc_mark w.drew _ _ _ i).trans ?_
  rw [bytesRow_at s _ i hi']
  simp

set_option maxRecDepth 100000 in
set_option maxHeartbeats 8000000 in
theorem rows_ab (a : Nat) (w : World) (h : IsTxs w (.slice (some ⟨a, 0, none⟩) 2 2) [⟨#[97]⟩, ⟨#[98]⟩]) :
    Calls Tryz.prog 40 #[.slice (some ⟨a, 0, none⟩) 2 2, .int .i64 3] w fun e w' => (∃ b c, e = .returned (.tuple #[.slice (some ⟨b, 0, none⟩) 1 c, .int .i64 0]) ∧ w'.cell? ⟨b, 0, none⟩ = some (.string ⟨#[97, 32, 98]⟩)) ∧ Below w.heap.size w w' := by
  have hb0 : Below w.heap.size w (w.alloc (.cells #[.int .i64 3] 3)) := (Below.refl _ _).alloc (Nat.le_refl _) _
  have h3 : (w.alloc (.cells #[.int .i64 3] 3)).cell? ⟨w.heap.size, 0, none⟩ = some (.int .i64 3) := by simp [go_sem]
  obtain ⟨W, hW⟩ : ∃ W, W = w.alloc (.cells #[.int .i64 3] 3) := ⟨_, rfl⟩
  have HW := Lib.hid hW
  rw [← hW] at hb0 h3
  have HT := Lib.hid (h.mono hb0)
  have hc := fun (V : World) (hV : Below W.heap.size W V) => (HT.out.mono hV)
  have hlt0 : w.heap.size < W.heap.size := World.block_lt_of_cell? _ _ h3
  have HL := Lib.hid hlt0
  obtain ⟨_, _, he, -, -, hC⟩ := HT.out
  simp only [Value.slice.injEq] at he
  obtain ⟨rfl, -, -⟩ := he
  obtain ⟨_, _, he, x0⟩ := hC.tx 0 (by decide)
  obtain ⟨_, _, he', x1⟩ := hC.tx 1 (by decide)
  simp only [Option.some.injEq, Addr.mk.injEq] at he he'
  obtain ⟨rfl, rfl, -⟩ := he
  obtain ⟨rfl, rfl, -⟩ := he'
  simp only [List.getElem_cons_zero, List.getElem_cons_succ, Nat.zero_add] at x0 x1
  have X := Lib.hid (And.intro x0 x1)
  obtain ⟨W1, c1, r1, hb1, hy1⟩ := bytesOf W ⟨#[97]⟩ (by decide)
  have hk1 := containsBy 113 #[] ent113 (fun _ => false) [97] _ W1 hy1 (fun V hV x hx => rows1_any x V (by rw [List.mem_singleton.1 hx]; decide))
  clear hW h hC hc hlt0 hy1
  go_enter Tryz.func40, Tryz.ntmps40
  go_upto_region 1 with (fail)
  rw [← HW.out]
  clear HW
  go_wp2_with fail
  refine wp_loop_rounds 3 ?_
  rw [rounds_succ]
  go_wp2_with fail
  refine Calls.to hk1 ?_
  rintro e w2 rfl hb2
  have hbr := hb1.trans (hb2.mono hb1.size)
  clear hk1 r1 hb1 hb2 x0 x1
  have x0 := cel_lt X.out.1 hbr
  have x1 := cel_lt X.out.2 hbr
  rw [show ([97] : List Int).any (fun _ => false) = false from rfl]
  go_wp2_with fail
  obtain ⟨W3, c3, r3, hb3, hy3⟩ := bytesOf w2 ⟨#[98]⟩ (by decide)
  have hk3 := containsBy 113 #[] ent113 (fun _ => false) [98] _ W3 hy3 (fun V hV x hx => rows1_any x V (by rw [List.mem_singleton.1 hx]; decide))
  clear hy3
  rw [rounds_succ]
  go_wp2_with fail
  refine Calls.to hk3 ?_
  rintro e w4 rfl hb4
  have hbr := hbr.trans ((hb3.trans (hb4.mono hb3.size)).mono hbr.size)
  clear hk3 r3 hb3 hb4 x0 x1
  rw [show ([98] : List Int).any (fun _ => false) = false from rfl]
  go_wp2_with fail
  rw [rounds_succ]
  have h4 := cel_lt h3 hbr
  have hk4 := containsTx 115 #[.pointer (some ⟨w.heap.size, 0, none⟩)] ent115 (fun _ => false) [⟨#[97]⟩, ⟨#[98]⟩] _ w4 (HT.out.mono hbr) (fun V hV x hx => rows2_any x w.heap.size V (cel_lt h4 hV) (by rcases List.mem_cons.1 hx with h | h; rw [h]; rfl; rw [List.mem_singleton.1 h]; rfl))
  go_wp2_with fail
  refine Calls.to hk4 ?_
  rintro e w5 rfl hb5
  have hbr := hbr.trans (hb5.mono hbr.size)
  clear hk4 hb5 h4
  rw [show ([⟨#[97]⟩, ⟨#[98]⟩] : List ByteArray).any (fun _ => false) = false from rfl]
  have x0 := cel_lt X.out.1 hbr
  have x1 := cel_lt X.out.2 hbr
  have h3 := cel_lt h3 hbr
  go_wp2_with fail
  refine wp_loop_rounds 3 ?_
  rw [rounds_succ]
  go_upto_region 16 with (fail)
  go_quiet (fail)
  have hm : Below w5.heap.size w5 (w5.drewN nq) := below_drewN (Below.refl _ w5) nq
  have hbr := hbr.trans (hm.mono hbr.size)
  have x0 := cel_lt x0 hm
  have x1 := cel_lt x1 hm
  have h3 := cel_lt h3 hm
  clear hm
  generalize w5.drewN nq = w6 at *
  have hle6 : W.heap.size ≤ w6.heap.size := hbr.size
  have hon : Own w6.heap.size 9 eTx 1 w6 (.slice none 0 0) ([] : List Tx) := World.ownsRow_nil _ _ _ _
  have h1c : ∀ u ∈ eTx ⟨#[97]⟩, u.oneCell' = true := by simp [Value.oneCell']
  go_wp2_with (at_builtin; go_must (refine wpList_pushR rfl _ _ 42 rfl 9 _ 1 16 undStr infStr rfl (by decide) ⟨#[97]⟩ (fun _ => rfl) h1c _ ([] : List Tx) rfl hon w6.heap.size rfl rfl (by decide) (by decide) (Nat.le_refl _) _ rfl ?_); intro g7 c7 w7 hR7)
  have hb7 := hR7.below hon (Nat.le_refl _)
  have hbr := hbr.trans (hb7.mono hbr.size)
  have hv7 : w7.cell? ⟨g7, 0, none⟩ = some (.string ⟨#[97]⟩) := by
    have := Own.cellAt' (enc := eTx) (fun _ => rfl) hR7.own 0 0 (by simp) (by simp)
    simpa using this
  have hf7 := hR7.own.free 0
  have hg7 : W.heap.size ≤ g7 := by
    have h1 := (hR7.own.lt g7 rfl).1
    omega
  have x0 := cel_lt x0 hb7
  have x1 := cel_lt x1 hb7
  have h3 := cel_lt h3 hb7
  clear hR7 hb7 hon h1c
  rw [rounds_succ]
  go_upto_region 16 with (fail)
  go_quiet (fail)
  have hm : Below w7.heap.size w7 (w7.drewN nq) := below_drewN (Below.refl _ w7) nq
  have hbr := hbr.trans (hm.mono hbr.size)
  have hf7 : (w7.drewN nq).frozen? ⟨g7, 0, none⟩ = false := (Below.frozen hm (World.block_lt_of_cell? _ _ hv7)).trans hf7
  have hv7 := cel_lt hv7 hm
  clear hm x0 x1 h3
  generalize w7.drewN nq = w8 at *
  go_wp2_with fail
  rw [rounds_succ]
  go_wp2_with fail
  go_ret2
  have hfin := hb0.trans (hbr.mono hb0.size)
  refine ⟨⟨g7, c7, rfl, (World.cell?_setCell_same _ _ _ hv7).trans ?_⟩, hfin.setCell (by have := hb0.size; simp only; omega) _⟩
  rfl

end Go.Proofs.YtoiakijmbghhlaaGreat
