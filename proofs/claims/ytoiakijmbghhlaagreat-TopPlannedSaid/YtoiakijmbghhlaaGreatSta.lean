/- States as arguments: how they read, IndexFunc and ContainsFunc at states. Conditions: none. -/
import Derived.Test.YtoiakijmbghhlaaGreatProg
import Derived.BigRegion
import Derived.Test.YtoiakijmbghhlaaGreatRead
namespace Go.Proofs.YtoiakijmbghhlaaGreat
open Go.RowKit
set_option linter.unusedVariables false
set_option linter.unusedSimpArgs false

abbrev gI64 : World → Int → Prop := fun _ n => (Lit.int .i64 n).wf = true
abbrev eBool (b : Bool) : List Value := [.bool b]
abbrev gTrue {α : Type} : World → α → Prop := fun _ _ => True

theorem rdI : Rdr Tryz.prog 3 eInt 1 gI64 := rdInt (by kernel_rfl) (by kernel_rfl)
theorem rdInts : Rdr Tryz.prog 28 (fun s : Sl Int => [vSl s]) 1 (gSl eInt 1 gI64) := rdSlice rdI Nat.zero_lt_one (by kernel_rfl) (by kernel_rfl)
theorem rdBools : Rdr Tryz.prog 29 (fun s : Sl Bool => [vSl s]) 1 (gSl eBool 1 gTrue) := rdSlice (rdBool (t := 4) (by kernel_rfl) (by kernel_rfl)) Nat.zero_lt_one (by kernel_rfl) (by kernel_rfl)

structure St where
  V : Sl Int
  P : Sl Int
  S : Sl Int
  O : Sl Bool

abbrev eSt (s : St) : List Value := [vSl s.V, vSl s.P, vSl s.S, vSl s.O]
abbrev vSt (s : St) : Value := .agg #[vSl s.V, vSl s.P, vSl s.S, vSl s.O]
theorem eSt_len (s : St) : (eSt s).length = 4 := rfl
abbrev gInts : World → Sl Int → Prop := gSl eInt 1 gI64
def gSt (W : World) (s : St) : Prop := gInts W s.V ∧ gInts W s.P ∧ gInts W s.S ∧ gSl eBool 1 gTrue W s.O

theorem rdSt : Rdr Tryz.prog 31 eSt 4 gSt := by
  refine ⟨by kernel_rfl, fun _ => rfl, ?_, ?_⟩
  · intro H e W fuel cs x h
    obtain ⟨hl, hf⟩ := rd_fields (by kernel_rfl) h
    rw [show Tryz.prog.cellsOf 31 = 4 from by kernel_rfl] at hl
    obtain ⟨a0, e0, g0⟩ := hf 0 28 0 (by kernel_rfl) rdInts
    obtain ⟨a1, e1, g1⟩ := hf 1 28 1 (by kernel_rfl) rdInts
    obtain ⟨a2, e2, g2⟩ := hf 2 28 2 (by kernel_rfl) rdInts
    obtain ⟨a3, e3, g3⟩ := hf 3 29 3 (by kernel_rfl) rdBools
    have hj := cutAt_join cs [1, 1, 1, 1] 0 (by rw [hl]; rfl)
    simp only [cutAt, Nat.zero_add, Nat.reduceAdd] at hj
    rw [e0, e1, e2, e3] at hj
    exact ⟨⟨a0, a1, a2, a3⟩, by simpa using hj.symm, g0, g1, g2, g3⟩
  · intro W W' a ⟨h0, h1, h2, h3⟩ hb
    exact ⟨rdInts.mono h0 hb, rdInts.mono h1 hb, rdInts.mono h2 hb, rdBools.mono h3 hb⟩

set_option maxRecDepth 100000 in
theorem openSts {H : Type} {en : TypeId × Value → H} {W : World} {v : Value} {d : DataW H} {ps : List MemPlace} {r : Reach} {b0 : Nat} (hv : Value.okWide Tryz.prog W r b0 37 v) (h : DataW.Trod en Tryz.prog W 0 (fun _ => true) true 37 v d ps) :
    ∃ s : Sl St, v = vSl s ∧ gSl eSt 4 gSt W s := arg_slice rdSt (by decide) (by kernel_rfl) (by kernel_rfl) hv h

abbrev IsSts (w : World) (v : Value) (xs : List St) : Prop := IsL eSt 4 w v xs
theorem IsC.st {w : World} {a : Option Addr} {xs : List St} (h : IsC eSt 4 w a xs) (i : Nat) (hi : i < xs.length) :
    ∃ b off, a = some ⟨b, off, none⟩ ∧ w.cell? ⟨b, off + i * 4, none⟩ = some (.slice xs[i].V.a xs[i].V.xs.length xs[i].V.cap) ∧ w.cell? ⟨b, off + i * 4 + 1, none⟩ = some (.slice xs[i].P.a xs[i].P.xs.length xs[i].P.cap) ∧
      w.cell? ⟨b, off + i * 4 + 2, none⟩ = some (.slice xs[i].S.a xs[i].S.xs.length xs[i].S.cap) ∧ w.cell? ⟨b, off + i * 4 + 3, none⟩ = some (.slice xs[i].O.a xs[i].O.xs.length xs[i].O.cap) := by
  obtain ⟨b, off, e, hc⟩ := h i hi
  refine ⟨b, off, e, ?_, ?_, ?_, ?_⟩
  · simpa using hc 0 (by omega)
  · simpa using hc 1 (by omega)
  · simpa using hc 2 (by omega)
  · simpa using hc 3 (by omega)

set_option maxHeartbeats 1000000 in
theorem indexSts (g : Nat) (lb : Array Value) (eg : ∀ args w, (callFunc g args).run Tryz.prog w = .ok (.enter g args) w) (p : St → Bool) (xs : List St) (v : Value) (w : World)
    (hv : IsSts w v xs) (hp : PredOn Tryz.prog g lb vSt p xs w) :
    Calls Tryz.prog 176 #[v, .func (.func g) #[] lb] w fun e w' => e = .returned (.int .i64 (idxFrom p xs 0)) ∧ Below w.heap.size w w' := by
  obtain ⟨a, cap, rfl, hcap, hbig, hs⟩ := hv
  go_enter Tryz.func176, Tryz.ntmps176
  go_wp2
  go_loopw [5, 8] (fun _ s8 wr => ∃ k : Nat, k ≤ xs.length ∧ s8 = .int .i64 k ∧ Below w.heap.size w wr ∧ Hid (idxFrom p xs 0 = idxFrom p (xs.drop k) k)) (fun _ i _ => xs.length - (RowKit.intOf i).toNat)
  case atStart => exact ⟨0, Nat.zero_le _, rfl, Below.refl _ _, rfl⟩
  case round =>
    obtain ⟨k, hk, rfl, hb, hm⟩ := hrel
    by_cases hlt : k < xs.length
    · obtain ⟨b, off, rfl, c0, c1, c2, c3⟩ := (hs.mono hb).st k hlt
      have hx := hp wr hb xs[k] (List.getElem_mem hlt)
      have hstep : Hid (idxFrom p (xs.drop k) k = if p xs[k] then (k : Int) else idxFrom p (xs.drop (k + 1)) (k + 1)) := by
        rw [List.drop_eq_getElem_cons hlt]; rfl
      clear hs hp
      generalize xs[k] = y at *
      cases hpy : p y
      all_goals
        rw [hpy] at hx hstep
        clear hpy
        go_wp2_with fail
        refine (Calls.to hx ?_)
        rintro e w1 rfl hb1
        have hbb := hb.trans (hb1.mono hb.size)
        go_wp2_with fail
      · go_roundw
        case rel => exact ⟨k + 1, by omega, by go_num, by repeat' (first | exact Below.refl _ _ | assumption | refine Below.more ?_ ?_ _ | refine Below.alloc ?_ ?_ _ | refine Below.drew ?_ | refine below_drewN ?_ _ | refine Below.setCell ?_ ?_ _ | exact Below.size (by assumption) | (simp [go_sem, size_more]; done) | (simp [go_sem, size_more]; omega)), hm.out.trans (hstep.out.trans (by simp))⟩
        case measure => simp [RowKit.intOf]; omega
      · go_ret
        exact ⟨ret_int (hm.out.trans (hstep.out.trans (by simp))).symm, by repeat' (first | exact Below.refl _ _ | assumption | refine Below.more ?_ ?_ _ | refine Below.alloc ?_ ?_ _ | refine Below.drew ?_ | refine below_drewN ?_ _ | refine Below.setCell ?_ ?_ _ | exact Below.size (by assumption) | (simp [go_sem, size_more]; done) | (simp [go_sem, size_more]; omega))⟩
    · go_wp2
      go_ret
      refine ⟨ret_int ?_, by repeat' (first | exact Below.refl _ _ | assumption | refine Below.more ?_ ?_ _ | refine Below.alloc ?_ ?_ _ | refine Below.drew ?_ | refine below_drewN ?_ _ | refine Below.setCell ?_ ?_ _ | exact Below.size (by assumption) | (simp [go_sem, size_more]; done) | (simp [go_sem, size_more]; omega))⟩
      rw [hm.out, List.drop_eq_nil_of_le (by omega)]; rfl

set_option maxHeartbeats 400000 in
theorem containsSts (g : Nat) (lb : Array Value) (eg : ∀ args w, (callFunc g args).run Tryz.prog w = .ok (.enter g args) w) (p : St → Bool) (xs : List St) (v : Value) (w : World)
    (hv : IsSts w v xs) (hp : PredOn Tryz.prog g lb vSt p xs w) :
    Calls Tryz.prog 103 #[v, .func (.func g) #[] lb] w fun e w' => e = .returned (.bool (xs.any p)) ∧ Below w.heap.size w w' := by
  go_enter Tryz.func103, Tryz.ntmps103
  go_wp2_with fail
  refine Calls.to (indexSts g lb eg p xs v w hv hp) ?_
  rintro e w1 rfl hb
  go_wp2_with fail
  go_ret
  exact ⟨ret_bool (idxFrom_any p xs 0), hb⟩


/-- IsC of a part of a state in a later world. -/
theorem gInts.later {W W' : World} {s : Sl Int} (h : gInts W s) (hb : Below W.heap.size W W') : gInts W' s := rdInts.mono h hb

end Go.Proofs.YtoiakijmbghhlaaGreat
