/- Sets of strings (maps to bools). No function of the program is named. Conditions: none. | catalogue.Valid. Conditions: the sections read as data. -/
import Derived.Test.YtoiakijmbghhlaaGreatMPa
import Derived.StringKeys
import Derived.Test.YtoiakijmbghhlaaGreatYba
namespace Go.Proofs.YtoiakijmbghhlaaGreat
open Go.RowKit Go.Maps
set_option linter.unusedVariables false
set_option linter.unusedSimpArgs false

abbrev kS (s : ByteArray) : Lit := .string s.data.toList
theorem kS_inj {s t : ByteArray} (h : kS s = kS t) : s = t := by
  have h1 : s.data.toList = t.data.toList := by injection h
  cases s; cases t
  simp only at h1
  congr 1
  exact Array.ext' h1
theorem keyLitS (s : ByteArray) : WideAt.IsKeyLit (kS s) := trivial
theorem undS : Tryz.prog.underlying 9 = some .string := by kernel_rfl
theorem kStr : Keyed Tryz.prog 9 := string_keyed undS
theorem keyS {s : ByteArray} (h : s.size ≤ maxLen) : keyOf Tryz.prog 9 (.string s) = some (kS s) := WideMaps.keyOf_string_mk undS h
theorem undMSB : Tryz.prog.underlying 206 = some (.map 9 4) := by kernel_rfl
theorem zeroB (w : World) : (zeroValue 4).run Tryz.prog w = .ok (.bool false) w := by kernel_rfl
theorem plainElem_bool_inv {H : Type} {v : Value} {z : DataW H × List MemPlace} (h : plainElem Tryz.prog 4 v = some z) : ∃ c, v = .bool c ∧ z = (.lit (.bool c), []) := by
  unfold plainElem at h
  rw [undB] at h
  cases v <;> simp at h
  exact ⟨_, rfl, h.symm⟩

/-- Block b is a set of strings with at most n entries; s says which. -/
def SetS (w : World) (b n : Nat) (s : ByteArray → Prop) : Prop :=
  ∃ D : DataW Unit, w.ownsMap Tryz.prog 9 elB b n D ∧ (∀ k, Maps.has D (kS k) = true ↔ s k) ∧ ∀ kl, Maps.has D kl = true → D.atKey kl (.lit (.bool false)) = .lit (.bool true)
theorem SetS.below {w w' : World} {b n : Nat} {s : ByteArray → Prop} (h : SetS w b n s) (hb : Below w.heap.size w w') : SetS w' b n s := by
  obtain ⟨D, h1, h2⟩ := h
  exact ⟨D, h1.kept (grown_none hb none) (by simp), h2⟩
theorem SetS.made (w : World) : SetS (w.alloc (.map #[] 0)) w.heap.size 0 (fun _ => False) :=
  ⟨.map [], World.ownsMap_made _ _ _ _, fun k => by simp [Maps.has], fun kl h => by simp [Maps.has] at h⟩
theorem SetS.iff {w : World} {b n : Nat} {s s' : ByteArray → Prop} (h : SetS w b n s) (he : ∀ k, s k ↔ s' k) : SetS w b n s' := by
  obtain ⟨D, h1, h2, h3⟩ := h
  exact ⟨D, h1, fun k => (h2 k).trans (he k), h3⟩
theorem SetS.put {w' : World} {b n : Nat} {s : ByteArray → Prop} {D : DataW Unit} {k : ByteArray} (hm : IsMap D) (h2 : (∀ k, Maps.has D (kS k) = true ↔ s k) ∧ ∀ kl, Maps.has D kl = true → D.atKey kl (.lit (.bool false)) = .lit (.bool true))
    (h1 : w'.ownsMap Tryz.prog 9 elB b (n + 1) (D.put (kS k) (.lit (.bool true)))) : SetS w' b (n + 1) (fun j => s j ∨ j = k) := by
  refine ⟨_, h1, fun j => ?_, fun kl h => ?_⟩
  · by_cases hj : j = k
    · subst hj
      simp [has_put_same hm (keyLitS j)]
    · have hne : kS j ≠ kS k := fun e => hj (kS_inj e)
      rw [has_put_other hne, h2.1 j]
      simp [hj]
  · by_cases hkl : kl = kS k
    · subst hkl
      rw [atKey_put_same hm (keyLitS k)]
    · rw [has_put_other hkl] at h
      rw [atKey_put_other hkl]
      exact h2.2 kl h
/-- 'm[k]'. -/
theorem SetS.look {w : World} {b n : Nat} {s : ByteArray → Prop} (h : SetS w b n s) {k : ByteArray} (hk : k.size ≤ maxLen) (c : Bool) (hc : c = true ↔ s k) :
    (Instr.lookup 206 (.map (some b)) (.string k) false).run Tryz.prog w = .ok (.bool c) w := by
  obtain ⟨D, hD, hf, ht⟩ := h
  obtain ⟨v, ps, hrun, hv⟩ := hD.lookup kStr undMSB (zeroB w) (zd := .lit (.bool false)) (zp := []) (plainElem_bool undB false) (keyS hk)
  obtain ⟨c', rfl, hc'⟩ := plainElem_bool_inv hv
  rw [hrun]
  have hc' := congrArg Prod.fst hc'
  simp only at hc'
  suffices c' = c by rw [this]
  cases hh : Maps.has D (kS k)
  · rw [atKey_of_not_has hh] at hc'
    have h1 : ¬ s k := fun h => by rw [(hf k).2 h] at hh; cases hh
    have h2 : c = false := by
      cases c
      · rfl
      · exact absurd (hc.1 rfl) h1
    rw [h2]
    simpa using hc'.symm
  · rw [ht _ hh] at hc'
    have h2 : c = true := hc.2 ((hf k).1 hh)
    rw [h2]
    simpa using hc'.symm

end Go.Proofs.YtoiakijmbghhlaaGreat

namespace Go.Proofs.YtoiakijmbghhlaaGreat
open Go.RowKit
set_option linter.unusedVariables false
set_option linter.unusedSimpArgs false

def IsSecs (w : World) (v : Value) (ss : List SecD) : Prop := IsL eSec 5 w v ss ∧ ∀ s ∈ ss, IsSec w s
theorem IsSecs.mono {w w' : World} {v : Value} {ss : List SecD} (h : IsSecs w v ss) (hb : Below w.heap.size w w') : IsSecs w' v ss := ⟨h.1.mono hb, fun s hs => (h.2 s hs).mono hb⟩
theorem IsC.sec {w : World} {a : Option Addr} {xs : List SecD} (h : IsC eSec 5 w a xs) (i : Nat) (hi : i < xs.length) :
    ∃ b off, a = some ⟨b, off, none⟩ ∧ w.cell? ⟨b, off + i * 5, none⟩ = some (.string xs[i].N) ∧ w.cell? ⟨b, off + i * 5 + 1, none⟩ = some (.int .i64 xs[i].Ht) ∧ w.cell? ⟨b, off + i * 5 + 2, none⟩ = some (.int .i64 xs[i].Pr) ∧
      w.cell? ⟨b, off + i * 5 + 3, none⟩ = some (.slice xs[i].A.a xs[i].A.xs.length xs[i].A.cap) ∧ w.cell? ⟨b, off + i * 5 + 4, none⟩ = some (.slice xs[i].B.a xs[i].B.xs.length xs[i].B.cap) := by
  obtain ⟨b, off, e, hc⟩ := h i hi
  refine ⟨b, off, e, ?_, ?_, ?_, ?_, ?_⟩
  · exact hc 0 (by omega)
  · exact hc 1 (by omega)
  · exact hc 2 (by omega)
  · exact hc 3 (by omega)
  · exact hc 4 (by omega)
def nameIn (ss : List SecD) (x : ByteArray) : Prop := ∃ s ∈ ss, s.N = x
instance (ss : List SecD) (x : ByteArray) : Decidable (nameIn ss x) := inferInstanceAs (Decidable (∃ s ∈ ss, s.N = x))
def catE (ss : List SecD) (k : Nat) : Bool :=
  match ss[k]? with
  | none => false
  | some s => secB s && !decide (nameIn (ss.take k) s.N)
def catB (ss : List SecD) : Bool := decide (ss.length ≤ 40) && allFrom (catE ss) 0 ss.length

set_option maxRecDepth 100000 in
set_option maxHeartbeats 8000000 in
theorem catvalid_any (ss : List SecD) (v : Value) (w : World) (hv : IsSecs w v ss) :
    Calls Tryz.prog 53 #[v] w fun e w' => e = .returned (.bool (catB ss)) ∧ Below w.heap.size w w' := by
  have hmm := @run_makeMap Tryz.prog
  have HV := Lib.hid hv.2
  obtain ⟨⟨a, cap, rfl, -, -, hC⟩, -⟩ := hv
  have HC := Lib.hid hC
  obtain ⟨res, hres⟩ : ∃ res, res = catB ss := ⟨_, rfl⟩
  rw [← hres]
  unfold catB at hres
  obtain ⟨n, hn⟩ : ∃ n, n = ss.length := ⟨_, rfl⟩
  have HN := Lib.hid hn
  rw [← hn] at hres ⊢
  clear hn hC
  by_cases h40 : n ≤ 40
  rotate_left
  · have HF : Hid (res = false) := Lib.hid (by rw [hres, decide_eq_false h40]; rfl)
    have i1 : decide ((40 : Int) < n) = true := decide_eq_true (by omega)
    have i2 : decide (40 < n) = true := decide_eq_true (by omega)
    clear hres h40
    go_enter Tryz.func53, Tryz.ntmps53
    go_wp2_with fail
    go_ret
    exact ⟨ret_bool HF.out.symm, by repeat' (first | exact Below.refl _ _ | assumption | refine Below.more ?_ ?_ _ | refine Below.alloc ?_ ?_ _ | refine Below.drew ?_ | refine below_drewN ?_ _ | refine Below.setCell ?_ ?_ _ | exact Below.size (by assumption) | (simp [go_sem, size_more]; done) | (simp [go_sem, size_more]; omega))⟩
  have HR : Hid (res = allFrom (catE ss) 0 n) := Lib.hid (by rw [hres, decide_eq_true h40]; rfl)
  have i1 : decide ((40 : Int) < n) = false := decide_eq_false (by omega)
  have i2 : decide (40 < n) = false := decide_eq_false (by omega)
  have hb0 : Below w.heap.size w (w.alloc (.map #[] 0)) := (Below.refl _ _).alloc (Nat.le_refl _) _
  have HS0 : Hid (SetS (w.alloc (.map #[] 0)) w.heap.size 0 (nameIn (ss.take 0))) := Lib.hid ((SetS.made w).iff (fun x => ⟨fun h => h.elim, fun h => by obtain ⟨s, hs, _⟩ := h; simp at hs⟩))
  clear hres
  go_enter Tryz.func53, Tryz.ntmps53
  go_wp2_with fail
  clear i1 i2
  go_loopw [12] (fun s12 wr => ∃ k : Nat, k ≤ n ∧ s12 = .int .i64 k ∧ Below w.heap.size w wr ∧ Hid (SetS wr w.heap.size k (nameIn (ss.take k))) ∧ Hid (res = allFrom (catE ss) k n)) (fun s12 _ => n - (RowKit.intOf s12).toNat)
  case atStart => exact ⟨0, Nat.zero_le _, rfl, hb0, HS0, HR⟩
  case round =>
    obtain ⟨k, hk, rfl, hb, hS, hr⟩ := hrel
    by_cases hkn : k < n
    · have hks : k < ss.length := by rw [← HN.out]; exact hkn
      obtain ⟨b, off, rfl, d0, d1, d2, d3, d4⟩ := (HC.out.mono hb).sec k hks
      have hsec := (HV.out _ (List.getElem_mem hks)).mono hb
      have hstep := allFrom_step (catE ss) hkn
      have hce : catE ss k = (secB ss[k] && !decide (nameIn (ss.take k) ss[k].N)) := by unfold catE; rw [List.getElem?_eq_getElem hks]
      have htk : ss.take (k + 1) = ss.take k ++ [ss[k]] := List.take_succ_eq_append_getElem hks
      obtain ⟨s, hs⟩ : ∃ s, s = ss[k] := ⟨_, rfl⟩
      rw [← hs] at d0 d1 d2 d3 d4 hsec hce htk
      rw [hstep, hce] at hr
      have HRR := Lib.hid hr
      have HTK := Lib.hid htk
      have hbA : Below wr.heap.size wr (wr.alloc (.cells (eSec s).toArray 102)) := (Below.refl _ _).alloc (Nat.le_refl _) _
      have hb3 := hb.trans (hbA.mono hb.size)
      have HSA := Lib.hid (hS.out.below hbA)
      obtain ⟨c0, c1, c2, c3, c4⟩ := boxSec wr (wr.alloc (.cells (eSec s).toArray 102)) 102 s _ rfl _ rfl (Below.refl _ _)
      have hsv := secvalid_any s _ (hsec.mono hbA)
      have HNS := Lib.hid hsec.n
      have hsz := hb.size
      obtain ⟨W, hW⟩ : ∃ W, W = wr.alloc (.cells (eSec s).toArray 102) := ⟨_, rfl⟩
      have HW := Lib.hid hW
      rw [← hW] at hb3 HSA c0 c1 c2 c3 c4 hsv
      have i1 : decide (k < n) = true := decide_eq_true hkn
      have x7 : IntKind.i64.wrap ((k : Int) + 1) = k + 1 := IntWalk.i64_in _ (by omega)
      have i4 : (0 : Int) ≤ k := by omega
      have i5 : (k : Int) < n := by omega
      have HKN := Lib.hid hkn
      clear hs hstep hce htk hr hbA hsec hW hS hb
      obtain ⟨wo, hwo⟩ : ∃ wo, wo = wr := ⟨_, rfl⟩
      subst hwo
      simp only [vSec, vSl] at hsv
      go_upto_region 7 with (fail)
      rw [← HW.out]
      clear HW d0 d1 d2 d3 d4
      go_wp2_with fail
      refine Calls.to hsv ?_
      rintro e w4 rfl hb4
      have hb5 := hb3.trans (hb4.mono hb3.size)
      have HS4 := Lib.hid (HSA.out.below hb4)
      have c0 := cel_lt c0 hb4
      clear c1 c2 c3 c4 hsv hb4 hb3
      cases hsb : secB s
      · have HF : Hid (res = false) := Lib.hid (by rw [HRR.out, hsb]; rfl)
        clear hsb
        go_wp2_with fail
        go_ret
        exact ⟨ret_bool HF.out.symm, hb5⟩
      by_cases hin : nameIn (ss.take k) s.N
      · have HF : Hid (res = false) := Lib.hid (by rw [HRR.out, hsb, decide_eq_true hin]; rfl)
        have hlk := HS4.out.look HNS.out true (by simp [hin])
        clear hsb hin
        go_wp2_with fail
        go_ret
        exact ⟨ret_bool HF.out.symm, hb5⟩
      · have hlk := HS4.out.look HNS.out false (by simp [hin])
        have hm2 : Hid (res = allFrom (catE ss) (k + 1) n) := Lib.hid (by rw [HRR.out, hsb, decide_eq_false hin]; rfl)
        obtain ⟨D, hD, hDs⟩ := HS4.out
        have hkey := keyS HNS.out
        have hnm : k < maxLen := by simp only [maxLen]; omega
        clear hsb hin
        go_wp2_with (at_mapUpdate; refine wpList_mapUpdate_own _ rfl _ _ _ 206 rfl 9 4 kStr undMSB elB w.heap.size k D rfl hD hnm _ _ _ rfl rfl hkey (.lit (.bool true)) [] (plainElem_bool undB true) ?_; intro w5 hown5 hgrow5)
        have hb6 := hb5.grown hgrow5 hb5.size (fun q hq => by cases hq; exact Nat.le_refl _)
        have hS5 := SetS.put hD.isMap hDs hown5
        clear hown5 hgrow5 hD hDs hkey
        go_wp2_with fail
        go_roundw
        case measure => simp [RowKit.intOf, x7]; omega
        case rel => exact ⟨k + 1, by omega, by go_num, hb6, Lib.hid (hS5.iff (fun x => by
          rw [HTK.out]
          unfold nameIn
          simp only [List.mem_append, List.mem_singleton]
          constructor
          · rintro (⟨t, ht, he⟩ | rfl)
            · exact ⟨t, .inl ht, he⟩
            · exact ⟨s, .inr rfl, rfl⟩
          · rintro ⟨t, ht | rfl, he⟩
            · exact .inl ⟨t, ht, he⟩
            · exact .inr he.symm)), hm2⟩
    · have i1 : decide (k < n) = false := decide_eq_false hkn
      have HF : Hid (res = true) := Lib.hid (by rw [hr.out, allFrom_end _ (by omega)])
      clear hr hS
      go_wp2_with fail
      go_ret
      exact ⟨ret_bool HF.out.symm, hb⟩

end Go.Proofs.YtoiakijmbghhlaaGreat
