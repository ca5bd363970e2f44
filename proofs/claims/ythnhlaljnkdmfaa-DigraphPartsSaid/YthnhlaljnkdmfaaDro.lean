/- The reference's least order and depths. Conditions: the edges lie among the nodes. -/
import Derived.Test.YthnhlaljnkdmfaaDgx
namespace Go.Proofs.Ythnhlaljnkdmfaa
open Go.RowKit
set_option linter.unusedVariables false
set_option linter.unusedSimpArgs false

theorem Own.setb {base : Nat} {e : TypeId} {w : World} {g n c : Nat} {xs : List Bool} (h : Own base e eBool 1 w (.slice (some ⟨g, 0, none⟩) n c) xs) (i : Nat) (hi : i < xs.length) (y : Bool) :
    Own base e eBool 1 (w.setCell ⟨g, i, none⟩ (.bool y)) (.slice (some ⟨g, 0, none⟩) n c) (xs.set i y) := by
  have := Own.store (enc := eBool) (k := 1) (fun _ => rfl) h i 0 hi Nat.zero_lt_one (.bool y) y rfl
  simpa using this
theorem Own.boolAt {base : Nat} {e : TypeId} {w : World} {g n c : Nat} {xs : List Bool} (h : Own base e eBool 1 w (.slice (some ⟨g, 0, none⟩) n c) xs) (i : Nat) (hi : i < xs.length) : w.cell? ⟨g, i, none⟩ = some (.bool xs[i]) := by
  have := Own.cellAt' (enc := eBool) (k := 1) (fun _ => rfl) h i 0 hi Nat.zero_lt_one
  simpa using this
/-- Which nodes are in the list. -/
def inL (n : Nat) (out : List Nat) : List Bool := (List.range n).map fun x => out.contains x
theorem inL_len (n : Nat) (out : List Nat) : (inL n out).length = n := by simp [inL]
theorem inL_get {n : Nat} {out : List Nat} {x : Nat} (hx : x < (inL n out).length) : (inL n out)[x] = out.contains x := by simp [inL]
theorem inL_nil (n : Nat) : inL n [] = List.replicate n false := by
  unfold inL
  apply List.ext_getElem
  · simp
  · intro i h1 h2; simp
theorem inL_snoc (n : Nat) (out : List Nat) (x : Nat) : (inL n out).set x true = inL n (out ++ [x]) := by
  apply List.ext_getElem
  · simp [inL]
  · intro i h1 h2
    by_cases hx : x = i
    · subst hx
      rw [List.getElem_set_self, inL_get]
      simp
    · rw [List.getElem_set_ne hx, inL_get, inL_get]
      have : ¬ i = x := fun e => hx e.symm
      simp [this]
/-- Whether the edges say that a node is next. -/
def rdyE (out : List Nat) (v : Nat) (E : Gp.Gr) : Bool := E.all fun e => !(e.2 == v) || out.contains e.1
theorem rdyE_snoc {out : List Nat} {v : Nat} {E : Gp.Gr} {k : Nat} (hk : k < E.length) : rdyE out v (E.take (k + 1)) = (rdyE out v (E.take k) && (!((E[k]).2 == v) || out.contains (E[k]).1)) := by
  unfold rdyE
  rw [List.take_succ_eq_append_getElem hk, List.all_append]
  simp
theorem nextV_of {n : Nat} {E : Gp.Gr} {out : List Nat} {v : Nat} (hv : v < n) (h1 : ∀ x, x < v → Gp.rdyB E out x = false) (h2 : Gp.rdyB E out v = true) : Gp.nextV n E out = some v := by
  refine Gp.find_least (Gp.range_asc n) (List.mem_range.2 hv) h2 (fun x _ hx => ?_)
  rcases Nat.lt_or_ge x v with h | h
  · rw [h1 x h] at hx; cases hx
  · exact h
theorem nextV_no {n : Nat} {E : Gp.Gr} {out : List Nat} (h1 : ∀ x, x < n → Gp.rdyB E out x = false) : Gp.nextV n E out = none := by
  unfold Gp.nextV
  rw [List.find?_eq_none]
  intro x hx hp
  rw [h1 x (List.mem_range.1 hx)] at hp; cases hp

set_option maxRecDepth 100000 in
set_option maxHeartbeats 8000000 in
theorem r8order_any (n : Nat) (E : List (Nat × Nat)) (v : Value) (w : World) (hE : IsEds w v E) (hv : Gp.vtx n E) (hn : n ≤ 300) (hl : E.length ≤ 1000) :
    Calls Try.prog 17 #[.int .i64 n, v] w fun e w' => (∃ u b, e = .returned (.tuple #[u, .bool b]) ∧ (((Gp.ordL n E).length = n ∧ b = true ∧ Own w.heap.size 3 eNat 1 w' u (Gp.ordL n E)) ∨ ((Gp.ordL n E).length < n ∧ b = false ∧ u = .slice none 0 0))) ∧ Below w.heap.size w w' := by
  obtain ⟨a, cap, rfl, hcap, hbig, hs⟩ := hE
  have hll : n < 2147483648 := by omega
  go_enter Try.func17, Try.ntmps17
  go_wp2_with (refine wpList_mk _ rfl _ _ 39 rfl w.heap.size 4 _ 1 undBools infBool eBool false rfl rfl _ _ n rfl rfl rfl rfl hll (by omega) (Nat.le_refl _) ?_; intro w1 hown1 hb1 hlt1)
  rw [← inL_nil] at hown1
  go_loopw [7] (fun s7 wr => ∃ (out : List Nat), Own (w.heap.size + 1) 3 eNat 1 wr s7 out ∧ Own w.heap.size 4 eBool 1 wr (.slice (some ⟨w.heap.size, 0, none⟩) n n) (inL n out) ∧ Below w.heap.size w wr ∧ w.heap.size < wr.heap.size ∧ Hid (Gp.OInv n E out) ∧ Hid (Gp.ordF n E n out = Gp.ordL n E)) (fun s7 _ => n - vLen s7)
  case atStart => exact ⟨[], World.ownsRow_nil _ _ _ _, hown1, hb1, hlt1, Lib.hid (Gp.OInv.nil n E), rfl⟩
  clear hown1 hb1 hlt1
  case round =>
    obtain ⟨out, HU, HO, hb, hlt, HI, HF⟩ := hrel
    obtain ⟨oa, oc, rfl⟩ := HU.isSlice
    have hol := HI.out.len
    by_cases hon : out.length < n
    · have hg1 : decide (out.length < n) = true := decide_eq_true hon
      have hg2 : decide ((out.length : Int) < n) = true := decide_eq_true (by omega)
      go_wp2_with fail
      go_loopw [8, 9] (fun s8 s9 wx => wx = wr ∧ ∃ (x : Nat) (z : Int), x ≤ n ∧ s9 = .int .i64 x ∧ s8 = .int .i64 z ∧ ((z = -1 ∧ Hid (∀ y, y < x → Gp.rdyB E out y = false)) ∨ (∃ f : Nat, z = f ∧ Hid (Gp.nextV n E out = some f)))) (fun _ s9 _ => n - (intOf s9).toNat)
      case atStart => exact ⟨rfl, 0, -1, Nat.zero_le _, rfl, rfl, .inl ⟨rfl, Lib.hid (fun y hy => absurd hy (Nat.not_lt_zero _))⟩⟩
      case round =>
        obtain ⟨rfl, x, z, hx, rfl, rfl, hz⟩ := hrel
        rcases hz with ⟨rfl, hno⟩ | ⟨f, rfl, hf⟩
        · by_cases hxn : x < n
          · have hxi : x < (inL n out).length := by rw [inL_len]; exact hxn
            have c1 := HO.boolAt x hxi
            rw [inL_get] at c1
            have x8 : IntKind.i64.wrap ((x : Int) + 1) = x + 1 := IntWalk.i64_in _ (by omega)
            have hxn1 : decide (x < n) = true := decide_eq_true hxn
            cases hd : out.contains x
            · rw [hd] at c1
              go_wp2_with fail
              go_loopw [10, 11] (fun s10 s11 wx => wx = wr ∧ ∃ (k : Nat), k ≤ E.length ∧ s11 = .int .i64 k ∧ s10 = .bool (rdyE out x (E.take k))) (fun _ s11 _ => E.length - (intOf s11).toNat)
              case atStart => exact ⟨rfl, 0, Nat.zero_le _, rfl, by rw [List.take_zero]; rfl⟩
              case round =>
                obtain ⟨rfl, k, hk, rfl, rfl⟩ := hrel
                by_cases hkl : k < E.length
                · obtain ⟨eb, eo, rfl, c2, c3⟩ := (hs.mono hb).ed k hkl
                  have he1 : (E[k]).1 < n := (hv _ (List.getElem_mem hkl)).1
                  have he1' : (E[k]).1 < (inL n out).length := by rw [inL_len]; exact he1
                  have c4 := HO.boolAt (E[k]).1 he1'
                  rw [inL_get] at c4
                  have hst := Lib.hid (rdyE_snoc (out := out) (v := x) hkl)
                  have x9 : IntKind.i64.wrap ((k : Int) + 1) = k + 1 := IntWalk.i64_in _ (by omega)
                  generalize rdyE out x (E.take k) = rb at *
                  obtain ⟨p, hp⟩ : ∃ p, p = (E[k]).1 := ⟨_, rfl⟩
                  obtain ⟨q, hq⟩ : ∃ q, q = (E[k]).2 := ⟨_, rfl⟩
                  rw [← hp] at c2 c4 hst he1
                  rw [← hq] at c3 hst
                  clear hp hq he1'
                  generalize hcp : out.contains p = cp at *
                  by_cases hqx : q = x
                  · subst hqx
                    have hqq : (q == q) = true := by simp
                    rw [hqq] at hst
                    cases cp
                    all_goals
                      go_wp2_with fail
                      go_roundw
                      case measure => simp [intOf]; omega
                      case rel => exact ⟨trivial, k + 1, by omega, by go_num, by rw [hst.out]; simp⟩
                  · have hq1 : (q == x) = false := by simpa using hqx
                    have hq2 : ((q : Int) == (x : Int)) = false := by rw [beq_eq_false_iff_ne]; omega
                    rw [hq1] at hst
                    go_wp2_with fail
                    go_roundw
                    case measure => simp [intOf]; omega
                    case rel => exact ⟨trivial, k + 1, by omega, by go_num, by rw [hst.out]; simp⟩
                · obtain rfl : k = E.length := by omega
                  rw [List.take_length]
                  have hrd : Hid (Gp.rdyB E out x = rdyE out x E) := Lib.hid (by
                    unfold Gp.rdyB rdyE; rw [hd]; rfl)
                  generalize rdyE out x E = rb at *
                  cases rb
                  · have hno2 : Hid (∀ y, y < x + 1 → Gp.rdyB E out y = false) := Lib.hid (fun y hy => by
                      rcases Nat.lt_or_ge y x with h | h
                      · exact hno.out y h
                      · obtain rfl : y = x := by omega
                        exact hrd.out)
                    go_wp2_with fail
                    go_roundw
                    case measure => simp [intOf]; omega
                    case rel => exact ⟨trivial, x + 1, -1, by omega, by go_num, rfl, .inl ⟨rfl, hno2⟩⟩
                  · have hyes := Lib.hid (nextV_of hxn hno.out hrd.out)
                    go_wp2_with fail
                    go_roundw
                    case measure => simp [intOf]; omega
                    case rel => exact ⟨trivial, x + 1, x, by omega, by go_num, rfl, .inr ⟨x, rfl, hyes⟩⟩
            · rw [hd] at c1
              have hno2 : Hid (∀ y, y < x + 1 → Gp.rdyB E out y = false) := Lib.hid (fun y hy => by
                rcases Nat.lt_or_ge y x with h | h
                · exact hno.out y h
                · obtain rfl : y = x := by omega
                  unfold Gp.rdyB; rw [hd]; rfl)
              go_wp2_with fail
              go_roundw
              case measure => simp [intOf]; omega
              case rel => exact ⟨trivial, x + 1, -1, by omega, by go_num, rfl, .inl ⟨rfl, hno2⟩⟩
          · have hxn1 : decide (x < n) = false := decide_eq_false hxn
            have hxe : x = n := by omega
            subst hxe
            have hnn := nextV_no hno.out
            have hfin : Hid (out = Gp.ordL x E) := Lib.hid ((ordF_none hnn x).symm.trans HF.out)
            have hon2 := Lib.hid hon
            clear hnn hon hg1 hg2
            go_wp2_with fail
            go_ret2
            rw [← hfin.out]
            exact ⟨⟨_, _, rfl, .inr ⟨hon2.out, rfl, rfl⟩⟩, hb⟩
        · obtain ⟨hfn, hfr⟩ := Gp.nextV_some hf.out
          have hf0 : decide ((f : Int) < 0) = false := decide_eq_false (by omega)
          have hfi : f < (inL n out).length := by rw [inL_len]; exact hfn
          have c1 := HO.boolAt f hfi
          have f1 : wr.frozen? ⟨w.heap.size, f, none⟩ = false := Own.free HO _
          have hOs := HO.setb f hfi true
          rw [inL_snoc] at hOs
          have hU1 := HU.set' ⟨w.heap.size, f, none⟩ (.bool true) (fun e => by have := (HU.lt _ e).1; simp only at this; omega)
          have hb1 := hb.setCell (p := ⟨w.heap.size, f, none⟩) (Nat.le_refl w.heap.size) (.bool true)
          have hs1 : w.heap.size + 1 ≤ (wr.setCell ⟨w.heap.size, f, none⟩ (.bool true)).heap.size := by simp [World.setCell]; omega
          have hI2 := Lib.hid (HI.out.snoc hfn hfr)
          have hF2 : Hid (Gp.ordF n E n (out ++ [f]) = Gp.ordL n E) := Lib.hid ((Gp.ordL_step n HI.out (by omega) hf.out).symm.trans HF.out)
          have hol2 : out.length < 2147483648 := by omega
          generalize (inL n out)[f] = cb at *
          clear HO HU hb hfr
          by_cases hxn : x < n
          all_goals
            have hxn1 : decide (x < n) = decide (x < n) := rfl
            go_wp2_with (at_builtin; go_must (refine wpList_pushR rfl _ _ 25 rfl 3 _ 1 8 undInts infInt rfl (by decide) f (fun _ => rfl) (by simp [Value.oneCell']) _ out rfl hU1 wr.heap.size rfl (by simp [World.setCell]) hol2 (by decide) hs1 _ rfl ?_); intro g5 cap5 w5 hR5)
            have HU5 := hR5.own
            have HO5 := hR5.other hOs (fun g hg e => by simp only [Value.ownBlock, Option.some.injEq] at hg; have h2 := (hU1.lt g e).1; omega)
            have hb5 := hb1.trans ((hR5.below hU1 hs1).mono (by omega))
            have hl5 : w.heap.size < w5.heap.size := by have := hR5.grown.size; omega
            clear hR5 hU1 hOs hb1 hs1 c1 f1
            go_wp2_with fail
            go_roundw
            case measure => simp [vLen]; omega
            case rel =>
              refine ⟨out ++ [f], ?_, HO5, hb5, hl5, hI2, hF2⟩
              simpa using HU5
    · have hg1 : decide (out.length < n) = false := decide_eq_false hon
      have hg2 : decide ((out.length : Int) < n) = false := decide_eq_false (by omega)
      have hfin : Hid (out = Gp.ordL n E) := Lib.hid (by
        rw [← HF.out]
        have hnn : Gp.nextV n E out = none := by
          cases hh : Gp.nextV n E out with
          | none => rfl
          | some x => exact absurd (HI.out.next_len hh) hon
        exact (ordF_none hnn n).symm)
      have hOb := HU.base (base' := w.heap.size) (by omega)
      have hon2 := Lib.hid hon
      have hol2 := Lib.hid hol
      clear hon hol
      go_wp2_with fail
      go_ret2
      rw [← hfin.out]
      exact ⟨⟨_, _, rfl, .inl ⟨by have := hon2.out; have := hol2.out; omega, rfl, hOb⟩⟩, hb⟩

end Go.Proofs.Ythnhlaljnkdmfaa
