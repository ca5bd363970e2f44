/- Trees: digraph.Tree, the reference's Tree. Conditions: the edges read as data. -/
import Derived.Test.YthnhlaljnkdmfaaDrj
namespace Go.Proofs.Ythnhlaljnkdmfaa
open Go.RowKit
set_option linter.unusedVariables false
set_option linter.unusedSimpArgs false

def srcs (E : List (Nat × Nat)) : List Nat := E.map (·.1)
def treeB (n : Nat) (E : List (Nat × Nat)) : Bool := decide (srcs E).Nodup && decide ((Gp.ordL n E).length = n)
theorem srcs_take {E : List (Nat × Nat)} {k : Nat} (hk : k < E.length) : srcs (E.take (k + 1)) = srcs (E.take k) ++ [(E[k]).1] := by
  unfold srcs
  rw [List.take_succ_eq_append_getElem hk, List.map_append]; rfl
theorem srcs_dup {E : List (Nat × Nat)} {k : Nat} (hk : k < E.length) (h : (E[k]).1 ∈ srcs (E.take k)) : ¬ (srcs E).Nodup := by
  intro hd
  have h1 : (srcs (E.take (k + 1))).Nodup := by
    unfold srcs at hd ⊢
    rw [List.map_take]
    exact (List.take_sublist _ _).nodup hd
  rw [srcs_take hk, List.nodup_append] at h1
  exact h1.2.2 _ h _ (List.mem_singleton.2 rfl) rfl

set_option maxRecDepth 100000 in
set_option maxHeartbeats 2000000 in
theorem tree_bad (n : Int) (E : List (Int × Int)) (v : Value) (w : World) (hE : IsEis w v E) (hbad : validB n E = false) :
    Calls Try.prog 25 #[.int .i64 n, v] w fun e w' => e = .returned (.bool false) ∧ Below w.heap.size w w' := by
  have hc := valid_any n E v w hE
  rw [hbad] at hc
  go_enter Try.func25, Try.ntmps25
  go_wp2_with fail
  refine Calls.to hc ?_
  rintro e w1 rfl hb
  go_wp2_with fail
  go_ret
  exact ⟨rfl, hb⟩
set_option maxRecDepth 100000 in
set_option maxHeartbeats 2000000 in
theorem r8tree_bad (n : Int) (E : List (Int × Int)) (v : Value) (w : World) (hE : IsEis w v E) (hbad : validB n E = false) :
    Calls Try.prog 26 #[.int .i64 n, v] w fun e w' => e = .returned (.bool false) ∧ Below w.heap.size w w' := by
  have hc := r8valid_any n E v w hE
  rw [hbad] at hc
  go_enter Try.func26, Try.ntmps26
  go_wp2_with fail
  refine Calls.to hc ?_
  rintro e w1 rfl hb
  go_wp2_with fail
  go_ret
  exact ⟨rfl, hb⟩

set_option maxRecDepth 100000 in
set_option maxHeartbeats 4000000 in
theorem tree_ok (n : Nat) (E : List (Nat × Nat)) (v : Value) (w : World) (hE : IsEds w v E) (hv : Gp.vtx n E) (hn : n ≤ 300) (hl : E.length ≤ 1000) :
    Calls Try.prog 25 #[.int .i64 n, v] w fun e w' => e = .returned (.bool (treeB n E)) ∧ Below w.heap.size w w' := by
  have hc := valid_any n (edI E) v w (isL_edI.2 hE)
  rw [validB_ok hv hn hl] at hc
  have hE0 := hE
  obtain ⟨ea, cap, rfl, hcap, hbig, hs⟩ := hE
  have hll : n < 2147483648 := by omega
  go_enter Try.func25, Try.ntmps25
  go_wp2_with fail
  refine Calls.to hc ?_
  rintro e w1 rfl hb1
  go_wp2_with (refine wpList_mk _ rfl _ _ 39 rfl w1.heap.size 4 _ 1 undBools infBool eBool false rfl rfl _ _ n rfl rfl rfl rfl hll (by omega) (Nat.le_refl _) ?_; intro w2 hown2 hb2 hlt2)
  rw [← inL_nil] at hown2
  go_loopw [16] (fun s16 wr => ∃ k : Nat, k ≤ E.length ∧ s16 = .int .i64 k ∧ Own w1.heap.size 4 eBool 1 wr (.slice (some ⟨w1.heap.size, 0, none⟩) n n) (inL n (srcs (E.take k))) ∧ Below w1.heap.size w1 wr ∧ w1.heap.size < wr.heap.size ∧ Hid ((srcs (E.take k)).Nodup)) (fun s16 _ => E.length - (intOf s16).toNat)
  case atStart => exact ⟨0, Nat.zero_le _, rfl, hown2, hb2, hlt2, Lib.hid (by simp [srcs])⟩
  clear hown2 hb2 hlt2
  case round =>
    obtain ⟨k, hk, rfl, HO, hb, hlt, HN⟩ := hrel
    have hbr := hb1.trans (hb.mono hb1.size)
    by_cases hkl : k < E.length
    · obtain ⟨eb, eo, rfl, c2, c3⟩ := (hs.mono hbr).ed k hkl
      have he1 : (E[k]).1 < n := (hv _ (List.getElem_mem hkl)).1
      have hpl : (E[k]).1 < (inL n (srcs (E.take k))).length := by rw [inL_len]; exact he1
      have hX := alloc_below wr (.cells #[.int .i64 ((E[k]).1 : Int), .int .i64 ((E[k]).2 : Int)] 35)
      have HOX := HO.below hX
      have hbX := hb.trans (hX.mono hb.size)
      have hlX : w1.heap.size < (wr.alloc (.cells #[.int .i64 ((E[k]).1 : Int), .int .i64 ((E[k]).2 : Int)] 35)).heap.size := by have := hX.size; omega
      have c4 := HOX.boolAt (E[k]).1 hpl
      rw [inL_get] at c4
      have hOs := (HO.setb (E[k]).1 hpl true).below (alloc_below _ (.cells #[.int .i64 ((E[k]).1 : Int), .int .i64 ((E[k]).2 : Int)] 35))
      rw [inL_snoc, ← srcs_take hkl] at hOs
      have d0 : (wr.alloc (.cells #[.int .i64 ((E[k]).1 : Int), .int .i64 ((E[k]).2 : Int)] 35)).cell? ⟨wr.heap.size, 0, none⟩ = some (.int .i64 ((E[k]).1 : Int)) := by simp [go_sem]
      have f4 : (wr.alloc (.cells #[.int .i64 ((E[k]).1 : Int), .int .i64 ((E[k]).2 : Int)] 35)).frozen? ⟨w1.heap.size, (E[k]).1, none⟩ = false := Own.free HOX _
      have hbs1 := hb.setCell (p := ⟨w1.heap.size, (E[k]).1, none⟩) (Nat.le_refl w1.heap.size) (.bool true)
      have hbs := hbs1.alloc hbs1.size (.cells #[.int .i64 ((E[k]).1 : Int), .int .i64 ((E[k]).2 : Int)] 35)
      have hls : w1.heap.size < ((wr.setCell ⟨w1.heap.size, (E[k]).1, none⟩ (.bool true)).alloc (.cells #[.int .i64 ((E[k]).1 : Int), .int .i64 ((E[k]).2 : Int)] 35)).heap.size := by simp [World.setCell]; omega
      clear hbs1
      have hyes : (srcs (E.take k)).contains (E[k]).1 = true → Hid (treeB n E = false) := fun h => Lib.hid (by
        have := srcs_dup hkl (List.contains_iff_mem.1 h)
        unfold treeB
        rw [decide_eq_false this]; rfl)
      have hno : (srcs (E.take k)).contains (E[k]).1 = false → Hid ((srcs (E.take (k + 1))).Nodup) := fun h => Lib.hid (by
        rw [srcs_take hkl]
        exact Gp.nodup_snoc HN.out (fun hm => by rw [List.contains_iff_mem.2 hm] at h; cases h))
      have x8 : IntKind.i64.wrap ((k : Int) + 1) = k + 1 := IntWalk.i64_in _ (by omega)
      have hst : ∀ W, Own w1.heap.size 4 eBool 1 W (.slice (some ⟨w1.heap.size, 0, none⟩) n n) (inL n (srcs (E.take (k + 1)))) → Own w1.heap.size 4 eBool 1 W (.slice (some ⟨w1.heap.size, 0, none⟩) n n) (inL n (srcs (E.take (k + 1)))) := fun _ h => h
      clear hst HO HN hX HOX hpl
      obtain ⟨p, hpe⟩ : ∃ p, p = (E[k]).1 := ⟨_, rfl⟩
      obtain ⟨q, hqe⟩ : ∃ q, q = (E[k]).2 := ⟨_, rfl⟩
      rw [← hpe] at c2 c4 hOs d0 f4 hbs hls hyes hno hbX hlX he1
      rw [← hqe] at c3 c4 hOs d0 f4 hbs hls hbX hlX
      clear hpe hqe
      cases hcc : (srcs (E.take k)).contains p
      · rw [hcc] at c4
        have hn2 := hno hcc
        clear hyes hno hcc hb hbX hlX
        go_wp2_with fail
        go_roundw
        case measure => simp [intOf]; omega
        case rel => exact ⟨k + 1, by omega, by go_num, hOs, hbs, hls, hn2⟩
      · rw [hcc] at c4
        have hn2 := hyes hcc
        have hbb := hb1.trans (hbX.mono hb1.size)
        clear hyes hno hcc hbs hls hOs
        go_wp2_with fail
        go_ret
        exact ⟨ret_bool hn2.out.symm, hbb⟩
    · obtain rfl : k = E.length := by omega
      rw [List.take_length] at HN
      have hE1 := hE0.mono hbr
      have hnd := HN.out
      clear HO
      go_wp2_with fail
      refine Calls.go hbr (order0_any n E _ wr hE1 hv (by omega) (by omega)) ?_
      rintro e w3 ⟨u, rfl, hO⟩ hb3 hbb3
      obtain ⟨oa, oc, rfl⟩ := hO.isSlice
      have hres : Hid (treeB n E = ((Gp.ordL n E).length == n)) := Lib.hid (by
        unfold treeB
        rw [decide_eq_true hnd, Bool.true_and]
        by_cases h : (Gp.ordL n E).length = n
        · rw [decide_eq_true h, h]; simp
        · rw [decide_eq_false h]; symm; simpa using h)
      generalize hL : (Gp.ordL n E).length = L at *
      by_cases h : L = n
      · have hr2 : Hid (treeB n E = true) := Lib.hid (by rw [hres.out, h]; simp)
        subst h
        clear hnd hL
        go_wp2_with fail
        go_ret
        exact ⟨ret_bool hr2.out.symm, hbb3⟩
      · have h1 : ((L : Int) == (n : Int)) = false := by rw [beq_eq_false_iff_ne]; omega
        have h2 : (L == n) = false := by simpa using h
        have hr2 : Hid (treeB n E = false) := Lib.hid (by rw [hres.out, h2])
        clear hnd hL
        go_wp2_with fail
        go_ret
        exact ⟨ret_bool hr2.out.symm, hbb3⟩

set_option maxRecDepth 100000 in
set_option maxHeartbeats 4000000 in
theorem r8tree_ok (n : Nat) (E : List (Nat × Nat)) (v : Value) (w : World) (hE : IsEds w v E) (hv : Gp.vtx n E) (hn : n ≤ 300) (hl : E.length ≤ 1000) :
    Calls Try.prog 26 #[.int .i64 n, v] w fun e w' => e = .returned (.bool (treeB n E)) ∧ Below w.heap.size w w' := by
  have hc := r8valid_any n (edI E) v w (isL_edI.2 hE)
  rw [validB_ok hv hn hl] at hc
  have hE0 := hE
  obtain ⟨ea, cap, rfl, hcap, hbig, hs⟩ := hE
  go_enter Try.func26, Try.ntmps26
  go_wp2_with fail
  refine Calls.to hc ?_
  rintro e w1 rfl hb1
  go_wp2_with fail
  go_loopw [5] (fun s5 wr => ∃ i : Nat, i ≤ E.length ∧ s5 = .int .i64 i ∧ Below w1.heap.size w1 wr ∧ Hid ((srcs (E.take i)).Nodup)) (fun s5 _ => E.length - (intOf s5).toNat)
  case atStart => exact ⟨0, Nat.zero_le _, rfl, Below.refl _ _, Lib.hid (by simp [srcs])⟩
  case round =>
    obtain ⟨i, hi, rfl, hb, HN⟩ := hrel
    have hbr := hb1.trans (hb.mono hb1.size)
    by_cases hil : i < E.length
    · have i3 : decide (i < E.length) = true := decide_eq_true hil
      have x7 : IntKind.i64.wrap ((i : Int) + 1) = i + 1 := IntWalk.i64_in _ (by omega)
      obtain ⟨w5, hw5⟩ : ∃ w5, w5 = wr := ⟨_, rfl⟩
      subst hw5
      go_wp2_with fail
      go_loopw [6] (fun s6 wx => ∃ k : Nat, k ≤ i ∧ s6 = .int .i64 k ∧ Below w5.heap.size w5 wx ∧ Hid (∀ j (hj : j < k) (hjl : j < E.length), (E[j]).1 ≠ (E[i]).1)) (fun s6 _ => i - (intOf s6).toNat)
      case atStart => exact ⟨0, Nat.zero_le _, rfl, Below.refl _ _, Lib.hid (fun j hj => absurd hj (Nat.not_lt_zero _))⟩
      case round =>
        obtain ⟨k, hk, rfl, hbx, HJ⟩ := hrel
        have hbrx := hbr.trans (hbx.mono hbr.size)
        by_cases hki : k < i
        · have i4 : decide (k < i) = true := decide_eq_true hki
          have hkl : k < E.length := by omega
          obtain ⟨eb, eo, rfl, c2, _⟩ := (hs.mono hbrx).ed k hkl
          obtain ⟨eb', eo', he, c3, _⟩ := (hs.mono hbrx).ed i hil
          simp only [Option.some.injEq, Addr.mk.injEq] at he
          obtain ⟨rfl, rfl, _⟩ := he
          have j1 : (k : Int) < E.length := by omega
          have j2 : (i : Int) < E.length := by omega
          have j3 : (0 : Int) ≤ k := by omega
          have j4 : (0 : Int) ≤ i := by omega
          have x8 : IntKind.i64.wrap ((k : Int) + 1) = k + 1 := IntWalk.i64_in _ (by omega)
          have hyes : (E[k]).1 = (E[i]).1 → Hid (treeB n E = false) := fun h => Lib.hid (by
            have hm : (E[i]).1 ∈ srcs (E.take i) := by
              unfold srcs
              rw [List.mem_map]
              exact ⟨E[k], List.mem_take_iff_getElem.2 ⟨k, by omega, rfl⟩, h⟩
            have := srcs_dup hil hm
            unfold treeB
            rw [decide_eq_false this]; rfl)
          have hno : (E[k]).1 ≠ (E[i]).1 → Hid (∀ j (hj : j < k + 1) (hjl : j < E.length), (E[j]).1 ≠ (E[i]).1) := fun h => Lib.hid (fun j hj hjl => by
            rcases Nat.lt_or_ge j k with h1 | h1
            · exact HJ.out j h1 hjl
            · obtain rfl : j = k := by omega
              exact h)
          clear HJ
          obtain ⟨p, hpe⟩ : ∃ p, p = (E[k]).1 := ⟨_, rfl⟩
          obtain ⟨q, hqe⟩ : ∃ q, q = (E[i]).1 := ⟨_, rfl⟩
          rw [← hpe] at c2 hyes hno
          rw [← hqe] at c3 hyes
          have hno2 : p ≠ q → Hid (∀ j (hj : j < k + 1) (hjl : j < E.length), (E[j]).1 ≠ (E[i]).1) := fun h => hno (by rw [← hqe]; exact h)
          clear hpe hqe hno
          by_cases hpq : p = q
          · have hn2 := hyes hpq
            subst hpq
            clear hyes hno2
            go_wp2_with fail
            go_quiet (fail)
            have hbd := below_drewN hbrx nq
            go_wp2_with fail
            go_ret
            exact ⟨ret_bool hn2.out.symm, hbd⟩
          · have hn2 := hno2 hpq
            have h1 : (p == q) = false := by simpa using hpq
            have h2 : ((p : Int) == (q : Int)) = false := by rw [beq_eq_false_iff_ne]; omega
            clear hyes hno2
            go_wp2_with fail
            go_quiet (fail)
            have hbd := below_drewN hbx nq
            go_wp2_with fail
            go_roundw
            case measure => simp [intOf]; omega
            case rel => exact ⟨k + 1, by omega, by go_num, hbd, hn2⟩
        · obtain rfl : k = i := by omega
          have i4 : decide (k < k) = false := by simp
          have hn2 : Hid ((srcs (E.take (k + 1))).Nodup) := Lib.hid (by
            rw [srcs_take hil]
            refine Gp.nodup_snoc HN.out (fun hm => ?_)
            unfold srcs at hm
            obtain ⟨e, he, h1⟩ := List.mem_map.1 hm
            obtain ⟨j, hj, rfl⟩ := List.mem_take_iff_getElem.1 he
            exact HJ.out j (by omega) (by omega) h1)
          have hbw := hb.trans (hbx.mono hb.size)
          clear HJ
          go_wp2_with fail
          go_roundw
          case measure => simp [intOf]; omega
          case rel => exact ⟨k + 1, by omega, by go_num, hbw, hn2⟩
    · obtain rfl : i = E.length := by omega
      rw [List.take_length] at HN
      have i3 : decide (E.length < E.length) = false := by simp
      have hE1 := hE0.mono hbr
      have hnd := HN.out
      have hle := (Gp.ordL_inv n E).len
      go_wp2_with fail
      refine Calls.go hbr (r8order_any n E _ wr hE1 hv hn hl) ?_
      rintro e w3 ⟨u, b, rfl, hor⟩ hb3 hbb3
      have hres : Hid (b = treeB n E) := Lib.hid (by
        unfold treeB
        rw [decide_eq_true hnd, Bool.true_and]
        rcases hor with ⟨h1, h2, _⟩ | ⟨h1, h2, _⟩
        · rw [h2, decide_eq_true h1]
        · rw [h2, decide_eq_false (by omega)])
      clear hor hnd hle
      go_wp2_with fail
      go_ret
      exact ⟨ret_bool hres.out, hbb3⟩

end Go.Proofs.Ythnhlaljnkdmfaa
