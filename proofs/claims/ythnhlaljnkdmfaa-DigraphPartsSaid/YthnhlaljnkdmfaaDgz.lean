/- Parts: digraph.Parts, the reference's Parts. Conditions: the edges read as data. -/
import Derived.Test.YthnhlaljnkdmfaaDgk
import Derived.Test.YthnhlaljnkdmfaaDrh
import Derived.Test.YthnhlaljnkdmfaaDgt
namespace Go.Proofs.Ythnhlaljnkdmfaa
open Go.RowKit
set_option linter.unusedVariables false
set_option linter.unusedSimpArgs false

theorem OwnR.keptO {α : Type} {base : Nat} {et e : TypeId} {enc : α → List Value} {k : Nat} {w w' : World} {v : Value} {vs : List Value} {xss : List (List α)} (h : OwnR base et e enc k w v vs xss) {row : Option Nat} (hg : w.grownBy w' row)
    (h1 : ∀ g, row = some g → v.ownBlock ≠ some g ∧ ∀ (i : Nat) (hi : i < vs.length), vs[i].ownBlock ≠ some g) : OwnR base et e enc k w' v vs xss :=
  ⟨Own.kept h.out hg (fun g hg' e => (h1 g e).1 hg'), h.len, fun i h3 h4 => Own.kept (h.row i h3 h4) hg (fun g hg' e => (h1 g e).2 i h3 hg'), h.apart, h.off⟩
/-- All blocks of rows of rows lie between. -/
theorem OwnR.bounds {α : Type} {base : Nat} {et e : TypeId} {enc : α → List Value} {k : Nat} {w : World} {v : Value} {vs : List Value} {xss : List (List α)} (h : OwnR base et e enc k w v vs xss) (g : Nat) :
    (v.ownBlock = some g → base ≤ g ∧ g < w.heap.size) ∧ ∀ (i : Nat) (hi : i < vs.length), vs[i].ownBlock = some g → base ≤ g ∧ g < w.heap.size :=
  ⟨fun e => h.out.lt g e, fun i hi e => (h.row i hi (by rw [← h.len]; exact hi)).lt g e⟩

def partK (r : List Bool) (k : Nat) : List Nat := (List.range k).filter fun x => r.getD x false
def doneK (n : Nat) (d r : List Bool) (k : Nat) : List Bool := (List.range n).map fun x => d.getD x false || (decide (x < k) && r.getD x false)
theorem partK_succ (r : List Bool) (k : Nat) : partK r (k + 1) = partK r k ++ (if r.getD k false then [k] else []) := filter_snoc
theorem partK_len (r : List Bool) (k : Nat) : (partK r k).length ≤ k := by
  unfold partK
  exact Nat.le_trans (List.length_filter_le _ _) (by simp)
theorem doneK_len (n : Nat) (d r : List Bool) (k : Nat) : (doneK n d r k).length = n := by simp [doneK]
theorem doneK_zero {n : Nat} {d : List Bool} (r : List Bool) (h : d.length = n) : doneK n d r 0 = d := by
  apply List.ext_getElem
  · rw [doneK_len, h]
  · intro i h1 h2
    simp [doneK, List.getD, h2]
theorem doneK_set {n : Nat} {d r : List Bool} {k : Nat} (hk : r.getD k false = true) : (doneK n d r k).set k true = doneK n d r (k + 1) := by
  apply List.ext_getElem
  · simp [doneK]
  · intro i h1 h2
    by_cases hi : k = i
    · subst hi
      rw [List.getElem_set_self]
      simp only [doneK, List.getElem_map, List.getElem_range, hk]
      simp
    · rw [List.getElem_set_ne hi]
      simp only [doneK, List.getElem_map, List.getElem_range]
      have : decide (i < k) = decide (i < k + 1) := by
        by_cases hlt : i < k
        · rw [decide_eq_true hlt, decide_eq_true (by omega)]
        · rw [decide_eq_false hlt, decide_eq_false (by omega)]
      rw [this]
theorem doneK_skip {n : Nat} {d r : List Bool} {k : Nat} (hk : r.getD k false = false) : doneK n d r k = doneK n d r (k + 1) := by
  unfold doneK
  refine List.map_congr_left (fun i _ => ?_)
  by_cases hi : k = i
  · subst hi; rw [hk]; simp
  · have : decide (i < k) = decide (i < k + 1) := by
      by_cases hlt : i < k
      · rw [decide_eq_true hlt, decide_eq_true (by omega)]
      · rw [decide_eq_false hlt, decide_eq_false (by omega)]
    rw [this]
noncomputable def prtS (n : Nat) (E : Gp.Gr) (st : List Bool × List (List Nat)) (i : Nat) : List Bool × List (List Nat) :=
  if st.1.getD i false then st else (doneK n st.1 (Gp.reachL n E [i]) n, st.2 ++ [partK (Gp.reachL n E [i]) n])
noncomputable def prtK (n : Nat) (E : Gp.Gr) (k : Nat) : List Bool × List (List Nat) := (List.range k).foldl (prtS n E) (List.replicate n false, [])
theorem prtK_succ (n : Nat) (E : Gp.Gr) (k : Nat) : prtK n E (k + 1) = prtS n E (prtK n E k) k := by
  unfold prtK
  rw [List.range_succ, List.foldl_append]; rfl
theorem prtK_len (n : Nat) (E : Gp.Gr) : ∀ k, (prtK n E k).1.length = n
  | 0 => by simp [prtK]
  | k + 1 => by
    rw [prtK_succ]
    unfold prtS
    split
    · exact prtK_len n E k
    · exact doneK_len ..
theorem prtK_cnt (n : Nat) (E : Gp.Gr) : ∀ k, (prtK n E k).2.length ≤ k
  | 0 => by simp [prtK]
  | k + 1 => by
    rw [prtK_succ]
    unfold prtS
    split
    · have := prtK_cnt n E k; omega
    · have := prtK_cnt n E k; simp; omega
/-- The edges, both ways. -/
def bothE (E : List (Nat × Nat)) : List (Nat × Nat) := E ++ Gp.rev E
theorem bothE_v {n : Nat} {E : List (Nat × Nat)} (h : Gp.vtx n E) : Gp.vtx n (bothE E) := by
  intro e he
  rcases List.mem_append.1 he with h1 | h1
  · exact h e h1
  · exact Gp.vtx_rev h e h1
theorem bothE_len (E : List (Nat × Nat)) : (bothE E).length = E.length + E.length := by simp [bothE, rev_len]
/-- The parts. -/
noncomputable def prtL (n : Nat) (E : List (Nat × Nat)) : List (List Nat) := (prtK n (bothE E) n).2

set_option maxRecDepth 100000 in
set_option maxHeartbeats 2000000 in
theorem parts_bad (n : Int) (E : List (Int × Int)) (v : Value) (w : World) (hE : IsEis w v E) (hbad : validB n E = false) :
    Calls Try.prog 40 #[.int .i64 n, v] w fun e w' => e = .returned (.tuple #[.slice none 0 0, .int .i64 1]) ∧ Below w.heap.size w w' := by
  have hc := valid_any n E v w hE
  rw [hbad] at hc
  go_enter Try.func40, Try.ntmps40
  go_wp2_with fail
  refine Calls.to hc ?_
  rintro e w1 rfl hb
  go_wp2_with fail
  go_ret2
  exact ⟨rfl, hb⟩


set_option maxRecDepth 100000 in
set_option maxHeartbeats 16000000 in
theorem parts_ok (n : Nat) (E : List (Nat × Nat)) (v : Value) (w : World) (hE : IsEds w v E) (hv : Gp.vtx n E) (hn : n ≤ 300) (hl : E.length ≤ 1000) :
    Calls Try.prog 40 #[.int .i64 n, v] w fun e w' => (∃ u us, e = .returned (.tuple #[u, .int .i64 0]) ∧ OwnR w.heap.size 25 3 eNat 1 w' u us (prtL n E)) ∧ Below w.heap.size w w' := by
  have hc := valid_any n (edI E) v w (isL_edI.2 hE)
  rw [validB_ok hv hn hl] at hc
  have hE0 := hE
  obtain ⟨va, vc, rfl, _, _, _⟩ := hE
  have hE := hE0
  clear hE0
  have hvB := bothE_v hv
  have hlB : (bothE E).length ≤ 2000 := by rw [bothE_len]; omega
  have hll : n < 2147483648 := by omega
  go_enter Try.func40, Try.ntmps40
  go_wp2_with fail
  refine Calls.to hc ?_
  rintro e w1 rfl hb1
  go_wp2_with fail
  refine Calls.go hb1 (turned_any E _ w1 (hE.mono hb1) (by omega)) ?_
  rintro e wt ⟨tu, rfl, hT⟩ hbt hbbt
  have hTl := hT.isL eEd_len
  obtain ⟨ta, tc, rfl⟩ := hT.isSlice
  have hrl2 : (Gp.rev E).length = E.length := rev_len E
  rw [hrl2] at hTl
  have hCA := alloc_below wt (.cells #[.slice va E.length vc, .slice ta E.length tc] 22)
  rw [hrl2]
  have hbbA := hbbt.trans (hCA.mono hbbt.size)
  have k0 : (wt.alloc (.cells #[.slice va E.length vc, .slice ta E.length tc] 22)).cell? ⟨wt.heap.size, 0, none⟩ = some (.slice va E.length vc) := by simp [go_sem]
  have k1 : (wt.alloc (.cells #[.slice va E.length vc, .slice ta E.length tc] 22)).cell? ⟨wt.heap.size, 1, none⟩ = some (.slice ta E.length tc) := by simp [go_sem]
  go_wp2_with fail
  refine Calls.go hbbA (concat_any E (Gp.rev E) _ _ wt.heap.size _ (hE.mono hbbA) (hTl.mono hCA) k0 k1 (by rw [rev_len]; omega)) ?_
  rintro e wc ⟨cu, rfl, hCc⟩ hbc hbbc
  go_wp2_with fail
  refine Calls.go hbbc (next_any n (bothE E) cu wc (hCc.isL eEd_len) hvB (by omega) (by omega)) ?_
  rintro e w2 ⟨ru, vs, rfl, hRo⟩ hb2 hbb2
  have HRo := Lib.hid hRo
  clear hRo hCc hTl k0 k1 hCA hbbA hT hc hrl2 hb2 hbc hbbc hbt hbbt hb1
  go_wp2_with (refine wpList_mk _ rfl _ _ 39 rfl w2.heap.size 4 _ 1 undBools infBool eBool false rfl rfl _ _ n rfl rfl rfl rfl hll (by omega) (Nat.le_refl _) ?_; intro w3 hown3 hb3 hlt3)
  have hreach : ∀ (W : World) (fv : Value) (i : Nat), Below w2.heap.size w2 W → w2.heap.size < W.heap.size → i < n → IsNats W fv [i] → Calls Try.prog 55 #[ru, fv] W fun e w' => (∃ v, e = .returned v ∧ Own (w2.heap.size + 1) 4 eBool 1 w' v (Gp.reachL n (bothE E) [i])) ∧ Below W.heap.size W w' := fun W fv i hW hlW hin hF => by
    refine (reach0_any n (bothE E) [i] _ ru fv vs W (HRo.out.below hW) hF hvB hn (by simp; omega) (by simp)).mono ?_
    rintro e w' ⟨⟨v, rfl, hO⟩, hb⟩
    exact ⟨⟨v, rfl, hO.base (by omega)⟩, hb⟩
  clear HRo
  go_loopw [8, 27] (fun s8 s27 wr => ∃ (i : Nat) (us : List Value) (d : List Bool) (acc : List (List Nat)), i ≤ n ∧ s27 = .int .i64 i ∧ OwnR (w2.heap.size + 1) 25 3 eNat 1 wr s8 us acc ∧ Own w2.heap.size 4 eBool 1 wr (.slice (some ⟨w2.heap.size, 0, none⟩) n n) d ∧ Below w2.heap.size w2 wr ∧ w2.heap.size < wr.heap.size ∧ Hid ((d, acc) = prtK n (bothE E) i)) (fun _ s27 _ => n - (intOf s27).toNat)
  case atStart => exact ⟨0, [], List.replicate n false, [], Nat.zero_le _, rfl, OwnR.nil _ _ _ _ _ _, hown3, hb3, hlt3, rfl⟩
  clear hown3 hb3 hlt3
  case round =>
    obtain ⟨i, us, d, acc, hi, rfl, HC, HD, hb, hlt, HK⟩ := hrel
    obtain ⟨oa, oc, rfl⟩ := HC.out.isSlice
    by_cases hin : i < n
    · have i1 : decide (i < n) = true := decide_eq_true hin
      have x8 : IntKind.i64.wrap ((i : Int) + 1) = i + 1 := IntWalk.i64_in _ (by omega)
      have hdl : Hid (d.length = n) := Lib.hid (by have := congrArg Prod.fst HK.out; simp only at this; rw [this]; exact prtK_len ..)
      have hal : Hid (acc.length ≤ n) := Lib.hid (by have := congrArg Prod.snd HK.out; simp only at this; rw [this]; have := prtK_cnt n (bothE E) i; omega)
      have hid : i < d.length := by have := hdl.out; omega
      have c1 := HD.boolAt i hid
      have hst := Lib.hid (prtK_succ n (bothE E) i)
      rw [← HK.out] at hst
      unfold prtS at hst
      simp only [getD_at hid] at hst
      cases hdi : d[i]
      · rw [hdi] at c1 hst
        simp only [Bool.false_eq_true, if_false] at hst
        have hA := alloc_below wr (.cells #[.int .i64 (i : Int)] 3)
        have hFA : IsNats (wr.alloc (.cells #[.int .i64 (i : Int)] 3)) (.slice (some ⟨wr.heap.size, 0, none⟩) 1 1) [i] := IsL.lit (enc := eNat) (k := 1) (fun _ => rfl) wr [i] #[.int .i64 (i : Int)] rfl 3 (by simp)
        have hbA := hb.trans (hA.mono hb.size)
        have hul : us.length < 2147483648 := by have := HC.len; have := hal.out; omega
        clear HK hdi
        go_wp2_with fail
        refine Calls.to (hreach _ _ i hbA (by have := hA.size; omega) hin hFA) ?_
        rintro e w5 ⟨rv, rfl, hR⟩ hb5
        have hsA : wr.heap.size < (wr.alloc (.cells #[.int .i64 (i : Int)] 3)).heap.size := by simp
        have hbr5 : Below wr.heap.size wr w5 := hA.trans (hb5.mono hA.size)
        have HC5 := HC.below hbr5
        have HD5 := HD.below hbr5
        have hb25 := hb.trans (hbr5.mono hb.size)
        have hlt5 : w2.heap.size < w5.heap.size := by have := hbr5.size; omega
        have hbc := fun g => HC5.bounds g
        have hbR := fun g (e : rv.ownBlock = some g) => hR.lt g e
        obtain ⟨ra, rc, rfl⟩ := hR.isSlice
        have hrl := Gp.reachL_len n (bothE E) [i]
        obtain ⟨r, hr⟩ : ∃ r, r = Gp.reachL n (bothE E) [i] := ⟨_, rfl⟩
        rw [← hr] at hR hbR hrl hst ⊢
        have HRL := Lib.hid hrl
        have hD0 : Own w2.heap.size 4 eBool 1 w5 (.slice (some ⟨w2.heap.size, 0, none⟩) n n) (doneK n d r 0) := by rw [doneK_zero r hdl.out]; exact HD5
        obtain ⟨S, hS⟩ : ∃ S, S = w5.heap.size := ⟨_, rfl⟩
        have hSw : S ≤ w5.heap.size := by omega
        simp only [← hS] at hbc hbR hlt5
        have hbS : ∀ g, (Value.slice ra r.length rc).ownBlock = some g → w2.heap.size < g ∧ g < S := fun g e => by have h1 := hbR g e; omega
        rw [hrl] at hR hbS ⊢
        clear hr HC HD hb hA hbA hFA hb5 hbr5 HD5 hrl hbR hS hsA hlt
        go_wp2_with fail
        go_loopw [10, 39] (fun s10 s39 wr => ∃ (k : Nat), k ≤ n ∧ s39 = .int .i64 k ∧ Own S 3 eNat 1 wr s10 (partK r k) ∧ Own w2.heap.size 4 eBool 1 wr (.slice (some ⟨w2.heap.size, 0, none⟩) n n) (doneK n d r k) ∧ OwnR (w2.heap.size + 1) 25 3 eNat 1 wr (.slice oa us.length oc) us acc ∧ Own (w2.heap.size + 1) 4 eBool 1 wr (.slice ra n rc) r ∧ Below w2.heap.size w2 wr ∧ S ≤ wr.heap.size) (fun _ s39 _ => n - (intOf s39).toNat)
        case atStart => exact ⟨0, Nat.zero_le _, rfl, World.ownsRow_nil _ _ _ _, hD0, HC5, hR, hb25, hSw⟩
        clear hD0 HC5 hR hb25 hSw
        case round =>
          obtain ⟨k, hk, rfl, HP, HD, HC, HR, hb, hSl⟩ := hrel
          obtain ⟨pa, pc, rfl⟩ := HP.isSlice
          by_cases hkn : k < n
          · have i2 : decide (k < n) = true := decide_eq_true hkn
            have x9 : IntKind.i64.wrap ((k : Int) + 1) = k + 1 := IntWalk.i64_in _ (by omega)
            have hkr : k < r.length := by have := HRL.out; omega
            have hkd : k < (doneK n d r k).length := by rw [doneK_len]; exact hkn
            have hrC := HR.isC
            obtain ⟨rb, ro, rfl, c2⟩ := hrC.boolc k hkr
            have c3 := HD.boolAt k hkd
            have f3 : wr.frozen? ⟨w2.heap.size, k, none⟩ = false := Own.free HD _
            have hOs := HD.setb k hkd true
            have hpl : (partK r k).length < 2147483648 := by have := partK_len r k; omega
            have hps := Lib.hid (partK_succ r k)
            rw [getD_at hkr] at hps
            have hd1 : r[k] = true → Hid ((doneK n d r k).set k true = doneK n d r (k + 1)) := fun h => Lib.hid (doneK_set (by rw [getD_at hkr]; exact h))
            have hd2 : r[k] = false → Hid (doneK n d r k = doneK n d r (k + 1)) := fun h => Lib.hid (doneK_skip (by rw [getD_at hkr]; exact h))
            generalize (doneK n d r k)[k] = cb at *
            clear hrC
            cases hrk : r[k]
            · rw [hrk] at c2 hps
              have hd3 := hd2 hrk
              simp only [Bool.false_eq_true, if_false, List.append_nil] at hps
              clear hd1 hd2 hrk hOs f3 c3
              go_wp2_with fail
              go_roundw
              case measure => simp [intOf]; omega
              case rel => exact ⟨k + 1, by omega, by go_num, by rw [hps.out]; exact HP, by rw [← hd3.out]; exact HD, HC, HR, hb, hSl⟩
            · rw [hrk] at c2 hps
              have hd3 := hd1 hrk
              rw [hd3.out] at hOs
              simp only [if_true] at hps
              have hP1 := HP.set' ⟨w2.heap.size, k, none⟩ (.bool true) (fun e => by have := (HP.lt _ e).1; simp only at this; omega)
              have hR1 := HR.set' ⟨w2.heap.size, k, none⟩ (.bool true) (fun e => by have := (hbS _ e).1; simp only at this; omega)
              have hC1 := HC.keptO (grownBy_set wr ⟨w2.heap.size, k, none⟩ (.bool true)) (fun g e => by
                simp only [Option.some.injEq] at e
                refine ⟨fun h => ?_, fun j hj h => ?_⟩
                · have := ((hbc g).1 h).1; omega
                · have := ((hbc g).2 j hj h).1; omega)
              have hb1 := hb.setCell (p := ⟨w2.heap.size, k, none⟩) (Nat.le_refl w2.heap.size) (.bool true)
              have hs1 : S ≤ (wr.setCell ⟨w2.heap.size, k, none⟩ (.bool true)).heap.size := by simp [World.setCell]; exact hSl
              clear hd1 hd2 hrk HP HR HC HD hb hd3
              go_wp2_with (at_builtin; go_must (refine wpList_pushR rfl _ _ 25 rfl 3 _ 1 8 undInts infInt rfl (by decide) k (fun _ => rfl) (by simp [Value.oneCell']) _ (partK r k) rfl hP1 wr.heap.size rfl (by simp [World.setCell]) hpl (by decide) hs1 _ rfl ?_); intro g5 cap5 w6 hR5)
              have HP6 := hR5.own
              have HD6 := hR5.other hOs (fun g hg e => by simp only [Value.ownBlock, Option.some.injEq] at hg; have h2 := (hP1.lt g e).1; omega)
              have HR6 := hR5.other hR1 (fun g hg e => by have h1 := (hbS g hg).2; have h2 := (hP1.lt g e).1; omega)
              have HC6 := hC1.keptO hR5.grown (fun g e => by
                have h2 := (hP1.lt g e).1
                refine ⟨fun h => ?_, fun j hj h => ?_⟩
                · have := ((hbc g).1 h).2; omega
                · have := ((hbc g).2 j hj h).2; omega)
              have hb6 := hb1.trans ((hR5.below hP1 hs1).mono (by omega))
              have hs6 : S ≤ w6.heap.size := by have := hR5.grown.size; omega
              clear hR5 hP1 hOs hR1 hC1 hb1 hs1 c2 c3 f3
              go_wp2_with fail
              go_roundw
              case measure => simp [intOf]; omega
              case rel =>
                refine ⟨k + 1, by omega, by go_num, ?_, HD6, HC6, HR6, hb6, hs6⟩
                rw [hps.out]
                simpa using HP6
          · obtain rfl : n = k := by omega
            have i2 : decide (n < n) = false := by simp
            have hone : ∀ u ∈ eV (Value.slice pa (partK r n).length pc), u.oneCell' = true := by
              intro u hu; rw [List.mem_singleton] at hu; subst hu; rfl
            have hfar : ∀ g, (Value.slice pa (partK r n).length pc).ownBlock = some g → (Value.slice oa us.length oc).ownBlock ≠ some g ∧ ∀ (j : Nat) (hj : j < us.length), us[j].ownBlock ≠ some g := fun g hg => by
              have h1 := (HP.lt g hg).1
              refine ⟨fun e => ?_, fun j hj e => ?_⟩
              · have := ((hbc g).1 e).2; omega
              · have := ((hbc g).2 j hj e).2; omega
            have HPb := HP.base (base' := w2.heap.size + 1) (by omega)
            have hs7 : w2.heap.size + 1 ≤ wr.heap.size := by omega
            have HPh := Lib.hid HPb
            generalize hpn : (partK r n).length = pn at *
            clear hpn HPb HP HR
            have hCo := HC.out
            go_wp2_with (at_builtin; go_must (refine wpList_pushR rfl _ _ 53 rfl 25 _ 1 24 undRows infRow rfl (by decide) (.slice pa pn pc) (fun _ => rfl) hone _ us rfl hCo wr.heap.size rfl rfl hul (by decide) hs7 _ rfl ?_); intro g7 cap7 w7 hR7)
            have HC7 := HC.push HPh.out hfar hR7
            have HD7 := hR7.other HD (fun g hg e => by simp only [Value.ownBlock, Option.some.injEq] at hg; have h2 := (hCo.lt g e).1; omega)
            have hb7 := hb.trans ((hR7.below hCo hs7).mono (by omega))
            have hl7 : w2.heap.size < w7.heap.size := by have := hR7.grown.size; omega
            clear HC hCo hR7 hfar HPh hb HD
            go_wp2_with fail
            go_roundw
            case measure => simp [intOf]; omega
            case rel => exact ⟨i + 1, us ++ [.slice pa pn pc], doneK n d r n, acc ++ [partK r n], by omega, by go_num, HC7, HD7, hb7, hl7, Lib.hid hst.out.symm⟩
      · rw [hdi] at c1 hst
        simp only [if_true] at hst
        have hst2 := Lib.hid hst.out.symm
        clear hdi HK
        go_wp2_with fail
        go_roundw
        case measure => simp [intOf]; omega
        case rel => exact ⟨i + 1, us, d, acc, by omega, by go_num, HC, HD, hb, hlt, hst2⟩
    · obtain rfl : n = i := by omega
      have i1 : decide (n < n) = false := by simp
      have hac : acc = prtL n E := congrArg Prod.snd HK.out
      have HAC := Lib.hid hac
      have hwb := hbb2.trans (hb.mono hbb2.size)
      have HC2 := HC.base' (base' := w.heap.size) (by have := hbb2.size; omega)
      clear hac HK HC HD
      go_wp2_with fail
      go_ret2
      refine ⟨⟨_, us, rfl, ?_⟩, hwb⟩
      rw [← HAC.out]
      exact HC2

end Go.Proofs.Ythnhlaljnkdmfaa
