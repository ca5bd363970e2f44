/- The reference's Parts. Conditions: the graph is valid. -/
import Derived.Test.YthnhlaljnkdmfaaDgz
namespace Go.Proofs.Ythnhlaljnkdmfaa
open Go.RowKit
set_option linter.unusedVariables false
set_option linter.unusedSimpArgs false

theorem reachB_any (n : Nat) (E : List (Nat × Nat)) (bv fv : Value) (W : World) (i B : Nat) (hB : IsEds W bv (bothE E)) (hv : Gp.vtx n E) (hn : n ≤ 300) (hl : E.length ≤ 1000) (hlW : B ≤ W.heap.size) (hin : i < n) (hF : IsNats W fv [i]) :
    Calls Try.prog 32 #[.int .i64 n, bv, fv] W fun e w' => (∃ v, e = .returned v ∧ Own B 4 eBool 1 w' v (Gp.reachL n (bothE E) [i])) ∧ Below W.heap.size W w' := by
  have hlB : (bothE E).length ≤ 1000000 := by rw [bothE_len]; omega
  have hf : ∀ s ∈ [i], s < n := fun s hs => by rw [List.mem_singleton] at hs; omega
  refine (r8reach_any n (bothE E) [i] bv fv W hB (bothE_v hv) (by omega) hlB hF hf (by simp)).mono ?_
  rintro e w' ⟨⟨v, rfl, hO⟩, hb⟩
  exact ⟨⟨v, rfl, hO.base hlW⟩, hb⟩
theorem bothE_step {E : List (Nat × Nat)} {k : Nat} (hk : k < E.length) : (E ++ Gp.rev (E.take k)) ++ [((E[k]).2, (E[k]).1)] = E ++ Gp.rev (E.take (k + 1)) := by
  rw [List.append_assoc, rev_snoc hk]


set_option maxRecDepth 100000 in
set_option maxHeartbeats 16000000 in
theorem r8parts_any (n : Nat) (E : List (Nat × Nat)) (v : Value) (w : World) (hE : IsEds w v E) (hv : Gp.vtx n E) (hn : n ≤ 300) (hl : E.length ≤ 1000) :
    Calls Try.prog 42 #[.int .i64 n, v] w fun e w' => (∃ u us, e = .returned u ∧ OwnR w.heap.size 25 3 eNat 1 w' u us (prtL n E)) ∧ Below w.heap.size w w' := by
  obtain ⟨va, vc, rfl, _, _, hs⟩ := hE
  have hvB := bothE_v hv
  have hlB : (bothE E).length ≤ 2000 := by rw [bothE_len]; omega
  have hll : n < 2147483648 := by omega
  have hel : E.length < 1073741824 := by omega
  have hX := alloc_below w (.cells #[] 35)
  have hOX : Own w.heap.size 35 eEd 2 (w.alloc (.cells #[] 35)) (.slice (some ⟨w.heap.size, 0, none⟩) 0 0) [] := ⟨rfl, .inr ⟨w.heap.size, 0, #[], rfl, Nat.le_refl _, heap_alloc_new w _, Nat.le_refl _, by simp [maxLen], rfl, by simp⟩⟩
  have hsX := hs.mono hX
  have hzX : w.heap.size ≤ (w.alloc (.cells #[] 35)).heap.size := hX.size
  go_enter Try.func42, Try.ntmps42
  go_wp2_with (at_builtin; go_must (refine wpList_appR rfl _ _ 22 rfl 35 _ 2 16 undEds infEd rfl (by decide) eEd_len (by intro y u hu; simp at hu; rcases hu with rfl | rfl <;> rfl) _ [] E rfl hOX va vc rfl hsX (by decide) hel (by decide) hzX ?_); intro v5 w5 hR5)
  have hO5 : Own w.heap.size 35 eEd 2 w5 v5 (E ++ Gp.rev (E.take 0)) := by
    have := hR5.own
    simpa [Gp.rev] using this
  have hb5 := hX.trans (hR5.below hOX hzX)
  clear hOX hsX hX hzX hR5
  go_wp2_with fail
  go_loopw [5, 6] (fun s5 s6 wr => ∃ k : Nat, k ≤ E.length ∧ s6 = .int .i64 k ∧ Own w.heap.size 35 eEd 2 wr s5 (E ++ Gp.rev (E.take k)) ∧ Below w.heap.size w wr) (fun _ s6 _ => E.length - (intOf s6).toNat)
  case atStart => exact ⟨0, Nat.zero_le _, rfl, hO5, hb5⟩
  clear hO5 hb5
  case round =>
    obtain ⟨k, hk, rfl, HO, hb⟩ := hrel
    obtain ⟨oa, oc, rfl⟩ := HO.isSlice
    by_cases hkl : k < E.length
    · have i1 : decide (k < E.length) = true := decide_eq_true hkl
      have x8 : IntKind.i64.wrap ((k : Int) + 1) = k + 1 := IntWalk.i64_in _ (by omega)
      obtain ⟨eb, eo, rfl, b2, b3⟩ := hs.ed k hkl
      have hebw : eb < w.heap.size := lt_of_isSome (a := ⟨eb, eo + k * 2, none⟩) (by rw [b2]; rfl)
      have c2 := cell_lt b2 hb
      have c3 := cell_lt b3 hb
      have hst := Lib.hid (bothE_step hkl)
      have hcl : (E ++ Gp.rev (E.take k)).length < 2147483648 := by
        rw [List.length_append, rev_len, List.length_take]; omega
      obtain ⟨p, hpe⟩ : ∃ p, p = (E[k]).1 := ⟨_, rfl⟩
      obtain ⟨q, hqe⟩ : ∃ q, q = (E[k]).2 := ⟨_, rfl⟩
      rw [← hpe] at c2 hst
      rw [← hqe] at c3 hst
      clear hpe hqe b2 b3
      generalize E ++ Gp.rev (E.take k) = L at *
      go_wp2_with fail
      (go_region_held3 (fun w' => w'.cell? ⟨eb, eo + k * 2, none⟩ = some (.int .i64 (p : Int)) ∧ w'.cell? ⟨eb, eo + k * 2 + 1, none⟩ = some (.int .i64 (q : Int))) (first | go_keep | (refine ⟨?_, ?_⟩ <;> (rw [hb1.cell (by exact hebw)]; assumption))) ((go_must (refine step_push rfl _ _ 22 rfl 35 _ 2 16 undEds infEd rfl (by decide) (q, p) eEd_len (by simp [Value.oneCell']) _ L rfl HO rfl hcl (by decide) hb.size _ rfl ?_); intro g3 cap3 w1 hown1 hbg1 hgl1 hb1 hc11 hc21)))
      have hbb := hb.trans hb1
      clear HO hb hb1 c2 c3 hc11 hc21 hbg1 hgl1
      go_wp2_with fail
      go_roundw
      case measure => simp [intOf]; omega
      case rel => exact ⟨k + 1, by omega, by go_num, by rw [← hst.out]; exact hown1, hbb⟩
    · have hke : k = E.length := by omega
      have i1 : decide (k < E.length) = false := decide_eq_false hkl
      have hBo : Hid (E ++ Gp.rev (E.take k) = bothE E) := Lib.hid (by rw [hke, List.take_length]; rfl)
      rw [hBo.out] at HO ⊢
      have hBl := (HO.isL eEd_len)
      have HBL := Lib.hid hBl
      obtain ⟨w2, hw2⟩ : ∃ w2, w2 = wr := ⟨_, rfl⟩
      subst hw2
      have hbb2 := hb
      clear hBo HO hBl hb
      obtain ⟨bl, hbl⟩ : ∃ bl, bl = (bothE E).length := ⟨_, rfl⟩
      rw [← hbl] at HBL ⊢
      clear hbl
      go_wp2_with (refine wpList_mk _ rfl _ _ 39 rfl w2.heap.size 4 _ 1 undBools infBool eBool false rfl rfl _ _ n rfl rfl rfl rfl hll (by omega) (Nat.le_refl _) ?_; intro w3 hown3 hb3 hlt3)
      go_loopw [8, 9] (fun s8 s9 wr => ∃ (i : Nat) (us : List Value) (d : List Bool) (acc : List (List Nat)), i ≤ n ∧ s9 = .int .i64 i ∧ OwnR (w2.heap.size + 1) 25 3 eNat 1 wr s8 us acc ∧ Own w2.heap.size 4 eBool 1 wr (.slice (some ⟨w2.heap.size, 0, none⟩) n n) d ∧ Below w2.heap.size w2 wr ∧ w2.heap.size < wr.heap.size ∧ Hid ((d, acc) = prtK n (bothE E) i)) (fun _ s9 _ => n - (intOf s9).toNat)
      case atStart => exact ⟨0, [], List.replicate n false, [], Nat.zero_le _, rfl, OwnR.nil _ _ _ _ _ _, hown3, hb3, hlt3, rfl⟩
      clear hown3 hb3 hlt3
      case round =>
        obtain ⟨i, us, d, acc, hi, rfl, HC, HD, hb, hlt, HK⟩ := hrel
        obtain ⟨oa, oc, rfl⟩ := HC.out.isSlice
        by_cases hin : i < n
        · have i1 : decide (i < n) = true := decide_eq_true hin
          have x8 : IntKind.i64.wrap ((i : Int) + 1) = i + 1 := IntWalk.i64_in _ (by omega)
          have hdl : Hid (d.length = n) := Lib.hid (by have := congrArg Prod.fst HK.out; simp only at this; rw [this]; exact prtK_len ..)
          have hal : Hid (acc.length ≤ n) := Lib.hid (by have := congrArg Prod.snd HK.out; simp only at this; rw [this]; have := prtK_cnt n (bothE E) i; omega)
          have hid : i < d.length := by have := hdl.out; omega
          have c1 := HD.boolAt i hid
          have hst := Lib.hid (prtK_succ n (bothE E) i)
          rw [← HK.out] at hst
          unfold prtS at hst
          simp only [getD_at hid] at hst
          cases hdi : d[i]
          · rw [hdi] at c1 hst
            simp only [Bool.false_eq_true, if_false] at hst
            have hA := alloc_below wr (.cells #[.int .i64 (i : Int)] 3)
            have hFA : IsNats (wr.alloc (.cells #[.int .i64 (i : Int)] 3)) (.slice (some ⟨wr.heap.size, 0, none⟩) 1 1) [i] := IsL.lit (enc := eNat) (k := 1) (fun _ => rfl) wr [i] #[.int .i64 (i : Int)] rfl 3 (by simp)
            have hbA := hb.trans (hA.mono hb.size)
            have hul : us.length < 2147483648 := by have := HC.len; have := hal.out; omega
            clear HK hdi
            go_wp2_with fail
            refine Calls.to (reachB_any n E _ _ _ i (w2.heap.size + 1) (HBL.out.mono hbA) hv hn hl (by have := hA.size; omega) hin hFA) ?_
            rintro e w5 ⟨rv, rfl, hR⟩ hb5
            have hsA : wr.heap.size < (wr.alloc (.cells #[.int .i64 (i : Int)] 3)).heap.size := by simp
            have hbr5 : Below wr.heap.size wr w5 := hA.trans (hb5.mono hA.size)
            have HC5 := HC.below hbr5
            have HD5 := HD.below hbr5
            have hb25 := hb.trans (hbr5.mono hb.size)
            have hlt5 : w2.heap.size < w5.heap.size := by have := hbr5.size; omega
            have hbc := fun g => HC5.bounds g
            have hbR := fun g (e : rv.ownBlock = some g) => hR.lt g e
            obtain ⟨ra, rc, rfl⟩ := hR.isSlice
            have hrl := Gp.reachL_len n (bothE E) [i]
            obtain ⟨r, hr⟩ : ∃ r, r = Gp.reachL n (bothE E) [i] := ⟨_, rfl⟩
            rw [← hr] at hR hbR hrl hst ⊢
            have HRL := Lib.hid hrl
            have hD0 : Own w2.heap.size 4 eBool 1 w5 (.slice (some ⟨w2.heap.size, 0, none⟩) n n) (doneK n d r 0) := by rw [doneK_zero r hdl.out]; exact HD5
            obtain ⟨S, hS⟩ : ∃ S, S = w5.heap.size := ⟨_, rfl⟩
            have hSw : S ≤ w5.heap.size := by omega
            simp only [← hS] at hbc hbR hlt5
            have hbS : ∀ g, (Value.slice ra r.length rc).ownBlock = some g → w2.heap.size < g ∧ g < S := fun g e => by have h1 := hbR g e; omega
            rw [hrl] at hR hbS ⊢
            clear hr HC HD hb hA hbA hFA hb5 hbr5 HD5 hrl hbR hS hsA hlt
            go_wp2_with fail
            go_loopw [11, 12] (fun s11 s12 wr => ∃ (k : Nat), k ≤ n ∧ s12 = .int .i64 k ∧ Own S 3 eNat 1 wr s11 (partK r k) ∧ Own w2.heap.size 4 eBool 1 wr (.slice (some ⟨w2.heap.size, 0, none⟩) n n) (doneK n d r k) ∧ OwnR (w2.heap.size + 1) 25 3 eNat 1 wr (.slice oa us.length oc) us acc ∧ Own (w2.heap.size + 1) 4 eBool 1 wr (.slice ra n rc) r ∧ Below w2.heap.size w2 wr ∧ S ≤ wr.heap.size) (fun _ s12 _ => n - (intOf s12).toNat)
            case atStart => exact ⟨0, Nat.zero_le _, rfl, World.ownsRow_nil _ _ _ _, hD0, HC5, hR, hb25, hSw⟩
            clear hD0 HC5 hR hb25 hSw
            case round =>
              obtain ⟨k, hk, rfl, HP, HD, HC, HR, hb, hSl⟩ := hrel
              obtain ⟨pa, pc, rfl⟩ := HP.isSlice
              by_cases hkn : k < n
              · have i2 : decide (k < n) = true := decide_eq_true hkn
                have x9 : IntKind.i64.wrap ((k : Int) + 1) = k + 1 := IntWalk.i64_in _ (by omega)
                have hkr : k < r.length := by have := HRL.out; omega
                have hkd : k < (doneK n d r k).length := by rw [doneK_len]; exact hkn
                have hrC := HR.isC
                obtain ⟨rb, ro, rfl, c2⟩ := hrC.boolc k hkr
                have c3 := HD.boolAt k hkd
                have f3 : wr.frozen? ⟨w2.heap.size, k, none⟩ = false := Own.free HD _
                have hOs := HD.setb k hkd true
                have hpl : (partK r k).length < 2147483648 := by have := partK_len r k; omega
                have hps := Lib.hid (partK_succ r k)
                rw [getD_at hkr] at hps
                have hd1 : r[k] = true → Hid ((doneK n d r k).set k true = doneK n d r (k + 1)) := fun h => Lib.hid (doneK_set (by rw [getD_at hkr]; exact h))
                have hd2 : r[k] = false → Hid (doneK n d r k = doneK n d r (k + 1)) := fun h => Lib.hid (doneK_skip (by rw [getD_at hkr]; exact h))
                generalize (doneK n d r k)[k] = cb at *
                clear hrC
                cases hrk : r[k]
                · rw [hrk] at c2 hps
                  have hd3 := hd2 hrk
                  simp only [Bool.false_eq_true, if_false, List.append_nil] at hps
                  clear hd1 hd2 hrk hOs f3 c3
                  go_wp2_with fail
                  go_roundw
                  case measure => simp [intOf]; omega
                  case rel => exact ⟨k + 1, by omega, by go_num, by rw [hps.out]; exact HP, by rw [← hd3.out]; exact HD, HC, HR, hb, hSl⟩
                · rw [hrk] at c2 hps
                  have hd3 := hd1 hrk
                  rw [hd3.out] at hOs
                  simp only [if_true] at hps
                  have hP1 := HP.set' ⟨w2.heap.size, k, none⟩ (.bool true) (fun e => by have := (HP.lt _ e).1; simp only at this; omega)
                  have hR1 := HR.set' ⟨w2.heap.size, k, none⟩ (.bool true) (fun e => by have := (hbS _ e).1; simp only at this; omega)
                  have hC1 := HC.keptO (grownBy_set wr ⟨w2.heap.size, k, none⟩ (.bool true)) (fun g e => by
                    simp only [Option.some.injEq] at e
                    refine ⟨fun h => ?_, fun j hj h => ?_⟩
                    · have := ((hbc g).1 h).1; omega
                    · have := ((hbc g).2 j hj h).1; omega)
                  have hb1 := hb.setCell (p := ⟨w2.heap.size, k, none⟩) (Nat.le_refl w2.heap.size) (.bool true)
                  have hs1 : S ≤ (wr.setCell ⟨w2.heap.size, k, none⟩ (.bool true)).heap.size := by simp [World.setCell]; exact hSl
                  clear hd1 hd2 hrk HP HR HC HD hb hd3
                  go_wp2_with (at_builtin; go_must (refine wpList_pushR rfl _ _ 25 rfl 3 _ 1 8 undInts infInt rfl (by decide) k (fun _ => rfl) (by simp [Value.oneCell']) _ (partK r k) rfl hP1 wr.heap.size rfl (by simp [World.setCell]) hpl (by decide) hs1 _ rfl ?_); intro g5 cap5 w6 hR5)
                  have HP6 := hR5.own
                  have HD6 := hR5.other hOs (fun g hg e => by simp only [Value.ownBlock, Option.some.injEq] at hg; have h2 := (hP1.lt g e).1; omega)
                  have HR6 := hR5.other hR1 (fun g hg e => by have h1 := (hbS g hg).2; have h2 := (hP1.lt g e).1; omega)
                  have HC6 := hC1.keptO hR5.grown (fun g e => by
                    have h2 := (hP1.lt g e).1
                    refine ⟨fun h => ?_, fun j hj h => ?_⟩
                    · have := ((hbc g).1 h).2; omega
                    · have := ((hbc g).2 j hj h).2; omega)
                  have hb6 := hb1.trans ((hR5.below hP1 hs1).mono (by omega))
                  have hs6 : S ≤ w6.heap.size := by have := hR5.grown.size; omega
                  clear hR5 hP1 hOs hR1 hC1 hb1 hs1 c2 c3 f3
                  go_wp2_with fail
                  go_roundw
                  case measure => simp [intOf]; omega
                  case rel =>
                    refine ⟨k + 1, by omega, by go_num, ?_, HD6, HC6, HR6, hb6, hs6⟩
                    rw [hps.out]
                    simpa using HP6
              · obtain rfl : n = k := by omega
                have i2 : decide (n < n) = false := by simp
                have hone : ∀ u ∈ eV (Value.slice pa (partK r n).length pc), u.oneCell' = true := by
                  intro u hu; rw [List.mem_singleton] at hu; subst hu; rfl
                have hfar : ∀ g, (Value.slice pa (partK r n).length pc).ownBlock = some g → (Value.slice oa us.length oc).ownBlock ≠ some g ∧ ∀ (j : Nat) (hj : j < us.length), us[j].ownBlock ≠ some g := fun g hg => by
                  have h1 := (HP.lt g hg).1
                  refine ⟨fun e => ?_, fun j hj e => ?_⟩
                  · have := ((hbc g).1 e).2; omega
                  · have := ((hbc g).2 j hj e).2; omega
                have HPb := HP.base (base' := w2.heap.size + 1) (by omega)
                have hs7 : w2.heap.size + 1 ≤ wr.heap.size := by omega
                have HPh := Lib.hid HPb
                generalize hpn : (partK r n).length = pn at *
                clear hpn HPb HP HR
                have hCo := HC.out
                go_wp2_with (at_builtin; go_must (refine wpList_pushR rfl _ _ 53 rfl 25 _ 1 24 undRows infRow rfl (by decide) (.slice pa pn pc) (fun _ => rfl) hone _ us rfl hCo wr.heap.size rfl rfl hul (by decide) hs7 _ rfl ?_); intro g7 cap7 w7 hR7)
                have HC7 := HC.push HPh.out hfar hR7
                have HD7 := hR7.other HD (fun g hg e => by simp only [Value.ownBlock, Option.some.injEq] at hg; have h2 := (hCo.lt g e).1; omega)
                have hb7 := hb.trans ((hR7.below hCo hs7).mono (by omega))
                have hl7 : w2.heap.size < w7.heap.size := by have := hR7.grown.size; omega
                clear HC hCo hR7 hfar HPh hb HD
                go_wp2_with fail
                go_roundw
                case measure => simp [intOf]; omega
                case rel => exact ⟨i + 1, us ++ [.slice pa pn pc], doneK n d r n, acc ++ [partK r n], by omega, by go_num, HC7, HD7, hb7, hl7, Lib.hid hst.out.symm⟩
          · rw [hdi] at c1 hst
            simp only [if_true] at hst
            have hst2 := Lib.hid hst.out.symm
            clear hdi HK
            go_wp2_with fail
            go_roundw
            case measure => simp [intOf]; omega
            case rel => exact ⟨i + 1, us, d, acc, by omega, by go_num, HC, HD, hb, hlt, hst2⟩
        · obtain rfl : n = i := by omega
          have i1 : decide (n < n) = false := by simp
          have hac : acc = prtL n E := congrArg Prod.snd HK.out
          have HAC := Lib.hid hac
          have hwb := hbb2.trans (hb.mono hbb2.size)
          have HC2 := HC.base' (base' := w.heap.size) (by have := hbb2.size; omega)
          clear hac HK HC HD
          go_wp2_with fail
          go_ret
          refine ⟨⟨_, us, rfl, ?_⟩, hwb⟩
          rw [← HAC.out]
          exact HC2

end Go.Proofs.Ythnhlaljnkdmfaa
