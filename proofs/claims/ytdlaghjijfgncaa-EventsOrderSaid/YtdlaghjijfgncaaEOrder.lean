/- The law EventsOrder returns true for every list of events and every number of years, and leaves its arguments as they were. Conditions: none beyond the row's own. -/
import Derived.Test.YtdlaghjijfgncaaRows
import Derived.WalkKit
import Derived.ProofKit
import Derived.OpenShut
import Derived.ShutString
import Derived.ChangeOld
import Derived.Below
import Derived.Test.YtdlaghjijfgncaaEvw
import Derived.Test.YtdlaghjijfgncaaEvol
import Derived.Test.YtdlaghjijfgncaaEvp
import Derived.Test.YtdlaghjijfgncaaRowk
namespace Go.Proofs.Ytdlaghjijfgncaa.eventsOrder
open Go.ChangeShapes Go.WideShapes Go.ChangeAt Go.RowKit
set_option linter.unusedVariables false
set_option linter.unusedSimpArgs false
open Go.ChangeMaps (open_string shut_string)
set_option linter.unusedVariables false

theorem own : ownKnob Try.prog.godebug = none := by kernel_rfl
theorem laidOut : laidOutB Try.prog = true := by kernel_rfl

set_option maxRecDepth 100000 in
set_option maxHeartbeats 8000000 in
theorem walk (v0 : Value) (x0 : Sl Ev) (a1 : Int) (w : World) (w0 : v0 = vSl x0 ∧ gSl eEv 4 gEv w x0) (w1 : (Lit.int .i64 a1).wf = true) :
    Calls Try.prog 8 #[v0, .int .i64 a1] w fun e w' => e = .returned (.bool true) ∧ Below w.heap.size w w' := by
  obtain ⟨rfl, hg⟩ := w0
  clear w1
  have HVV : Hid (IsEvs w (vSl x0) x0.xs) := hg.isL
  clear hg
  obtain ⟨sa, sc, l⟩ := x0
  simp only [vSl] at HVV ⊢
  go_enter Try.func8, Try.ntmps8
  go_wp2_with fail
  refine Calls.to (eawake_any _) ?_
  rintro e w1 rfl hb1
  go_wp2_with fail
  refine Calls.go hb1 (short_any l _ _ (HVV.out.mono hb1)) ?_
  rintro e w2 rfl hb2' hb2
  clear hb2' hb1
  cases q0 : decide ((l.length : Int) ≤ 60)
  · go_wp2_with fail
    go_ret
    exact ⟨rfl, hb2⟩
  have hl60 : l.length ≤ 60 := by simp only [decide_eq_true_eq] at q0; omega
  have HL60 := Lib.hid hl60
  clear hl60
  by_cases q1 : a1 < 1
  · have u1 := decide_eq_true q1
    go_wp2_with fail
    go_ret
    exact ⟨rfl, hb2⟩
  have u1 := decide_eq_false q1
  by_cases q2 : 10000 < a1
  · have u2 := decide_eq_true q2
    go_wp2_with fail
    go_ret
    exact ⟨rfl, hb2⟩
  have u2 := decide_eq_false q2
  go_wp2_with fail
  refine Calls.go hb2 (rank_any l _ _ (HVV.out.mono hb2)) ?_
  rintro e w3 ⟨v3, code, rfl, hout⟩ hb3' hb3
  clear hb3' hb2
  cases hvm : validM l
  · have ho : v3 = .slice none 0 0 ∧ code = 1 := by
      rcases hout with ⟨_, h1, h2⟩ | ⟨h, _⟩
      · exact ⟨h1, h2⟩
      · rw [hvm] at h; cases h
    obtain ⟨rfl, rfl⟩ := ho
    clear hout
    go_wp2_with fail
    refine Calls.go hb3 (r21valid_any l _ _ (HVV.out.mono hb3)) ?_
    rintro e w4 rfl hb4' hb4
    rw [hvm]
    go_wp2_with fail
    go_ret
    exact ⟨rfl, hb4⟩
  have HVM := Lib.hid hvm
  have ho : code = 0 ∧ ∃ S, SortedOf (wR l) (iota l.length) S ∧ IsInts w3 v3 S := by
    rcases hout with ⟨h, _⟩ | ⟨_, h1, S, h2, h3⟩
    · rw [hvm] at h; cases h
    · exact ⟨h1, S, h2, h3.isL (fun _ => rfl)⟩
  obtain ⟨rfl, S, hS, hsS⟩ := ho
  have HSS := Lib.hid hS
  have hSl := sorted_len hS
  obtain ⟨n, rfl⟩ : ∃ x : Nat, a1 = (x : Int) - 1 := ⟨(a1 + 1).toNat, by omega⟩
  have hn2 : 2 ≤ n := by omega
  have hn1 : n ≤ 10001 := by omega
  obtain ⟨ra, rc, rfl, _, _, qS⟩ := hsS
  have t1 : ((S.length : Int) != l.length) = false := by simp [hSl]
  have HP0 : Hid (∀ j (hj : j < S.length), perM l S[j] ((n : Int) - 1) = ((((n / Nat.gcd n (j + 1) : Nat) : Int), (((j + 1) / Nat.gcd n (j + 1) : Nat) : Int)), 0)) := by
    intro j hj
    have hbd := sorted_bd HSS.out j hj
    have hrk := rank_pos HSS.out j hj
    simp only [perM, HVM.out]
    rw [if_neg (by simp), if_neg (by omega), hrk, show ((n : Int) - 1 + 1).toNat = n from by omega]
  have hll : l.length < 2147483648 := by have := HL60.out; omega
  obtain ⟨_, _, e0, _, _, hs0⟩ := HVV.out
  simp only [Value.slice.injEq] at e0
  obtain ⟨rfl, _, rfl⟩ := e0
  have qL : IsC eEv 4 w3 sa l := hs0.mono hb3
  have y1 : IntKind.i64.wrap ((n : Int) - 1 + 1) = n := IntWalk.i64_in _ (by omega) |>.trans (by omega)
  have HSL := Lib.hid hSl
  clear hs0 hout hS hvm q1 q2 hSl
  go_wp2_with (refine wpList_mk _ rfl _ _ 58 rfl w3.heap.size 4 _ 1 undBools infBool eB false rfl rfl _ _ l.length rfl rfl rfl rfl hll (by omega) (Nat.le_refl _) ?_; intro w7 hown7 hb7 hlt7)
  have hbA : Below w3.heap.size w3 (w7.alloc (.cells #[.int .i64 (n : Int), .int .i64 1] 40)) := hb7.alloc hb7.size _
  have hownA := hown7.below ((Below.refl _ _).alloc (Nat.le_refl _) (.cells #[.int .i64 (n : Int), .int .i64 1] 40))
  have hzA : w7.heap.size < (w7.alloc (.cells #[.int .i64 (n : Int), .int .i64 1] 40)).heap.size := by simp
  have c0A : (w7.alloc (.cells #[.int .i64 (n : Int), .int .i64 1] 40)).cell? ⟨w7.heap.size, 0, none⟩ = some (.int .i64 (n : Int)) := by simp [go_sem]
  have c1A : (w7.alloc (.cells #[.int .i64 (n : Int), .int .i64 1] 40)).cell? ⟨w7.heap.size, 1, none⟩ = some (.int .i64 1) := by simp [go_sem]
  have f0A : (w7.alloc (.cells #[.int .i64 (n : Int), .int .i64 1] 40)).frozen? ⟨w7.heap.size, 0, none⟩ = false := by simp [go_sem]
  have f1A : (w7.alloc (.cells #[.int .i64 (n : Int), .int .i64 1] 40)).frozen? ⟨w7.heap.size, 1, none⟩ = false := by simp [go_sem]
  generalize (w7.alloc (.cells #[.int .i64 (n : Int), .int .i64 1] 40)) = WA at *
  obtain ⟨B, hB⟩ : ∃ B, w7.heap.size = B := ⟨_, rfl⟩
  rw [hB] at hlt7 hzA c0A c1A f0A f1A ⊢
  clear hb7 hown7 hB
  go_loopw [58] (fun s58 wr => ∃ (i BN BD : Nat) (sn : List Bool), s58 = .int .i64 i ∧ i ≤ S.length ∧ Own w3.heap.size 4 eB 1 wr (.slice (some ⟨w3.heap.size, 0, none⟩) l.length l.length) sn ∧ Below w3.heap.size w3 wr ∧
    wr.cell? ⟨B, 0, none⟩ = some (.int .i64 BN) ∧ wr.cell? ⟨B, 1, none⟩ = some (.int .i64 BD) ∧ wr.frozen? ⟨B, 0, none⟩ = false ∧ wr.frozen? ⟨B, 1, none⟩ = false ∧ B < wr.heap.size ∧
    Hid (sn.length = l.length) ∧ Hid (∀ j (h : j < sn.length), sn[j] = true → (j : Int) ∈ S.take i) ∧ Hid (BN = n / Nat.gcd n (max i 1)) ∧ Hid (BD = max i 1 / Nat.gcd n (max i 1))) (fun i _ => S.length - (intOf i).toNat)
  case atStart => exact ⟨0, n, 1, _, rfl, Nat.zero_le _, hownA, hbA, c0A, by simpa using c1A, f0A, f1A, hzA, by simp [Hid], by intro j h hj; simp at hj, by show _ = _; simp, by show _ = _; simp⟩
  case round =>
    as_aux_lemma =>
    obtain ⟨i, BN, BD, sn, rfl, hi, hown, hb, b0, b1, f0, f1, hzB, hsl, hsn, HBN, HBD⟩ := hrel
    have hl60 := HL60.out
    have hSl := HSL.out
    by_cases hlt : i < S.length
    · obtain ⟨bS, offS, rfl, cS0⟩ := (qS.mono hb).int i hlt
      have hmem := sorted_bd HSS.out i hlt
      obtain ⟨j, hj⟩ : ∃ j : Nat, S[i] = j := ⟨S[i].toNat, by omega⟩
      rw [hj] at cS0 hmem
      have hjA : j < l.length := by omega
      have hjn : j < sn.length := by have := hsl.out; omega
      have hfalse : sn[j] = false := by
        cases h : sn[j] with
        | false => rfl
        | true => exact absurd (hj ▸ hsn.out j hjn h) (notIn_take (sorted_nodup HSS.out) i hlt)
      have cn := hown.cellAt' eB_len j 0 hjn (by omega)
      have fn := hown.free j
      rw [hfalse] at cn
      simp at cn
      have hstore := hown.store eB_len j 0 hjn (by omega) (.bool true) true (by simp)
      simp only [Nat.mul_one, Nat.add_zero] at hstore
      have HSN := Lib.hid (seen_step S sn i j hlt hj hsn.out)
      have hsl2 : Hid ((sn.set j true).length = l.length) := by show _ = _; rw [List.length_set]; exact hsl.out
      have hW2 : Below w3.heap.size w3 (wr.setCell ⟨w3.heap.size, j, none⟩ (.bool true)) := hb.setCell (Nat.le_refl _) _
      have hBG : B ≠ w3.heap.size := by omega
      have hBl : w3.heap.size < B := hlt7
      have b0 := cell_elsewhere b0 ⟨w3.heap.size, j, none⟩ (.bool true) hBG
      have b1 := cell_elsewhere b1 ⟨w3.heap.size, j, none⟩ (.bool true) hBG
      have f0 := frozen_elsewhere f0 ⟨w3.heap.size, j, none⟩ (.bool true) hBG
      have f1 := frozen_elsewhere f1 ⟨w3.heap.size, j, none⟩ (.bool true) hBG
      have hzW : B < (wr.setCell ⟨w3.heap.size, j, none⟩ (.bool true)).heap.size := by simpa [World.setCell] using hzB
      obtain ⟨PN, HPN⟩ : ∃ PN : Nat, Hid (n / Nat.gcd n (i + 1) = PN) := ⟨_, rfl⟩
      obtain ⟨PD, HPD⟩ : ∃ PD : Nat, Hid ((i + 1) / Nat.gcd n (i + 1) = PD) := ⟨_, rfl⟩
      have hpp := HP0.out i hlt
      rw [HPN.out, HPD.out] at hpp
      have HPR := Lib.hid (fun W h => hpp ▸ period_any l (.slice sa l.length sc) S[i] ((n : Int) - 1) W h)
      have pr1 : Nat.gcd PN PD = 1 := by rw [← HPN.out, ← HPD.out]; exact per_red (by omega)
      have pr2 : 1 ≤ PD := by rw [← HPD.out]; exact per_pos (by omega)
      have pr3 : PN ≤ n := by rw [← HPN.out]; exact Nat.div_le_self _ _
      have pr4 : PD ≤ i + 1 := by rw [← HPD.out]; exact Nat.div_le_self _ _
      have br1 : Nat.gcd BN BD = 1 := by rw [HBN.out, HBD.out]; exact per_red (by omega)
      have br2 : 1 ≤ BD := by rw [HBD.out]; exact per_pos (by omega)
      have br3 : BN ≤ n := by rw [HBN.out]; exact Nat.div_le_self _ _
      have br4 : BD ≤ max i 1 := by rw [HBD.out]; exact Nat.div_le_self _ _
      have hle : PN * BD ≤ BN * PD := by rw [HBN.out, HBD.out, ← HPN.out, ← HPD.out]; exact per_cmp (by omega) (by omega)
      have heq : i = 0 → PN * BD = BN * PD := by
        rintro rfl
        rw [HBN.out, HBD.out, ← HPN.out, ← HPD.out]
        simp
      have hcl := cmpN_le hle
      have hcmp := fun W => frCmp_any PN PD BN BD W (by omega) pr2 (by omega) pr1 (by omega) br2 (by omega) br1
      obtain ⟨c, hc⟩ : ∃ c, cmpN (PN * BD) (BN * PD) = c := ⟨_, rfl⟩
      rw [hc] at hcl
      have HCMP := Lib.hid hcmp
      rw [hc] at HCMP
      have HC := Lib.hid (And.intro hcl.1 (fun e => hcl.2 (heq e)))
      have hpm : PN * (i + 1) ≤ 1073741824 := Nat.le_trans (Nat.mul_le_mul (Nat.le_trans pr3 hn1) (show i + 1 ≤ 61 by omega)) (by decide)
      have hmul := fun W => (frMul_any PN PD (i + 1) 1 W (by omega) pr2 (by omega) pr1 (by omega) (by omega) (by omega) (Nat.gcd_one_right _) hpm (by omega)).mono fun e w' ⟨h1, h2⟩ => (⟨per_make (Y := n) (n := i + 1) (by omega) e (by rw [HPN.out, HPD.out]; exact h1), h2⟩ : e = Ending.returned (.tuple #[vFr (n : Int) 1, .int .i64 0]) ∧ Below W.heap.size W w')
      have c1 : ((i + 1 : Nat) : Int) = (i : Int) + 1 := by omega
      rw [c1] at hmul
      have c2 : ((1 : Nat) : Int) = 1 := rfl
      rw [c2] at hmul
      have HMUL := Lib.hid hmul
      clear hpp pr1 pr2 pr3 pr4 br1 br2 br3 br4 hle heq hcl hcmp hc hpm hmul c1 c2 hSl
      have cSm := (qS.mono hW2)
      have cLm := (qL.mono hW2)
      rw [hj] at HPR
      have HJ := Lib.hid hj
      have hownW := hstore
      clear hstore hj hfalse hsn hsl HP0
      have g0 : decide ((j : Int) < 0) = false := by simp <;> omega
      have g1 : decide (l.length ≤ j) = false := by simp <;> omega
      have g1' : decide ((l.length : Int) ≤ j) = false := by simp <;> omega
      have x1 : IntKind.i64.wrap ((i : Int) + 1) = i + 1 := IntWalk.i64_in _ (by omega)
      by_cases hi0 : i = 0
      · have hi1 : ¬ 0 < i := by omega
        have g2 : decide (0 < i) = false := by simp <;> omega
        have g3 : decide ((0 : Int) < i) = false := by simp <;> omega
        have g4 : ((i : Int) == 0) = true := beqT (by omega)
        have HI0 := Lib.hid hi0
        clear hi0 cSm cLm
        go_wp2_with fail
        generalize wr.setCell ⟨w3.heap.size, j, none⟩ (.bool true) = W2 at *
        go_quiet (fail)
        have hbQ : Below w3.heap.size w3 (W2.drewN nq) := below_drewN hW2 nq
        have hownQ := hownW.below (below_drewN (Below.refl W2.heap.size W2) nq)
        have hzQ : B < (W2.drewN nq).heap.size := by simpa using hzW
        have b0 : (W2.drewN nq).cell? ⟨B, 0, none⟩ = some (.int .i64 BN) := by simpa using b0
        have b1 : (W2.drewN nq).cell? ⟨B, 1, none⟩ = some (.int .i64 BD) := by simpa using b1
        have f0 : (W2.drewN nq).frozen? ⟨B, 0, none⟩ = false := by simpa using f0
        have f1 : (W2.drewN nq).frozen? ⟨B, 1, none⟩ = false := by simpa using f1
        generalize W2.drewN nq = W3 at *
        clear hW2 hownW hzW
        go_wp2_with fail
        refine Calls.mono (HPR.out _ (HVV.out.mono (hb3.trans (hbQ.mono hb3.size)))) ?_
        rintro e w4 ⟨rfl, hb4'⟩
        have b0 := box_lt b0 hb4'
        have b1 := box_lt b1 hb4'
        have f0 := (hb4'.frozen (p := ⟨B, 0, none⟩) hzQ).trans f0
        have f1 := (hb4'.frozen (p := ⟨B, 1, none⟩) hzQ).trans f1
        have hown4 := hownQ.below hb4'
        have hz4 := Nat.lt_of_lt_of_le hzQ hb4'.size
        have hb4 := hbQ.trans (hb4'.mono hbQ.size)
        clear hb4' hownQ hzQ hbQ
        go_wp2_with fail
        have hA5 : Below w4.heap.size w4 (w4.alloc (.cells #[.int .i64 (PN : Int), .int .i64 (PD : Int)] 40)) := (Below.refl _ _).alloc (Nat.le_refl _) _
        have hb5 := hb4.trans (hA5.mono hb4.size)
        refine Calls.mono (HCMP.out _) ?_
        rintro e w5 ⟨rfl, hb5'⟩
        have p0 : w5.cell? ⟨w4.heap.size, 0, none⟩ = some (.int .i64 PN) := (hb5'.cell (p := ⟨w4.heap.size, 0, none⟩) (by simp)).trans (by simp [go_sem])
        have p1 : w5.cell? ⟨w4.heap.size, 1, none⟩ = some (.int .i64 PD) := (hb5'.cell (p := ⟨w4.heap.size, 1, none⟩) (by simp)).trans (by simp [go_sem])
        have hA6 := hA5.trans (hb5'.mono hA5.size)
        have b0 := box_lt b0 hA6
        have b1 := box_lt b1 hA6
        have f0 := (hA6.frozen (p := ⟨B, 0, none⟩) hz4).trans f0
        have f1 := (hA6.frozen (p := ⟨B, 1, none⟩) hz4).trans f1
        have hown5 := hown4.below hA6
        have hz5 := Nat.lt_of_lt_of_le hz4 hA6.size
        have hb5 := hb4.trans (hA6.mono hb4.size)
        have hne5 : B ≠ w4.heap.size := by omega
        have hne5' : w4.heap.size ≠ B := by omega
        have hps : w4.heap.size < w5.heap.size := by have := hb5'.size; simp at this; omega
        generalize w4.heap.size = PB at *
        clear hA5 hA6 hb5' hown4 hz4 hb4
        obtain ⟨hc0, hc1⟩ := HC.out
        have k1 := decide_eq_false (show ¬ 0 < c by omega)
        obtain rfl : c = 0 := hc1 HI0.out
        clear hc0 hc1
        go_wp2_with fail
        refine Calls.mono (HMUL.out _) ?_
        rintro e w6 ⟨rfl, hb6'⟩
        have b0 := box_lt b0 hb6'
        have b1 := box_lt b1 hb6'
        have p0 := box_lt p0 hb6'
        have p1 := box_lt p1 hb6'
        have f0 := (hb6'.frozen (p := ⟨B, 0, none⟩) hz5).trans f0
        have f1 := (hb6'.frozen (p := ⟨B, 1, none⟩) hz5).trans f1
        have hown6 := hown5.below hb6'
        have hz6 := Nat.lt_of_lt_of_le hz5 hb6'.size
        have hps6 := Nat.lt_of_lt_of_le hps hb6'.size
        have hb6 := hb5.trans (hb6'.mono hb5.size)
        clear hb6' hown5 hz5 hps hb5
        have hnq := fun W => neqFr (n : Int) 1 W
        have hbZ0 := (hb6.setCell (p := ⟨B, 0, none⟩) (by exact Nat.le_of_lt hBl) (.int .i64 PN)).setCell (p := ⟨B, 1, none⟩) (by exact Nat.le_of_lt hBl) (.int .i64 PD)
        have hbZ := hbZ0.alloc hbZ0.size (.cells #[.int .i64 (n : Int), .int .i64 1] 40)
        have hownZ := ((hown6.elsewhere (Below.heap_setCell _ ⟨B, 0, none⟩ (.int .i64 PN) _ (by exact hBG.symm))).elsewhere (Below.heap_setCell _ ⟨B, 1, none⟩ (.int .i64 PD) _ (by exact hBG.symm))).below ((Below.refl _ _).alloc (Nat.le_refl _) (.cells #[.int .i64 (n : Int), .int .i64 1] 40))
        have HZ := Lib.hid (And.intro hbZ hownZ)
        have HBX := Lib.hid (box_turned (.int .i64 (PN : Int)) (.int .i64 (PD : Int)) (.cells #[.int .i64 (n : Int), .int .i64 1] 40) b0 b1 f0 f1 hz6)
        have HM1 : Hid (PN = n / Nat.gcd n (max (i + 1) 1)) := by show _ = _; rw [show max (i + 1) 1 = i + 1 from by omega]; exact HPN.out.symm
        have HM2 : Hid (PD = max (i + 1) 1 / Nat.gcd n (max (i + 1) 1)) := by show _ = _; rw [show max (i + 1) 1 = i + 1 from by omega]; exact HPD.out.symm
        clear hbZ0 hbZ hownZ hown6
        go_wp2_with fail
        go_roundw
        case measure => simp [intOf]; omega
        case rel =>
          obtain ⟨z1, z2, z3, z4, z5⟩ := HBX.out
          exact ⟨i + 1, PN, PD, sn.set j true, by go_num, by omega, HZ.out.2, HZ.out.1, z1, z2, z3, z4, z5, hsl2, HSN.out, HM1, HM2⟩
      · have hi1 : 0 < i := by omega
        have g2 : decide (0 < i) = true := by simp <;> omega
        have g3 : decide ((0 : Int) < i) = true := by simp <;> omega
        have g4 : ((i : Int) == 0) = false := beqF (by omega)
        have hip : i - 1 < S.length := by omega
        have hpm := sorted_bd HSS.out (i - 1) hip
        obtain ⟨jp, hjp⟩ : ∃ jp : Nat, S[i - 1] = jp := ⟨S[i - 1].toNat, by omega⟩
        have hw := List.pairwise_iff_getElem.1 HSS.out.2 (i - 1) i hip hlt (by omega)
        have cSp := cSm.intAt (i - 1) hip
        rw [hjp] at cSp hpm hw
        rw [HJ.out] at hw
        have hjpA : jp < l.length := by omega
        obtain ⟨bL, offL, rfl, _, _, cL3, _⟩ := cLm.ev j hjA
        have cLp := (cLm.ev' jp hjpA).2.2.1
        unfold wR at hw
        rw [totalAt_eq l jp hjpA, totalAt_eq l j hjA] at hw
        clear hjp hi0 cSm cLm
        generalize l[j].Total = tj at *
        generalize l[jp].Total = tp at *
        rcases hw with hw | ⟨hw, hw2⟩
        · have k1 : decide (tp < tj) = false := by simp; omega
          have k2 : (tp == tj) = false := by simp; omega
          have k2' : (tj == tp) = false := by simp; omega
          clear hw
          go_wp2_with fail
          generalize wr.setCell ⟨w3.heap.size, j, none⟩ (.bool true) = W2 at *
          have w1' : IntKind.i64.wrap ((i : Int) - 1) = (i : Int) - 1 := IntWalk.i64_in _ (by omega)
          have w2' : ((i : Int) - 1).toNat = i - 1 := by omega
          have w3' : 0 ≤ (i : Int) - 1 := by omega
          have w4' : (i : Int) - 1 < S.length := by omega
          go_quiet (fail)
          clear w1' w2' w3' w4'
          have hbQ : Below w3.heap.size w3 (W2.drewN nq) := below_drewN hW2 nq
          have hownQ := hownW.below (below_drewN (Below.refl W2.heap.size W2) nq)
          have hzQ : B < (W2.drewN nq).heap.size := by simpa using hzW
          have b0 : (W2.drewN nq).cell? ⟨B, 0, none⟩ = some (.int .i64 BN) := by simpa using b0
          have b1 : (W2.drewN nq).cell? ⟨B, 1, none⟩ = some (.int .i64 BD) := by simpa using b1
          have f0 : (W2.drewN nq).frozen? ⟨B, 0, none⟩ = false := by simpa using f0
          have f1 : (W2.drewN nq).frozen? ⟨B, 1, none⟩ = false := by simpa using f1
          generalize W2.drewN nq = W3 at *
          clear hW2 hownW hzW
          go_wp2_with fail
          refine Calls.mono (HPR.out _ (HVV.out.mono (hb3.trans (hbQ.mono hb3.size)))) ?_
          rintro e w4 ⟨rfl, hb4'⟩
          have b0 := box_lt b0 hb4'
          have b1 := box_lt b1 hb4'
          have f0 := (hb4'.frozen (p := ⟨B, 0, none⟩) hzQ).trans f0
          have f1 := (hb4'.frozen (p := ⟨B, 1, none⟩) hzQ).trans f1
          have hown4 := hownQ.below hb4'
          have hz4 := Nat.lt_of_lt_of_le hzQ hb4'.size
          have hb4 := hbQ.trans (hb4'.mono hbQ.size)
          clear hb4' hownQ hzQ hbQ
          go_wp2_with fail
          have hA5 : Below w4.heap.size w4 (w4.alloc (.cells #[.int .i64 (PN : Int), .int .i64 (PD : Int)] 40)) := (Below.refl _ _).alloc (Nat.le_refl _) _
          have hb5 := hb4.trans (hA5.mono hb4.size)
          refine Calls.mono (HCMP.out _) ?_
          rintro e w5 ⟨rfl, hb5'⟩
          have p0 : w5.cell? ⟨w4.heap.size, 0, none⟩ = some (.int .i64 PN) := (hb5'.cell (p := ⟨w4.heap.size, 0, none⟩) (by simp)).trans (by simp [go_sem])
          have p1 : w5.cell? ⟨w4.heap.size, 1, none⟩ = some (.int .i64 PD) := (hb5'.cell (p := ⟨w4.heap.size, 1, none⟩) (by simp)).trans (by simp [go_sem])
          have hA6 := hA5.trans (hb5'.mono hA5.size)
          have b0 := box_lt b0 hA6
          have b1 := box_lt b1 hA6
          have f0 := (hA6.frozen (p := ⟨B, 0, none⟩) hz4).trans f0
          have f1 := (hA6.frozen (p := ⟨B, 1, none⟩) hz4).trans f1
          have hown5 := hown4.below hA6
          have hz5 := Nat.lt_of_lt_of_le hz4 hA6.size
          have hb5 := hb4.trans (hA6.mono hb4.size)
          have hne5 : B ≠ w4.heap.size := by omega
          have hne5' : w4.heap.size ≠ B := by omega
          have hps : w4.heap.size < w5.heap.size := by have := hb5'.size; simp at this; omega
          generalize w4.heap.size = PB at *
          clear hA5 hA6 hb5' hown4 hz4 hb4
          obtain ⟨hc0, hc1⟩ := HC.out
          have k1 := decide_eq_false (show ¬ 0 < c by omega)
          skip
          clear hc0 hc1
          go_wp2_with fail
          refine Calls.mono (HMUL.out _) ?_
          rintro e w6 ⟨rfl, hb6'⟩
          have b0 := box_lt b0 hb6'
          have b1 := box_lt b1 hb6'
          have p0 := box_lt p0 hb6'
          have p1 := box_lt p1 hb6'
          have f0 := (hb6'.frozen (p := ⟨B, 0, none⟩) hz5).trans f0
          have f1 := (hb6'.frozen (p := ⟨B, 1, none⟩) hz5).trans f1
          have hown6 := hown5.below hb6'
          have hz6 := Nat.lt_of_lt_of_le hz5 hb6'.size
          have hps6 := Nat.lt_of_lt_of_le hps hb6'.size
          have hb6 := hb5.trans (hb6'.mono hb5.size)
          clear hb6' hown5 hz5 hps hb5
          have hnq := fun W => neqFr (n : Int) 1 W
          have hbZ0 := (hb6.setCell (p := ⟨B, 0, none⟩) (by exact Nat.le_of_lt hBl) (.int .i64 PN)).setCell (p := ⟨B, 1, none⟩) (by exact Nat.le_of_lt hBl) (.int .i64 PD)
          have hbZ := hbZ0.alloc hbZ0.size (.cells #[.int .i64 (n : Int), .int .i64 1] 40)
          have hownZ := ((hown6.elsewhere (Below.heap_setCell _ ⟨B, 0, none⟩ (.int .i64 PN) _ (by exact hBG.symm))).elsewhere (Below.heap_setCell _ ⟨B, 1, none⟩ (.int .i64 PD) _ (by exact hBG.symm))).below ((Below.refl _ _).alloc (Nat.le_refl _) (.cells #[.int .i64 (n : Int), .int .i64 1] 40))
          have HZ := Lib.hid (And.intro hbZ hownZ)
          have HBX := Lib.hid (box_turned (.int .i64 (PN : Int)) (.int .i64 (PD : Int)) (.cells #[.int .i64 (n : Int), .int .i64 1] 40) b0 b1 f0 f1 hz6)
          have HM1 : Hid (PN = n / Nat.gcd n (max (i + 1) 1)) := by show _ = _; rw [show max (i + 1) 1 = i + 1 from by omega]; exact HPN.out.symm
          have HM2 : Hid (PD = max (i + 1) 1 / Nat.gcd n (max (i + 1) 1)) := by show _ = _; rw [show max (i + 1) 1 = i + 1 from by omega]; exact HPD.out.symm
          clear hbZ0 hbZ hownZ hown6
          go_wp2_with fail
          go_roundw
          case measure => simp [intOf]; omega
          case rel =>
            obtain ⟨z1, z2, z3, z4, z5⟩ := HBX.out
            exact ⟨i + 1, PN, PD, sn.set j true, by go_num, by omega, HZ.out.2, HZ.out.1, z1, z2, z3, z4, z5, hsl2, HSN.out, HM1, HM2⟩
        · subst hw
          have k1 : decide (tp < tp) = false := by simp
          have k2 : (tp == tp) = true := by simp
          have k3 : decide (j < jp) = false := by simp; omega
          have k3' : decide ((j : Int) < jp) = false := by simp; omega
          clear hw2
          go_wp2_with fail
          generalize wr.setCell ⟨w3.heap.size, j, none⟩ (.bool true) = W2 at *
          have w1' : IntKind.i64.wrap ((i : Int) - 1) = (i : Int) - 1 := IntWalk.i64_in _ (by omega)
          have w2' : ((i : Int) - 1).toNat = i - 1 := by omega
          have w3' : 0 ≤ (i : Int) - 1 := by omega
          have w4' : (i : Int) - 1 < S.length := by omega
          go_quiet (fail)
          clear w1' w2' w3' w4'
          have hbQ : Below w3.heap.size w3 (W2.drewN nq) := below_drewN hW2 nq
          have hownQ := hownW.below (below_drewN (Below.refl W2.heap.size W2) nq)
          have hzQ : B < (W2.drewN nq).heap.size := by simpa using hzW
          have b0 : (W2.drewN nq).cell? ⟨B, 0, none⟩ = some (.int .i64 BN) := by simpa using b0
          have b1 : (W2.drewN nq).cell? ⟨B, 1, none⟩ = some (.int .i64 BD) := by simpa using b1
          have f0 : (W2.drewN nq).frozen? ⟨B, 0, none⟩ = false := by simpa using f0
          have f1 : (W2.drewN nq).frozen? ⟨B, 1, none⟩ = false := by simpa using f1
          generalize W2.drewN nq = W3 at *
          clear hW2 hownW hzW
          go_wp2_with fail
          refine Calls.mono (HPR.out _ (HVV.out.mono (hb3.trans (hbQ.mono hb3.size)))) ?_
          rintro e w4 ⟨rfl, hb4'⟩
          have b0 := box_lt b0 hb4'
          have b1 := box_lt b1 hb4'
          have f0 := (hb4'.frozen (p := ⟨B, 0, none⟩) hzQ).trans f0
          have f1 := (hb4'.frozen (p := ⟨B, 1, none⟩) hzQ).trans f1
          have hown4 := hownQ.below hb4'
          have hz4 := Nat.lt_of_lt_of_le hzQ hb4'.size
          have hb4 := hbQ.trans (hb4'.mono hbQ.size)
          clear hb4' hownQ hzQ hbQ
          go_wp2_with fail
          have hA5 : Below w4.heap.size w4 (w4.alloc (.cells #[.int .i64 (PN : Int), .int .i64 (PD : Int)] 40)) := (Below.refl _ _).alloc (Nat.le_refl _) _
          have hb5 := hb4.trans (hA5.mono hb4.size)
          refine Calls.mono (HCMP.out _) ?_
          rintro e w5 ⟨rfl, hb5'⟩
          have p0 : w5.cell? ⟨w4.heap.size, 0, none⟩ = some (.int .i64 PN) := (hb5'.cell (p := ⟨w4.heap.size, 0, none⟩) (by simp)).trans (by simp [go_sem])
          have p1 : w5.cell? ⟨w4.heap.size, 1, none⟩ = some (.int .i64 PD) := (hb5'.cell (p := ⟨w4.heap.size, 1, none⟩) (by simp)).trans (by simp [go_sem])
          have hA6 := hA5.trans (hb5'.mono hA5.size)
          have b0 := box_lt b0 hA6
          have b1 := box_lt b1 hA6
          have f0 := (hA6.frozen (p := ⟨B, 0, none⟩) hz4).trans f0
          have f1 := (hA6.frozen (p := ⟨B, 1, none⟩) hz4).trans f1
          have hown5 := hown4.below hA6
          have hz5 := Nat.lt_of_lt_of_le hz4 hA6.size
          have hb5 := hb4.trans (hA6.mono hb4.size)
          have hne5 : B ≠ w4.heap.size := by omega
          have hne5' : w4.heap.size ≠ B := by omega
          have hps : w4.heap.size < w5.heap.size := by have := hb5'.size; simp at this; omega
          generalize w4.heap.size = PB at *
          clear hA5 hA6 hb5' hown4 hz4 hb4
          obtain ⟨hc0, hc1⟩ := HC.out
          have k1 := decide_eq_false (show ¬ 0 < c by omega)
          skip
          clear hc0 hc1
          go_wp2_with fail
          refine Calls.mono (HMUL.out _) ?_
          rintro e w6 ⟨rfl, hb6'⟩
          have b0 := box_lt b0 hb6'
          have b1 := box_lt b1 hb6'
          have p0 := box_lt p0 hb6'
          have p1 := box_lt p1 hb6'
          have f0 := (hb6'.frozen (p := ⟨B, 0, none⟩) hz5).trans f0
          have f1 := (hb6'.frozen (p := ⟨B, 1, none⟩) hz5).trans f1
          have hown6 := hown5.below hb6'
          have hz6 := Nat.lt_of_lt_of_le hz5 hb6'.size
          have hps6 := Nat.lt_of_lt_of_le hps hb6'.size
          have hb6 := hb5.trans (hb6'.mono hb5.size)
          clear hb6' hown5 hz5 hps hb5
          have hnq := fun W => neqFr (n : Int) 1 W
          have hbZ0 := (hb6.setCell (p := ⟨B, 0, none⟩) (by exact Nat.le_of_lt hBl) (.int .i64 PN)).setCell (p := ⟨B, 1, none⟩) (by exact Nat.le_of_lt hBl) (.int .i64 PD)
          have hbZ := hbZ0.alloc hbZ0.size (.cells #[.int .i64 (n : Int), .int .i64 1] 40)
          have hownZ := ((hown6.elsewhere (Below.heap_setCell _ ⟨B, 0, none⟩ (.int .i64 PN) _ (by exact hBG.symm))).elsewhere (Below.heap_setCell _ ⟨B, 1, none⟩ (.int .i64 PD) _ (by exact hBG.symm))).below ((Below.refl _ _).alloc (Nat.le_refl _) (.cells #[.int .i64 (n : Int), .int .i64 1] 40))
          have HZ := Lib.hid (And.intro hbZ hownZ)
          have HBX := Lib.hid (box_turned (.int .i64 (PN : Int)) (.int .i64 (PD : Int)) (.cells #[.int .i64 (n : Int), .int .i64 1] 40) b0 b1 f0 f1 hz6)
          have HM1 : Hid (PN = n / Nat.gcd n (max (i + 1) 1)) := by show _ = _; rw [show max (i + 1) 1 = i + 1 from by omega]; exact HPN.out.symm
          have HM2 : Hid (PD = max (i + 1) 1 / Nat.gcd n (max (i + 1) 1)) := by show _ = _; rw [show max (i + 1) 1 = i + 1 from by omega]; exact HPD.out.symm
          clear hbZ0 hbZ hownZ hown6
          go_wp2_with fail
          go_roundw
          case measure => simp [intOf]; omega
          case rel =>
            obtain ⟨z1, z2, z3, z4, z5⟩ := HBX.out
            exact ⟨i + 1, PN, PD, sn.set j true, by go_num, by omega, HZ.out.2, HZ.out.1, z1, z2, z3, z4, z5, hsl2, HSN.out, HM1, HM2⟩
    · clear hSl
      go_wp2_with fail
      go_ret
      exact ⟨rfl, hb3.trans (hb.mono hb3.size)⟩

/-! ### The row -/
set_option maxRecDepth 100000 in
theorem lifted (os : Os) (started : os.Started) (H : Type) (enc : TypeId × Value → H) :
    ReturnsInHanded {} Try.checked os 8 .any (Rows.eventsOrderSpec.pre6 enc Try.prog Try.f8 Rows.eventsOrderRow.domain false) (Rows.eventsOrderSpec.post enc Try.prog Try.f8 false true false false) := by
  refine returnsInHanded_of_change (C := Try.checked) own started (by kernel_rfl) Try.func8
    (ChangeSpec.witness6 (enc := enc) (C := Try.checked) false ⟨#[], #[.slice none 0 0, .int .i64 0], []⟩ 8 (by kernel_rfl) (by kernel_rfl) (by kernel_rfl) (by kernel_rfl)) ?_
  intro W base args ds gs before hval0 hW hcnd _
  have hval : ∀ (j : Nat) t v, Try.f8.params[j]? = some t → args[j]? = some v → Value.okWide Try.prog W .any base t v := hval0
  have hW' := hW
  obtain ⟨p, q, hA0, hV, rfl, hfz, hnd⟩ := hW
  have hA : DataW.TrodAll enc Try.prog W 0 (fun _ => true) true Try.f8.params.toList args.toList ds p := hA0
  rw [Try.params8] at hA hval
  obtain ⟨v0, vs0, d0, ds0, p0, q0, hargs, rfl, rfl, h0, r0⟩ := trodAll_cons hA
  obtain ⟨v1, vs1, d1, ds1, p1, q1, rfl, rfl, rfl, h1, r1⟩ := trodAll_cons r0
  obtain ⟨rfl, rfl, rfl⟩ := trodAll_nil r1
  obtain rfl : args = #[v0, v1] := by cases args; simp_all
  obtain ⟨rfl, rfl⟩ := trodVars_none hV
  have k0 := h0
  have lt0 : ∀ x ∈ p0, x.block < W.heap.size := by obtain ⟨m, hm⟩ := k0; exact DataW.trod_lt m _ _ _ hm
  obtain ⟨x0, w0⟩ := openEvs (hval 0 27 v0 rfl rfl) h0
  obtain ⟨a1, rfl, rfl, rfl, w1⟩ := open_int Try.underlying3 (hval 1 3 v1 rfl rfl) h1
  clear hA0 hval0
  refine (walk v0 x0 a1 W w0 w1).mono fun e W' ⟨he, bel⟩ => ?_
  subst he
  exact ⟨_, rfl, _, _, _, [], _, [], hW', trodAll_mk1 (shut_bool Try.underlying4 _), (trodAll_cons_mk (Below.trod laidOut (by kernel_rfl) (of_decide_eq_true (by kernel_rfl)) k0 bel lt0) (trodAll_cons_mk (shut_int Try.underlying3 w1) trodAll_mk0)), rfl, bel.frame _, fun h => by cases h⟩

theorem over : Rows.eventsOrderRow.holds Try.pinned (OpenSpec.ofChange Rows.eventsOrderSpec) :=
  OpenClaim.holds_of_wide 8 Try.f8 rfl rfl rfl rfl rfl rfl rfl ⟨rfl, rfl, rfl, rfl, rfl⟩ rfl rfl rfl rfl rfl (by kernel_rfl) Try.func8 (by kernel_rfl)
    (of_decide_eq_true (by kernel_rfl)) (by unfold Func.isWrapper; first | (rw [if_pos (by decide +kernel)]; kernel_rfl) | (rw [if_neg (by decide +kernel)]; exact ⟨rfl, rfl⟩))
    (fun os started H enc _ => lifted os started H enc)

end Go.Proofs.Ytdlaghjijfgncaa.eventsOrder
namespace Go.Proofs.Ytdlaghjijfgncaa
/-- The statement. -/
theorem eventsOrder_holds : Rows.EventsOrderSaid := eventsOrder.over
#print axioms eventsOrder_holds
end Go.Proofs.Ytdlaghjijfgncaa
