/- The law EventsRanks returns true for every list of events and all numbers, and leaves its arguments as they were. Conditions: none beyond the row's own. -/
import Derived.Test.YtdlaghjijfgncaaRows
import Derived.WalkKit
import Derived.ProofKit
import Derived.OpenShut
import Derived.ShutString
import Derived.ChangeOld
import Derived.Below
import Derived.Test.YtdlaghjijfgncaaEvr2
import Derived.Test.YtdlaghjijfgncaaRowk
namespace Go.Proofs.Ytdlaghjijfgncaa.eventsRanks
open Go.ChangeShapes Go.WideShapes Go.ChangeAt Go.RowKit
set_option linter.unusedVariables false
set_option linter.unusedSimpArgs false
open Go.ChangeMaps (open_string shut_string)
set_option linter.unusedVariables false

theorem own : ownKnob Try.prog.godebug = none := by kernel_rfl
theorem laidOut : laidOutB Try.prog = true := by kernel_rfl

set_option maxRecDepth 100000 in
set_option maxHeartbeats 8000000 in
theorem walk (v0 : Value) (x0 : Sl Ev) (a1 a2 : Int) (w : World) (w0 : v0 = vSl x0 ∧ gSl eEv 4 gEv w x0) (w1 : (Lit.int .i64 a1).wf = true) (w2 : (Lit.int .i64 a2).wf = true) :
    Calls Try.prog 4 #[v0, .int .i64 a1, .int .i64 a2] w fun e w' => e = .returned (.bool true) ∧ Below w.heap.size w w' := by
  obtain ⟨rfl, hg⟩ := w0
  clear w1 w2
  have HVV : Hid (IsEvs w (vSl x0) x0.xs) := hg.isL
  clear hg
  obtain ⟨sa, sc, l⟩ := x0
  simp only [vSl] at HVV ⊢
  obtain ⟨⟨⟨N, D⟩, F⟩, HP⟩ : ∃ r, Hid (perM l a1 a2 = r) := ⟨_, rfl⟩
  obtain ⟨⟨O1, O2⟩, HL⟩ : ∃ r, Hid (longM l = r) := ⟨_, rfl⟩
  cases q1 : decide ((l.length : Int) ≤ 60)
  · cases q2 : decide ((l.length : Int) ≤ 1000)
    rotate_left
    · go_enter Try.func4, Try.ntmps4
      go_wp2_with fail
      refine Calls.to (eawake_any _) ?_
      rintro e w1 rfl hb1
      go_wp2_with fail
      refine Calls.go hb1 (short_any l _ _ (HVV.out.mono hb1)) ?_
      rintro e w2 rfl hb2' hb2
      rw [q1]
      go_wp2_with fail
      go_ret
      exact ⟨rfl, hb2⟩
    cases q3 : decide ((1010 : Int) < l.length)
    rotate_left
    · go_enter Try.func4, Try.ntmps4
      go_wp2_with fail
      refine Calls.to (eawake_any _) ?_
      rintro e w1 rfl hb1
      go_wp2_with fail
      refine Calls.go hb1 (short_any l _ _ (HVV.out.mono hb1)) ?_
      rintro e w2 rfl hb2' hb2
      rw [q1]
      go_wp2_with fail
      go_ret
      exact ⟨rfl, hb2⟩
    have hvm : validM l = false := by
      unfold validM
      rw [if_pos]
      simp only [decide_eq_false_iff_not] at q2
      omega
    go_enter Try.func4, Try.ntmps4
    go_wp2_with fail
    refine Calls.to (eawake_any _) ?_
    rintro e w1 rfl hb1
    go_wp2_with fail
    refine Calls.go hb1 (short_any l _ _ (HVV.out.mono hb1)) ?_
    rintro e w2 rfl hb2' hb2
    rw [q1]
    clear hb2' hb1
    go_wp2_with fail
    refine Calls.go hb2 (rank_any l _ _ (HVV.out.mono hb2)) ?_
    rintro e w3 ⟨v3, code, rfl, hout⟩ hb3' hb3
    go_wp2_with fail
    refine Calls.go hb3 (period_any l _ a1 a2 _ (HVV.out.mono hb3)) ?_
    rintro e w4 rfl hb4' hb4
    rw [HP.out]
    have hb34 := hb4'
    clear hb4'
    go_wp2_with fail
    have hbA : Below w4.heap.size w4 (w4.alloc (.cells #[.int .i64 N, .int .i64 D] 40)) := (Below.refl _ _).alloc (Nat.le_refl _) _
    have hb5 := hb4.trans (hbA.mono hb4.size)
    refine Calls.go hb5 (longest_any l _ _ (HVV.out.mono hb5)) ?_
    rintro e w6 rfl hb6' hb6
    rw [HL.out]
    have k0 : w6.cell? ⟨w4.heap.size, 0, none⟩ = some (.int .i64 N) := (hb6'.cell (p := ⟨w4.heap.size, 0, none⟩) (by simp)).trans (by simp [go_sem])
    have k1 : w6.cell? ⟨w4.heap.size, 1, none⟩ = some (.int .i64 D) := (hb6'.cell (p := ⟨w4.heap.size, 1, none⟩) (by simp)).trans (by simp [go_sem])
    have hb36 := hb34.trans ((hbA.trans (hb6'.mono hbA.size)).mono hb34.size)
    clear hb6' hb5 hbA hb34 hb4
    go_wp2_with fail
    refine Calls.go hb6 (r21valid_any l _ _ (HVV.out.mono hb6)) ?_
    rintro e w7 rfl hb7' hb7
    have k0 := box_lt k0 hb7'
    have k1 := box_lt k1 hb7'
    have hb37 := hb36.trans (hb7'.mono hb36.size)
    clear hb7' hb6 hb36
    have HP2 := HP.out.symm.trans (show perM l a1 a2 = ((0, 0), 1) from by simp only [perM, hvm, if_true])
    have HL2 := HL.out.symm.trans (show longM l = (0, 1) from by simp only [longM, hvm, if_true])
    simp only [Prod.mk.injEq] at HP2 HL2
    obtain ⟨⟨rfl, rfl⟩, rfl⟩ := HP2
    obtain ⟨rfl, rfl⟩ := HL2
    have ho : v3 = .slice none 0 0 ∧ code = 1 := by
      rcases hout with ⟨_, h1, h2⟩ | ⟨h, _⟩
      · exact ⟨h1, h2⟩
      · rw [hvm] at h; cases h
    obtain ⟨rfl, rfl⟩ := ho
    clear hout hb37
    try rw [hvm]
    go_wp2_with fail
    go_ret
    exact ⟨rfl, hb7⟩
  have hl60 : l.length ≤ 60 := by simp only [decide_eq_true_eq] at q1; omega
  have q2 : decide ((l.length : Int) ≤ 1000) = true := decide_eq_true (by omega)
  have q3 : decide ((1010 : Int) < l.length) = false := decide_eq_false (by omega)
  go_enter Try.func4, Try.ntmps4
  go_wp2_with fail
  refine Calls.to (eawake_any _) ?_
  rintro e w1 rfl hb1
  go_wp2_with fail
  refine Calls.go hb1 (short_any l _ _ (HVV.out.mono hb1)) ?_
  rintro e w2 rfl hb2' hb2
  rw [q1]
  clear hb2' hb1
  go_wp2_with fail
  refine Calls.go hb2 (rank_any l _ _ (HVV.out.mono hb2)) ?_
  rintro e w3 ⟨v3, code, rfl, hout⟩ hb3' hb3
  go_wp2_with fail
  refine Calls.go hb3 (period_any l _ a1 a2 _ (HVV.out.mono hb3)) ?_
  rintro e w4 rfl hb4' hb4
  rw [HP.out]
  have hb34 := hb4'
  clear hb4'
  go_wp2_with fail
  have hbA : Below w4.heap.size w4 (w4.alloc (.cells #[.int .i64 N, .int .i64 D] 40)) := (Below.refl _ _).alloc (Nat.le_refl _) _
  have hb5 := hb4.trans (hbA.mono hb4.size)
  refine Calls.go hb5 (longest_any l _ _ (HVV.out.mono hb5)) ?_
  rintro e w6 rfl hb6' hb6
  rw [HL.out]
  have k0 : w6.cell? ⟨w4.heap.size, 0, none⟩ = some (.int .i64 N) := (hb6'.cell (p := ⟨w4.heap.size, 0, none⟩) (by simp)).trans (by simp [go_sem])
  have k1 : w6.cell? ⟨w4.heap.size, 1, none⟩ = some (.int .i64 D) := (hb6'.cell (p := ⟨w4.heap.size, 1, none⟩) (by simp)).trans (by simp [go_sem])
  have hb36 := hb34.trans ((hbA.trans (hb6'.mono hbA.size)).mono hb34.size)
  clear hb6' hb5 hbA hb34 hb4
  go_wp2_with fail
  refine Calls.go hb6 (r21valid_any l _ _ (HVV.out.mono hb6)) ?_
  rintro e w7 rfl hb7' hb7
  have k0 := box_lt k0 hb7'
  have k1 := box_lt k1 hb7'
  have hb37 := hb36.trans (hb7'.mono hb36.size)
  clear hb7' hb6 hb36
  cases hvm : validM l
  · have HP2 := HP.out.symm.trans (show perM l a1 a2 = ((0, 0), 1) from by simp only [perM, hvm, if_true])
    have HL2 := HL.out.symm.trans (show longM l = (0, 1) from by simp only [longM, hvm, if_true])
    simp only [Prod.mk.injEq] at HP2 HL2
    obtain ⟨⟨rfl, rfl⟩, rfl⟩ := HP2
    obtain ⟨rfl, rfl⟩ := HL2
    have ho : v3 = .slice none 0 0 ∧ code = 1 := by
      rcases hout with ⟨_, h1, h2⟩ | ⟨h, _⟩
      · exact ⟨h1, h2⟩
      · rw [hvm] at h; cases h
    obtain ⟨rfl, rfl⟩ := ho
    clear hout hb37
    try rw [hvm]
    go_wp2_with fail
    go_ret
    exact ⟨rfl, hb7⟩
  have HVM := Lib.hid hvm
  have hall := validM_all hvm
  have hvl := validM_len hvm
  have ho : code = 0 ∧ ∃ S, SortedOf (wR l) (iota l.length) S ∧ IsInts w3 v3 S := by
    rcases hout with ⟨h, _⟩ | ⟨_, h1, S, h2, h3⟩
    · rw [hvm] at h; cases h
    · exact ⟨h1, S, h2, h3.isL (fun _ => rfl)⟩
  obtain ⟨rfl, S, hS, hsS⟩ := ho
  have hsS := hsS.mono hb37
  have HSS := Lib.hid hS
  obtain ⟨ra, rc, rfl⟩ := hsS.isSl
  clear hout hb37 hvm hS
  go_wp2_with fail
  refine Calls.go hb7 (r21rank_any l _ S _ (HVV.out.mono hb7) hvl HSS.out) ?_
  rintro e wR ⟨vr, rfl, hownr⟩ hbR' hbR
  have k0 := box_lt k0 hbR'
  have k1 := box_lt k1 hbR'
  have hsS := hsS.mono hbR'
  have hrs := hownr.isL (fun _ => rfl)
  clear hownr hbR' hb7
  obtain ⟨qa, qc, rfl⟩ := hrs.isSl
  go_wp2_with fail
  refine Calls.go hbR (eqInts _ _ _ _ _ hsS hrs) ?_
  rintro e w8 rfl hb8' hb8
  rw [decide_eq_true rfl]
  have k0 := box_lt k0 hb8'
  have k1 := box_lt k1 hb8'
  clear hsS hrs hb8' hbR
  by_cases p1 : a1 < 0
  · have u1 := decide_eq_true p1
    have HP2 := HP.out.symm.trans (show perM l a1 a2 = ((0, 0), 2) from by simp only [perM, HVM.out, p1, true_or, if_true]; simp)
    simp only [Prod.mk.injEq] at HP2
    obtain ⟨⟨rfl, rfl⟩, rfl⟩ := HP2
    by_cases z : l.length = 0
    · have t := beqT (show (l.length : Int) = 0 by omega)
      have HLO := HL.out.symm.trans (show longM l = (0, 14) from by simp only [longM, HVM.out, z, if_true]; simp)
      simp only [Prod.mk.injEq] at HLO
      obtain ⟨rfl, rfl⟩ := HLO
      clear z
      go_wp2_with fail
      go_ret
      exact ⟨rfl, hb8⟩
    have t := beqF (show ¬ (l.length : Int) = 0 by omega)
    have HLO := HL.out.symm.trans (show longM l = ((longTo l l.length : Int), 0) from by simp only [longM, HVM.out, z, if_false]; simp)
    simp only [Prod.mk.injEq] at HLO
    obtain ⟨rfl, rfl⟩ := HLO
    have hpos : 0 < l.length := by omega
    have HLG := fun W h => r21longest_any l (.slice sa l.length sc) W h hvl hall hpos
    generalize (longTo l l.length : Int) = LL at *
    have hself : (LL == LL) = true := by simp
    have hne : ¬ l = [] := by rintro rfl; simp at hpos
    clear z
    go_wp2_with fail
    refine Calls.go hb8 (HLG _ (HVV.out.mono hb8)) ?_
    rintro e wL rfl hbL' hbL
    go_wp2_with fail
    go_ret
    exact ⟨rfl, hbL⟩
  have u1 := decide_eq_false p1
  by_cases p2 : (l.length : Int) ≤ a1
  · have u2 := decide_eq_true p2
    have HP2 := HP.out.symm.trans (show perM l a1 a2 = ((0, 0), 2) from by simp only [perM, HVM.out, p2, true_or, or_true, if_true]; simp)
    simp only [Prod.mk.injEq] at HP2
    obtain ⟨⟨rfl, rfl⟩, rfl⟩ := HP2
    by_cases z : l.length = 0
    · have t := beqT (show (l.length : Int) = 0 by omega)
      have HLO := HL.out.symm.trans (show longM l = (0, 14) from by simp only [longM, HVM.out, z, if_true]; simp)
      simp only [Prod.mk.injEq] at HLO
      obtain ⟨rfl, rfl⟩ := HLO
      clear z
      go_wp2_with fail
      go_ret
      exact ⟨rfl, hb8⟩
    have t := beqF (show ¬ (l.length : Int) = 0 by omega)
    have HLO := HL.out.symm.trans (show longM l = ((longTo l l.length : Int), 0) from by simp only [longM, HVM.out, z, if_false]; simp)
    simp only [Prod.mk.injEq] at HLO
    obtain ⟨rfl, rfl⟩ := HLO
    have hpos : 0 < l.length := by omega
    have HLG := fun W h => r21longest_any l (.slice sa l.length sc) W h hvl hall hpos
    generalize (longTo l l.length : Int) = LL at *
    have hself : (LL == LL) = true := by simp
    have hne : ¬ l = [] := by rintro rfl; simp at hpos
    clear z
    go_wp2_with fail
    refine Calls.go hb8 (HLG _ (HVV.out.mono hb8)) ?_
    rintro e wL rfl hbL' hbL
    go_wp2_with fail
    go_ret
    exact ⟨rfl, hbL⟩
  have u2 := decide_eq_false p2
  by_cases p3 : a2 < 1
  · have u3 := decide_eq_true p3
    have HP2 := HP.out.symm.trans (show perM l a1 a2 = ((0, 0), 2) from by simp only [perM, HVM.out, p3, true_or, or_true, if_true]; simp)
    simp only [Prod.mk.injEq] at HP2
    obtain ⟨⟨rfl, rfl⟩, rfl⟩ := HP2
    by_cases z : l.length = 0
    · have t := beqT (show (l.length : Int) = 0 by omega)
      have HLO := HL.out.symm.trans (show longM l = (0, 14) from by simp only [longM, HVM.out, z, if_true]; simp)
      simp only [Prod.mk.injEq] at HLO
      obtain ⟨rfl, rfl⟩ := HLO
      clear z
      go_wp2_with fail
      go_ret
      exact ⟨rfl, hb8⟩
    have t := beqF (show ¬ (l.length : Int) = 0 by omega)
    have HLO := HL.out.symm.trans (show longM l = ((longTo l l.length : Int), 0) from by simp only [longM, HVM.out, z, if_false]; simp)
    simp only [Prod.mk.injEq] at HLO
    obtain ⟨rfl, rfl⟩ := HLO
    have hpos : 0 < l.length := by omega
    have HLG := fun W h => r21longest_any l (.slice sa l.length sc) W h hvl hall hpos
    generalize (longTo l l.length : Int) = LL at *
    have hself : (LL == LL) = true := by simp
    have hne : ¬ l = [] := by rintro rfl; simp at hpos
    clear z
    go_wp2_with fail
    refine Calls.go hb8 (HLG _ (HVV.out.mono hb8)) ?_
    rintro e wL rfl hbL' hbL
    go_wp2_with fail
    go_ret
    exact ⟨rfl, hbL⟩
  have u3 := decide_eq_false p3
  by_cases p4 : 10000 < a2
  · have u4 := decide_eq_true p4
    have HP2 := HP.out.symm.trans (show perM l a1 a2 = ((0, 0), 2) from by simp only [perM, HVM.out, p4, or_true, if_true]; simp)
    simp only [Prod.mk.injEq] at HP2
    obtain ⟨⟨rfl, rfl⟩, rfl⟩ := HP2
    by_cases z : l.length = 0
    · have t := beqT (show (l.length : Int) = 0 by omega)
      have HLO := HL.out.symm.trans (show longM l = (0, 14) from by simp only [longM, HVM.out, z, if_true]; simp)
      simp only [Prod.mk.injEq] at HLO
      obtain ⟨rfl, rfl⟩ := HLO
      clear z
      go_wp2_with fail
      go_ret
      exact ⟨rfl, hb8⟩
    have t := beqF (show ¬ (l.length : Int) = 0 by omega)
    have HLO := HL.out.symm.trans (show longM l = ((longTo l l.length : Int), 0) from by simp only [longM, HVM.out, z, if_false]; simp)
    simp only [Prod.mk.injEq] at HLO
    obtain ⟨rfl, rfl⟩ := HLO
    have hpos : 0 < l.length := by omega
    have HLG := fun W h => r21longest_any l (.slice sa l.length sc) W h hvl hall hpos
    generalize (longTo l l.length : Int) = LL at *
    have hself : (LL == LL) = true := by simp
    have hne : ¬ l = [] := by rintro rfl; simp at hpos
    clear z
    go_wp2_with fail
    refine Calls.go hb8 (HLG _ (HVV.out.mono hb8)) ?_
    rintro e wL rfl hbL' hbL
    go_wp2_with fail
    go_ret
    exact ⟨rfl, hbL⟩
  have u4 := decide_eq_false p4
  obtain ⟨kn, rfl⟩ : ∃ x : Nat, a1 = (x : Int) := ⟨a1.toNat, by omega⟩
  obtain ⟨n, rfl⟩ : ∃ x : Nat, a2 = (x : Int) - 1 := ⟨(a2 + 1).toNat, by omega⟩
  have hkn : kn < l.length := by omega
  have h2n : 2 ≤ n := by omega
  have hn1 : n ≤ 10001 := by omega
  have HP2 := HP.out.symm.trans (show perM l kn ((n : Int) - 1) = ((((n / Nat.gcd n (rankN l kn) : Nat) : Int), ((rankN l kn / Nat.gcd n (rankN l kn) : Nat) : Int)), 0) from by
    simp only [perM, HVM.out, p1, p2, p3, p4, or_self, if_false]
    rw [show ((n : Int) - 1 + 1).toNat = n from by omega]
    simp)
  simp only [Prod.mk.injEq] at HP2
  obtain ⟨⟨hN, hD⟩, rfl⟩ := HP2
  have HPR := fun W h => r21period_any l (.slice sa l.length sc) kn n W h hvl hkn h2n hn1
  rw [← hN, ← hD] at HPR
  have hnq := fun W => neqFr N D W
  clear hN hD p1 p2 p3 p4 HP
  go_wp2_with fail
  refine wp_region_more_lit (by kernel_rfl) (by kernel_rfl) ?_
  repeat (go_big_quiet_step (((go_at_call 22; exact Calls.more_of (HPR _ (HVV.out.mono (hb8.trans ((below_more _ _).mono hb8.size))))))))
  refine wpQuiet_nil ?_
  intro _ hwq
  obtain ⟨xq, hwq⟩ := hwq
  subst hwq
  have hbQ := hb8.trans ((below_more w8 xq).mono hb8.size)
  clear HPR hnq
  generalize more w8 xq = w9 at *
  by_cases z : l.length = 0
  · have t := beqT (show (l.length : Int) = 0 by omega)
    have HLO := HL.out.symm.trans (show longM l = (0, 14) from by simp only [longM, HVM.out, z, if_true]; simp)
    simp only [Prod.mk.injEq] at HLO
    obtain ⟨rfl, rfl⟩ := HLO
    clear z
    go_wp2_with fail
    go_ret
    exact ⟨rfl, hbQ⟩
  have t := beqF (show ¬ (l.length : Int) = 0 by omega)
  have HLO := HL.out.symm.trans (show longM l = ((longTo l l.length : Int), 0) from by simp only [longM, HVM.out, z, if_false]; simp)
  simp only [Prod.mk.injEq] at HLO
  obtain ⟨rfl, rfl⟩ := HLO
  have hpos : 0 < l.length := by omega
  have HLG := fun W h => r21longest_any l (.slice sa l.length sc) W h hvl hall hpos
  generalize (longTo l l.length : Int) = LL at *
  have hself : (LL == LL) = true := by simp
  have hne : ¬ l = [] := by rintro rfl; simp at hpos
  clear z
  go_wp2_with fail
  refine Calls.go hbQ (HLG _ (HVV.out.mono hbQ)) ?_
  rintro e wL rfl hbL' hbL
  go_wp2_with fail
  go_ret
  exact ⟨rfl, hbL⟩

/-! ### The row -/
set_option maxRecDepth 100000 in
theorem lifted (os : Os) (started : os.Started) (H : Type) (enc : TypeId × Value → H) :
    ReturnsInHanded {} Try.checked os 4 .any (Rows.eventsRanksSpec.pre6 enc Try.prog Try.f4 Rows.eventsRanksRow.domain false) (Rows.eventsRanksSpec.post enc Try.prog Try.f4 false true false false) := by
  refine returnsInHanded_of_change (C := Try.checked) own started (by kernel_rfl) Try.func4
    (ChangeSpec.witness6 (enc := enc) (C := Try.checked) false ⟨#[], #[.slice none 0 0, .int .i64 0, .int .i64 0], []⟩ 8 (by kernel_rfl) (by kernel_rfl) (by kernel_rfl) (by kernel_rfl)) ?_
  intro W base args ds gs before hval0 hW hcnd _
  have hval : ∀ (j : Nat) t v, Try.f4.params[j]? = some t → args[j]? = some v → Value.okWide Try.prog W .any base t v := hval0
  have hW' := hW
  obtain ⟨p, q, hA0, hV, rfl, hfz, hnd⟩ := hW
  have hA : DataW.TrodAll enc Try.prog W 0 (fun _ => true) true Try.f4.params.toList args.toList ds p := hA0
  rw [Try.params4] at hA hval
  obtain ⟨v0, vs0, d0, ds0, p0, q0, hargs, rfl, rfl, h0, r0⟩ := trodAll_cons hA
  obtain ⟨v1, vs1, d1, ds1, p1, q1, rfl, rfl, rfl, h1, r1⟩ := trodAll_cons r0
  obtain ⟨v2, vs2, d2, ds2, p2, q2, rfl, rfl, rfl, h2, r2⟩ := trodAll_cons r1
  obtain ⟨rfl, rfl, rfl⟩ := trodAll_nil r2
  obtain rfl : args = #[v0, v1, v2] := by cases args; simp_all
  obtain ⟨rfl, rfl⟩ := trodVars_none hV
  have k0 := h0
  have lt0 : ∀ x ∈ p0, x.block < W.heap.size := by obtain ⟨m, hm⟩ := k0; exact DataW.trod_lt m _ _ _ hm
  obtain ⟨x0, w0⟩ := openEvs (hval 0 27 v0 rfl rfl) h0
  obtain ⟨a1, rfl, rfl, rfl, w1⟩ := open_int Try.underlying3 (hval 1 3 v1 rfl rfl) h1
  obtain ⟨a2, rfl, rfl, rfl, w2⟩ := open_int Try.underlying3 (hval 2 3 v2 rfl rfl) h2
  clear hA0 hval0
  refine (walk v0 x0 a1 a2 W w0 w1 w2).mono fun e W' ⟨he, bel⟩ => ?_
  subst he
  exact ⟨_, rfl, _, _, _, [], _, [], hW', trodAll_mk1 (shut_bool Try.underlying4 _), (trodAll_cons_mk (Below.trod laidOut (by kernel_rfl) (of_decide_eq_true (by kernel_rfl)) k0 bel lt0) (trodAll_cons_mk (shut_int Try.underlying3 w1) (trodAll_cons_mk (shut_int Try.underlying3 w2) trodAll_mk0))), rfl, bel.frame _, fun h => by cases h⟩

theorem over : Rows.eventsRanksRow.holds Try.pinned (OpenSpec.ofChange Rows.eventsRanksSpec) :=
  OpenClaim.holds_of_wide 4 Try.f4 rfl rfl rfl rfl rfl rfl rfl ⟨rfl, rfl, rfl, rfl, rfl⟩ rfl rfl rfl rfl rfl (by kernel_rfl) Try.func4 (by kernel_rfl)
    (of_decide_eq_true (by kernel_rfl)) (by unfold Func.isWrapper; first | (rw [if_pos (by decide +kernel)]; kernel_rfl) | (rw [if_neg (by decide +kernel)]; exact ⟨rfl, rfl⟩))
    (fun os started H enc _ => lifted os started H enc)

end Go.Proofs.Ytdlaghjijfgncaa.eventsRanks
namespace Go.Proofs.Ytdlaghjijfgncaa
/-- The statement. -/
theorem eventsRanks_holds : Rows.EventsRanksSaid := eventsRanks.over
#print axioms eventsRanks_holds
end Go.Proofs.Ytdlaghjijfgncaa
