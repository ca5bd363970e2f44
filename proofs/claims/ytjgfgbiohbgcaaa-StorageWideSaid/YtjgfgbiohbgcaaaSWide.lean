/- The law StorageWide returns true for all numbers. Conditions: none beyond the row's own. -/
import Derived.Test.YtjgfgbiohbgcaaaRows
import Derived.WalkKit
import Derived.ProofKit
import Derived.OpenShut
import Derived.ShutString
import Derived.ChangeOld
import Derived.Below
import Derived.Test.YtjgfgbiohbgcaaaSaw
import Derived.Test.YtjgfgbiohbgcaaaSwl
import Derived.Test.YtjgfgbiohbgcaaaRowk
namespace Go.Proofs.Ytjgfgbiohbgcaaa.storageWide
open Go.ChangeShapes Go.WideShapes Go.ChangeAt Go.RowKit
set_option linter.unusedVariables false
set_option linter.unusedSimpArgs false
open Go.ChangeMaps (open_string shut_string)
set_option linter.unusedVariables false

theorem own : ownKnob Try.prog.godebug = none := by kernel_rfl
theorem laidOut : laidOutB Try.prog = true := by kernel_rfl

theorem shaM_cases (area depth : Int) : ((shaM area depth).1 = [] ∧ (shaM area depth).2 ≠ 0) ∨ (shaB area depth = true ∧ shaV area depth ≤ 1125899906842624 ∧ shaM area depth = (shaL depth (shaV area depth), 0)) := by
  unfold shaM
  split
  · exact .inl ⟨rfl, by decide⟩
  · split
    · exact .inl ⟨rfl, by decide⟩
    · rename_i h1 h2
      exact .inr ⟨by simpa using h1, by omega, rfl⟩
theorem shB_sha (D V : Int) (h1 : 1 ≤ D) (h2 : D ≤ 4194304) (h3 : 0 ≤ V) (h4 : V ≤ 1125899906842624) : shB (shaL D V) = true := by
  unfold shB
  rw [tab2 D V (by omega) (by omega) h3 h4]
  simp [lastK, btwB]; omega
theorem widM_cases (D V d m : Int) (h1 : 1 ≤ D) (h2 : D ≤ 4194304) (h3 : 0 ≤ V) (h4 : V ≤ 1125899906842624) :
    ((widM (shaL D V) d m).1 = [] ∧ ((widM (shaL D V) d m).2 = 2 ∨ (widM (shaL D V) d m).2 = 5)) ∨
    (0 ≤ d ∧ d ≤ D ∧ 0 ≤ m ∧ m ≤ 1099511627776 ∧ (widL (shaL D V) d m).any bigB = false ∧ widM (shaL D V) d m = (widL (shaL D V) d m, 0)) := by
  have hl : (lastK (shaL D V)).X = D := by simp [lastK]
  have hn := (insL_len (shaL D V) d).2
  simp only [List.length_cons, List.length_nil] at hn
  unfold widM
  rw [shB_sha D V h1 h2 h3 h4, hl, if_neg (by simp)]
  split
  · exact .inl ⟨rfl, .inl rfl⟩
  · rename_i q1
    rw [if_neg (by omega)]
    split
    · exact .inl ⟨rfl, .inr rfl⟩
    · rename_i q2
      simp [btwB] at q1
      exact .inr ⟨by omega, by omega, by omega, by omega, by simpa using q2, rfl⟩

set_option maxRecDepth 100000 in
set_option maxHeartbeats 16000000 in
theorem walk (area depth d m x : Int) (w : World) (w0 : (Lit.int .i64 area).wf = true) (w1 : (Lit.int .i64 depth).wf = true) (w2 : (Lit.int .i64 d).wf = true) (w3 : (Lit.int .i64 m).wf = true) (w4 : (Lit.int .i64 x).wf = true) :
    Calls Try.prog 4 #[.int .i64 area, .int .i64 depth, .int .i64 d, .int .i64 m, .int .i64 x] w fun e w' => e = .returned (.bool true) ∧ Below w.heap.size w w' := by
  clear w0 w1 w2 w3 w4
  have hsh := fun W => sshaft_any area depth W
  rcases shaM_cases area depth with ⟨r1, r2⟩ | ⟨r1, r2, r3⟩
  · rw [r1] at hsh
    generalize (shaM area depth).2 = E at *
    have u : (E != 0) = true := by rw [bne_iff_ne]; exact r2
    clear r1 r2
    go_enter Try.func4, Try.ntmps4
    go_wp2_with fail
    refine Calls.to (s9awake_any _) ?_
    rintro e w1 rfl hb1
    go_wp2_with fail
    refine Calls.go hb1 (hsh _) ?_
    rintro e w2 ⟨v2, rfl, hown⟩ hb2' hb2
    obtain ⟨a2, c2, rfl⟩ := hown.isSlice
    clear hown hb2'
    go_wp2_with fail
    go_ret
    exact ⟨rfl, hb2⟩
  rw [r3] at hsh
  have hD : 1 ≤ depth ∧ depth ≤ 4194304 := by simp [shaB, btwB] at r1; omega
  have hV := (shaV_bd r1).2.2.1
  simp only at hsh
  obtain ⟨V, hVV⟩ : ∃ V, shaV area depth = V := ⟨_, rfl⟩
  rw [hVV] at hsh r2 hV
  clear r1 r3 hVV
  have hwd := fun v W (hW : IsKns W v (shaL depth V)) => widened_any (shaL depth V) d m v W hW
  rcases widM_cases depth V d m hD.1 hD.2 hV r2 with ⟨q1, q2⟩ | ⟨q1, q2, q3, q4, q5, q6⟩
  · rw [q1] at hwd
    generalize (widM (shaL depth V) d m).2 = E at *
    clear q1 hD hV r2
    rcases q2 with rfl | rfl
    all_goals
      go_enter Try.func4, Try.ntmps4
      go_wp2_with fail
      refine Calls.to (s9awake_any _) ?_
      rintro e w1 rfl hb1
      go_wp2_with fail
      refine Calls.go hb1 (hsh _) ?_
      rintro e w2 ⟨v2, rfl, hown⟩ hb2' hb2
      have hT := hown.isL eKn_len
      obtain ⟨a2, c2, rfl⟩ := hown.isSlice
      clear hown hb2'
      go_wp2_with fail
      refine Calls.go hb2 (hwd _ _ hT) ?_
      rintro e w3 ⟨v3, rfl, hown3⟩ hb3' hb3
      obtain ⟨a3, c3, rfl⟩ := hown3.isSlice
      clear hown3 hb3' hT
      go_wp2_with fail
      go_ret
      exact ⟨rfl, hb3⟩
  rw [q6] at hwd
  simp only at hwd
  have HOK := Lib.hid (fun y (h1 : 0 ≤ y) (h2 : y ≤ depth) => wide_ok depth V d m y hD.1 hD.2 hV r2 q1 q2 q3 q5 h1 h2)
  have ok0 := HOK.out 0 (Int.le_refl _) (by omega)
  have hvl := fun v W (hW : IsKns W v (widL (shaL depth V) d m)) => r6valid_any _ v W hW
  rw [show tabB (widL (shaL depth V) d m) = true from ok0.tab] at hvl
  have hfa := fun v W (hW : IsKns W v (shaL depth V)) => tfloor_any (shaL depth V) x v W hW (tab2 depth V (by omega) (by omega) hV r2)
  have hfb := fun v W (hW : IsKns W v (widL (shaL depth V) d m)) => tfloor_any (widL (shaL depth V) d m) x v W hW ok0.tab
  have ra := tabV_range (tab2 depth V (by omega) (by omega) hV r2) x
  have rb := tabV_range ok0.tab x
  have hll := tabB_len ok0.tab
  have hl0 := ok0.len
  obtain ⟨k0, hk0⟩ : ∃ K, (widL (shaL depth V) d m)[0]'hl0 = K := ⟨_, rfl⟩
  have hl1 : (widL (shaL depth V) d m).length - 1 < (widL (shaL depth V) d m).length := by omega
  obtain ⟨⟨kx, ky⟩, hk1⟩ : ∃ K, (widL (shaL depth V) d m)[(widL (shaL depth V) d m).length - 1]'hl1 = K := ⟨_, rfl⟩
  have e0 : k0 = ⟨0, 0⟩ := hk0.symm.trans ok0.first
  have e1 : kx = depth := by have := ok0.last; rw [hk1] at this; exact this
  subst e0
  subst e1
  clear ok0 q5 q6
  generalize widL (shaL kx V) d m = L at *
  have x1 : IntKind.i64.wrap ((L.length : Int) - 1) = ((L.length - 1 : Nat) : Int) := by rw [IntKind.wrap_i64]; omega
  have z1 : (kx != kx) = false := by simp
  have z2 : (kx == kx) = true := by simp
  have i1 : (0 : Int) < L.length := by omega
  generalize hN : L.length - 1 = N at *
  have i2 : (N : Int) < L.length := by omega
  clear hll
  cases t1 : decide (x < 0)
  rotate_left
  · go_enter Try.func4, Try.ntmps4
    go_wp2_with fail
    refine Calls.to (s9awake_any _) ?_
    rintro e w1 rfl hb1
    go_wp2_with fail
    refine Calls.go hb1 (hsh _) ?_
    rintro e w2 ⟨v2, rfl, hown⟩ hb2' hb2
    have hT := hown.isL eKn_len
    obtain ⟨a2, c2, rfl⟩ := hown.isSlice
    clear hown hb2'
    go_wp2_with fail
    refine Calls.go hb2 (hwd _ _ hT) ?_
    rintro e w3 ⟨v3, rfl, hown3⟩ hb3' hb3
    have hW := hown3.isL eKn_len
    obtain ⟨g3, c3, rfl, _⟩ := hown3.place hl0
    have hT3 := hT.mono hb3'
    clear hown3 hb3' hT
    go_wp2_with fail
    refine Calls.go hb3 (hvl _ _ hW) ?_
    rintro e w4 rfl hb4' hb4
    have hW := hW.mono hb4'
    have hT4 := hT3.mono hb4'
    have hW5 := hW
    obtain ⟨_, _, hce, _, _, hC⟩ := id hW
    simp only [Value.slice.injEq] at hce
    obtain ⟨rfl, _, rfl⟩ := hce
    obtain ⟨b, off, hbo, d1, d2⟩ := hC.kn 0 hl0
    simp only [Option.some.injEq, Addr.mk.injEq] at hbo
    obtain ⟨rfl, rfl, _⟩ := hbo
    rw [hk0] at d1 d2
    obtain ⟨b, off, hbo, d3, d4⟩ := hC.kn N (by omega)
    simp only [Option.some.injEq, Addr.mk.injEq] at hbo
    obtain ⟨rfl, rfl, _⟩ := hbo
    rw [hk1] at d3 d4
    simp only [Nat.zero_mul, Nat.zero_add, Nat.add_zero] at d1 d2 d3 d4
    clear hb4' hb3
    go_wp2_with fail
    refine Calls.go hb4 (hvl _ _ hW) ?_
    rintro e w5 rfl hb5' hb5
    have d3 := cell_up d3 hb5'
    clear hb5' hb4 d1 d2 d4
    go_wp2_with fail
    go_ret
    exact ⟨rfl, hb5⟩
  cases t2 : decide (kx < x)
  rotate_left
  · go_enter Try.func4, Try.ntmps4
    go_wp2_with fail
    refine Calls.to (s9awake_any _) ?_
    rintro e w1 rfl hb1
    go_wp2_with fail
    refine Calls.go hb1 (hsh _) ?_
    rintro e w2 ⟨v2, rfl, hown⟩ hb2' hb2
    have hT := hown.isL eKn_len
    obtain ⟨a2, c2, rfl⟩ := hown.isSlice
    clear hown hb2'
    go_wp2_with fail
    refine Calls.go hb2 (hwd _ _ hT) ?_
    rintro e w3 ⟨v3, rfl, hown3⟩ hb3' hb3
    have hW := hown3.isL eKn_len
    obtain ⟨g3, c3, rfl, _⟩ := hown3.place hl0
    have hT3 := hT.mono hb3'
    clear hown3 hb3' hT
    go_wp2_with fail
    refine Calls.go hb3 (hvl _ _ hW) ?_
    rintro e w4 rfl hb4' hb4
    have hW := hW.mono hb4'
    have hT4 := hT3.mono hb4'
    have hW5 := hW
    obtain ⟨_, _, hce, _, _, hC⟩ := id hW
    simp only [Value.slice.injEq] at hce
    obtain ⟨rfl, _, rfl⟩ := hce
    obtain ⟨b, off, hbo, d1, d2⟩ := hC.kn 0 hl0
    simp only [Option.some.injEq, Addr.mk.injEq] at hbo
    obtain ⟨rfl, rfl, _⟩ := hbo
    rw [hk0] at d1 d2
    obtain ⟨b, off, hbo, d3, d4⟩ := hC.kn N (by omega)
    simp only [Option.some.injEq, Addr.mk.injEq] at hbo
    obtain ⟨rfl, rfl, _⟩ := hbo
    rw [hk1] at d3 d4
    simp only [Nat.zero_mul, Nat.zero_add, Nat.add_zero] at d1 d2 d3 d4
    clear hb4' hb3
    go_wp2_with fail
    refine Calls.go hb4 (hvl _ _ hW) ?_
    rintro e w5 rfl hb5' hb5
    have d3 := cell_up d3 hb5'
    clear hb5' hb4 d1 d2 d4
    go_wp2_with fail
    go_ret
    exact ⟨rfl, hb5⟩
  have s1 := t1
  have s2 := t2
  simp only [decide_eq_false_iff_not] at t1 t2
  have ok := HOK.out x (by omega) (by omega)
  obtain ⟨o3, o4, o5⟩ : tabV (shaL kx V) x - 1 ≤ tabV L x ∧ -3 ≤ tabV L x - tabV (shaL kx V) x - extraV d m x ∧ tabV L x - tabV (shaL kx V) x - extraV d m x ≤ 3 := ⟨ok.lo, ok.d1, ok.d2⟩
  have hEX : extraV d m x = if d < x then m * (x - d) / 1000 else 0 := rfl
  clear ok HOK
  generalize tabV (shaL kx V) x = TA at *
  generalize tabV L x = TB at *
  generalize extraV d m x = EX at *
  have y1 : IntKind.i64.wrap (TA - 1) = TA - 1 := IntWalk.i64_in _ (by omega)
  have u1 : decide (TB < TA - 1) = false := decide_eq_false (by omega)
  have y2 : IntKind.i64.wrap (TB - TA) = TB - TA := IntWalk.i64_in _ (by omega)
  by_cases hdx : d < x
  · rw [if_pos hdx] at hEX
    have m1 : 0 ≤ m * (x - d) := Int.mul_nonneg q3 (by omega)
    have m2 : m * (x - d) ≤ 1099511627776 * 4194304 := Int.mul_le_mul q4 (by omega) (by omega) (by decide)
    have y3 : IntKind.i64.wrap (x - d) = x - d := IntWalk.i64_in _ (by omega)
    have y4 : IntKind.i64.wrap (m * (x - d)) = m * (x - d) := IntWalk.i64_in _ (by generalize m * (x - d) = P at *; omega)
    have y5 : IntKind.i64.wrap ((m * (x - d)).tdiv 1000) = EX := by rw [Int.tdiv_eq_ediv_of_nonneg m1, ← hEX]; exact IntWalk.i64_in _ (by generalize m * (x - d) = P at *; omega)
    have hE2 : 0 ≤ EX ∧ EX ≤ 4611686018427388 := by generalize m * (x - d) = P at *; omega
    have y6 : IntKind.i64.wrap (TB - TA - EX) = TB - TA - EX := IntWalk.i64_in _ (by omega)
    have u2 := decide_eq_true hdx
    have u3 := decide_eq_true o4
    have u4 := decide_eq_true o5
    clear hEX m1 m2 hE2 o3 o4 o5 ra rb t1 t2 hdx
    go_enter Try.func4, Try.ntmps4
    go_wp2_with fail
    refine Calls.to (s9awake_any _) ?_
    rintro e w1 rfl hb1
    go_wp2_with fail
    refine Calls.go hb1 (hsh _) ?_
    rintro e w2 ⟨v2, rfl, hown⟩ hb2' hb2
    have hT := hown.isL eKn_len
    obtain ⟨a2, c2, rfl⟩ := hown.isSlice
    clear hown hb2'
    go_wp2_with fail
    refine Calls.go hb2 (hwd _ _ hT) ?_
    rintro e w3 ⟨v3, rfl, hown3⟩ hb3' hb3
    have hW := hown3.isL eKn_len
    obtain ⟨g3, c3, rfl, _⟩ := hown3.place hl0
    have hT3 := hT.mono hb3'
    clear hown3 hb3' hT
    go_wp2_with fail
    refine Calls.go hb3 (hvl _ _ hW) ?_
    rintro e w4 rfl hb4' hb4
    have hW := hW.mono hb4'
    have hT4 := hT3.mono hb4'
    have hW5 := hW
    obtain ⟨_, _, hce, _, _, hC⟩ := id hW
    simp only [Value.slice.injEq] at hce
    obtain ⟨rfl, _, rfl⟩ := hce
    obtain ⟨b, off, hbo, d1, d2⟩ := hC.kn 0 hl0
    simp only [Option.some.injEq, Addr.mk.injEq] at hbo
    obtain ⟨rfl, rfl, _⟩ := hbo
    rw [hk0] at d1 d2
    obtain ⟨b, off, hbo, d3, d4⟩ := hC.kn N (by omega)
    simp only [Option.some.injEq, Addr.mk.injEq] at hbo
    obtain ⟨rfl, rfl, _⟩ := hbo
    rw [hk1] at d3 d4
    simp only [Nat.zero_mul, Nat.zero_add, Nat.add_zero] at d1 d2 d3 d4
    clear hb4' hb3
    clear hW
    have hW4 := hW5
    go_wp2_with fail
    refine Calls.go hb4 (hfa _ _ hT4) ?_
    rintro e w5 rfl hb5' hb5
    have hW6 := hW4.mono hb5'
    clear hb5' hb4 d1 d2 d3 d4
    go_wp2_with fail
    refine Calls.go hb5 (hfb _ _ hW6) ?_
    rintro e w6 rfl _ hb6
    clear hb5
    go_wp2_with fail
    go_ret
    exact ⟨rfl, hb6⟩
  · rw [if_neg hdx] at hEX
    subst hEX
    rw [Int.sub_zero] at o4 o5
    have u2 := decide_eq_false hdx
    have u3 := decide_eq_true o4
    have u4 := decide_eq_true o5
    have y6 : IntKind.i64.wrap (TB - TA - 0) = TB - TA := by rw [Int.sub_zero]; exact y2
    clear o3 o4 o5 ra rb t1 t2 hdx
    go_enter Try.func4, Try.ntmps4
    go_wp2_with fail
    refine Calls.to (s9awake_any _) ?_
    rintro e w1 rfl hb1
    go_wp2_with fail
    refine Calls.go hb1 (hsh _) ?_
    rintro e w2 ⟨v2, rfl, hown⟩ hb2' hb2
    have hT := hown.isL eKn_len
    obtain ⟨a2, c2, rfl⟩ := hown.isSlice
    clear hown hb2'
    go_wp2_with fail
    refine Calls.go hb2 (hwd _ _ hT) ?_
    rintro e w3 ⟨v3, rfl, hown3⟩ hb3' hb3
    have hW := hown3.isL eKn_len
    obtain ⟨g3, c3, rfl, _⟩ := hown3.place hl0
    have hT3 := hT.mono hb3'
    clear hown3 hb3' hT
    go_wp2_with fail
    refine Calls.go hb3 (hvl _ _ hW) ?_
    rintro e w4 rfl hb4' hb4
    have hW := hW.mono hb4'
    have hT4 := hT3.mono hb4'
    have hW5 := hW
    obtain ⟨_, _, hce, _, _, hC⟩ := id hW
    simp only [Value.slice.injEq] at hce
    obtain ⟨rfl, _, rfl⟩ := hce
    obtain ⟨b, off, hbo, d1, d2⟩ := hC.kn 0 hl0
    simp only [Option.some.injEq, Addr.mk.injEq] at hbo
    obtain ⟨rfl, rfl, _⟩ := hbo
    rw [hk0] at d1 d2
    obtain ⟨b, off, hbo, d3, d4⟩ := hC.kn N (by omega)
    simp only [Option.some.injEq, Addr.mk.injEq] at hbo
    obtain ⟨rfl, rfl, _⟩ := hbo
    rw [hk1] at d3 d4
    simp only [Nat.zero_mul, Nat.zero_add, Nat.add_zero] at d1 d2 d3 d4
    clear hb4' hb3
    clear hW
    have hW4 := hW5
    go_wp2_with fail
    refine Calls.go hb4 (hfa _ _ hT4) ?_
    rintro e w5 rfl hb5' hb5
    have hW6 := hW4.mono hb5'
    clear hb5' hb4 d1 d2 d3 d4
    go_wp2_with fail
    refine Calls.go hb5 (hfb _ _ hW6) ?_
    rintro e w6 rfl _ hb6
    clear hb5
    go_wp2_with fail
    go_ret
    exact ⟨rfl, hb6⟩

/-! ### The row -/
set_option maxRecDepth 100000 in
theorem lifted (os : Os) (started : os.Started) (H : Type) (enc : TypeId × Value → H) :
    ReturnsInHanded {} Try.checked os 4 .any (Rows.storageWideSpec.pre6 enc Try.prog Try.f4 Rows.storageWideRow.domain false) (Rows.storageWideSpec.post enc Try.prog Try.f4 false true false false) := by
  refine returnsInHanded_of_change (C := Try.checked) own started (by kernel_rfl) Try.func4
    (ChangeSpec.witness6 (enc := enc) (C := Try.checked) false ⟨#[], #[.int .i64 0, .int .i64 0, .int .i64 0, .int .i64 0, .int .i64 0], []⟩ 8 (by kernel_rfl) (by kernel_rfl) (by kernel_rfl) (by kernel_rfl)) ?_
  intro W base args ds gs before hval0 hW hcnd _
  have hval : ∀ (j : Nat) t v, Try.f4.params[j]? = some t → args[j]? = some v → Value.okWide Try.prog W .any base t v := hval0
  have hW' := hW
  obtain ⟨p, q, hA0, hV, rfl, hfz, hnd⟩ := hW
  have hA : DataW.TrodAll enc Try.prog W 0 (fun _ => true) true Try.f4.params.toList args.toList ds p := hA0
  rw [Try.params4] at hA hval
  obtain ⟨v0, vs0, d0, ds0, p0, q0, hargs, rfl, rfl, h0, r0⟩ := trodAll_cons hA
  obtain ⟨v1, vs1, d1, ds1, p1, q1, rfl, rfl, rfl, h1, r1⟩ := trodAll_cons r0
  obtain ⟨v2, vs2, d2, ds2, p2, q2, rfl, rfl, rfl, h2, r2⟩ := trodAll_cons r1
  obtain ⟨v3, vs3, d3, ds3, p3, q3, rfl, rfl, rfl, h3, r3⟩ := trodAll_cons r2
  obtain ⟨v4, vs4, d4, ds4, p4, q4, rfl, rfl, rfl, h4, r4⟩ := trodAll_cons r3
  obtain ⟨rfl, rfl, rfl⟩ := trodAll_nil r4
  obtain rfl : args = #[v0, v1, v2, v3, v4] := by cases args; simp_all
  obtain ⟨rfl, rfl⟩ := trodVars_none hV
  obtain ⟨a0, rfl, rfl, rfl, w0⟩ := open_int Try.underlying3 (hval 0 3 v0 rfl rfl) h0
  obtain ⟨a1, rfl, rfl, rfl, w1⟩ := open_int Try.underlying3 (hval 1 3 v1 rfl rfl) h1
  obtain ⟨a2, rfl, rfl, rfl, w2⟩ := open_int Try.underlying3 (hval 2 3 v2 rfl rfl) h2
  obtain ⟨a3, rfl, rfl, rfl, w3⟩ := open_int Try.underlying3 (hval 3 3 v3 rfl rfl) h3
  obtain ⟨a4, rfl, rfl, rfl, w4⟩ := open_int Try.underlying3 (hval 4 3 v4 rfl rfl) h4
  clear hA0 hval0
  refine (walk a0 a1 a2 a3 a4 W w0 w1 w2 w3 w4).mono fun e W' ⟨he, bel⟩ => ?_
  subst he
  exact ⟨_, rfl, _, _, _, [], _, [], hW', trodAll_mk1 (shut_bool Try.underlying4 _), (trodAll_cons_mk (shut_int Try.underlying3 w0) (trodAll_cons_mk (shut_int Try.underlying3 w1) (trodAll_cons_mk (shut_int Try.underlying3 w2) (trodAll_cons_mk (shut_int Try.underlying3 w3) (trodAll_cons_mk (shut_int Try.underlying3 w4) trodAll_mk0))))), rfl, bel.frame _, fun h => by cases h⟩

theorem over : Rows.storageWideRow.holds Try.pinned (OpenSpec.ofChange Rows.storageWideSpec) :=
  OpenClaim.holds_of_wide 4 Try.f4 rfl rfl rfl rfl rfl rfl rfl ⟨rfl, rfl, rfl, rfl, rfl⟩ rfl rfl rfl rfl rfl (by kernel_rfl) Try.func4 (by kernel_rfl)
    (of_decide_eq_true (by kernel_rfl)) (by unfold Func.isWrapper; first | (rw [if_pos (by decide +kernel)]; kernel_rfl) | (rw [if_neg (by decide +kernel)]; exact ⟨rfl, rfl⟩))
    (fun os started H enc _ => lifted os started H enc)

end Go.Proofs.Ytjgfgbiohbgcaaa.storageWide
namespace Go.Proofs.Ytjgfgbiohbgcaaa
/-- The statement. -/
theorem storageWide_holds : Rows.StorageWideSaid := storageWide.over
#print axioms storageWide_holds
end Go.Proofs.Ytjgfgbiohbgcaaa
