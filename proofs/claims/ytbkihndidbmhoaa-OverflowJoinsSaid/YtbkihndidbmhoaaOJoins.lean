/- The law OverflowJoins returns true for every input, and leaves its arguments as they were. Conditions: none beyond the row's own. -/
import Derived.Test.YtbkihndidbmhoaaRows
import Derived.WalkKit
import Derived.ProofKit
import Derived.OpenShut
import Derived.ShutString
import Derived.ChangeOld
import Derived.Below
import Derived.Test.YtbkihndidbmhoaaRowk
import Derived.Test.YtbkihndidbmhoaaOv9
import Derived.Test.YtbkihndidbmhoaaLaw3
namespace Go.Proofs.Ytbkihndidbmhoaa.overflowJoins
open Go.ChangeShapes Go.WideShapes Go.ChangeAt Go.RowKit
open Go.ChangeMaps (open_string shut_string)
set_option linter.unusedVariables false

theorem own : ownKnob Try.prog.godebug = none := by kernel_rfl
theorem laidOut : laidOutB Try.prog = true := by kernel_rfl

set_option maxRecDepth 100000 in
set_option maxHeartbeats 4000000 in
theorem walk (a0 : Option Addr) (len0 cap0 : Nat) (z0 : List Int) (a1 : Int) (a2 : Int) (a3 : Int) (w : World) (w0 : IsRow .u32 w a0 len0 cap0 z0) (w1 : (Lit.int .u8 a1).wf = true) (w2 : (Lit.int .u8 a2).wf = true) (w3 : (Lit.int .u32 a3).wf = true) :
    Calls Try.prog 4 #[.slice a0 len0 cap0, .int .u8 a1, .int .u8 a2, .int .u32 a3] w fun e w' => e = .returned (.bool true) ∧ Below w.heap.size w w' := by
  have hv : IsU32s w (.slice a0 len0 cap0) (z0.take len0) := w0.list
  have hr : ∀ x ∈ z0.take len0, 0 ≤ x ∧ x ≤ 4294967295 := fun x hx => fits_u32 (w0.fits x hx)
  have b1 := fits_u8 w1
  have b2 := fits_u8 w2
  have b3 := fits_u32 w3
  generalize z0.take len0 = xs at *
  obtain ⟨a, cap, he, hcap, hbig, hs⟩ := hv
  simp only [Value.slice.injEq] at he
  obtain ⟨rfl, rfl, rfl⟩ := he
  have hv : IsU32s w (.slice a0 xs.length cap0) xs := ⟨a0, cap0, rfl, hcap, hbig, hs⟩
  clear w0 w1 w2 w3 hs
  by_cases hl : 200 < xs.length
  · go_enter Try.func4, Try.ntmps4
    go_wp2_with fail
    refine Calls.to (awake_any w) ?_
    rintro e w1 rfl hb1
    go_wp2_with fail
    go_ret
    exact ⟨rfl, hb1⟩
  · have Hr := Lib.hid hr
    clear hr
    obtain ⟨d, hd⟩ : ∃ d, 1 + a1 % 20 = d := ⟨_, rfl⟩
    obtain ⟨m, hm⟩ : ∃ m, a2 % 20 = m := ⟨_, rfl⟩
    have d1 : 1 ≤ d := by omega
    have d2 : d ≤ 20 := by omega
    have m1 : 0 ≤ m := by omega
    have m2 : m ≤ 19 := by omega
    have hS1 := Lib.hid (spillsM_ok xs d (by omega) Hr.out d1)
    have hS2 := Lib.hid (spillsM_ok xs (d + m) (by omega) Hr.out (by omega))
    have hS3 := Lib.hid (spillsM_ok (xs ++ [a3]) d (by simp; omega) (by intro v hv; rcases List.mem_append.1 hv with h | h; exact Hr.out v h; simp at h; omega) d1)
    obtain ⟨j1, j2⟩ := evGo_joins0 d m m1 xs 0 (fun v h => (Hr.out v h).1)
    have hz : a3 = 0 → evGo d (xs ++ [a3]) 0 none = evGo d xs 0 none := fun h => by rw [h]; exact evGo_zero d xs 0 none
    have hn : a3 ≠ 0 → _ := fun h => evGo_snoc d a3 h xs 0 none
    generalize evGo d xs 0 none = A at *
    generalize evGo (d + m) xs 0 none = Bs at *
    generalize evGo d (xs ++ [a3]) 0 none = C at *
    have HJ := Lib.hid j2
    have HZ := Lib.hid hz
    have HN := Lib.hid hn
    clear j2 hz hn
    go_enter Try.func4, Try.ntmps4
    go_wp2_with fail
    refine Calls.to (awake_any w) ?_
    rintro e w1 rfl hb1
    go_wp2_with fail
    refine Calls.to (small_any xs _ _ (hv.mono hb1) (by omega) Hr.out) ?_
    rintro e w2 ⟨v1, rfl, hown1⟩ hb2
    have hbb2 := hb1.trans (hb2.mono hb1.size)
    have hx1 := hown1.isL (fun _ => rfl)
    obtain ⟨av, cv, rfl⟩ := hown1.isSlice
    clear hown1
    go_wp2_with fail
    refine Calls.to (spillsX_any xs _ d _ hx1) ?_
    rintro e w3 ⟨va, rfl, hownA⟩ hb3
    rw [hS1.out] at hownA ⊢
    have hbb3 := hbb2.trans (hb3.mono hbb2.size)
    have hx1 := hx1.mono hb3
    have hA := hownA.isL eEv_len
    clear hownA
    go_wp2_with fail
    refine Calls.to (spillsX_any xs _ (d + m) _ hx1) ?_
    rintro e w4 ⟨vb, rfl, hownB⟩ hb4
    rw [hS2.out] at hownB ⊢
    have hbb4 := hbb3.trans (hb4.mono hbb3.size)
    have hx1 := hx1.mono hb4
    have hA := hA.mono hb4
    have hB := hownB.isL eEv_len
    clear hownB
    go_wp2_with fail
    refine Calls.to (clone_any xs _ _ hx1 (by omega)) ?_
    rintro e w5 ⟨vc, rfl, hownC⟩ hb5
    have hbb5 := hbb4.trans (hb5.mono hbb4.size)
    have hx1 := hx1.mono hb5
    have hwk : IntKind.i64.wrap a3 = a3 := IntWalk.i64_in _ (by omega)
    have hlo : xs.length < 2147483648 := by omega
    go_wp2_with (at_builtin; go_must (refine wpList_push rfl _ _ 22 rfl 3 _ 1 8 undInts infInt rfl (by decide) a3 (fun _ => rfl) (by simp [Value.oneCell']) _ _ rfl hownC rfl hlo (by decide) hb5.size _ rfl ?_); intro g3 cap3 w6 hown6 hbg6 hgl6 hb6 hc61 hc62)
    have hb46 := hb5.trans hb6
    have hbb6 := hbb4.trans (hb46.mono hbb4.size)
    have hA := hA.mono hb46
    have hB := hB.mono hb46
    have hx6 : IsInts w6 (.slice (some ⟨g3, 0, none⟩) (xs.length + 1) cap3) (xs ++ [a3]) := hown6.isL (fun _ => rfl)
    clear hown6 hx1 hownC
    refine Calls.to (spillsX_any (xs ++ [a3]) _ d _ hx6) ?_
    rintro e w7 ⟨vd, rfl, hownD⟩ hb7
    rw [hS3.out] at hownD ⊢
    have hbb7 := hbb6.trans (hb7.mono hbb6.size)
    have hA := hA.mono hb7
    have hB := hB.mono hb7
    have hC := hownD.isL eEv_len
    clear hownD hx6
    obtain ⟨aA, cA, rfl, qA1, qA2, qA⟩ := hA
    obtain ⟨aB, cB, rfl, qB1, qB2, qB⟩ := hB
    obtain ⟨aC, cC, rfl, qC1, qC2, qC⟩ := hC
    have j1' : decide (A.length < Bs.length) = false := by simp; omega
    go_wp2_with fail
    go_loopw [77] (fun s77 wr => ∃ k : Nat, k ≤ A.length ∧ s77 = .int .i64 k ∧ Below w7.heap.size w7 wr) (fun i _ => A.length - (intOf i).toNat)
    case atStart => exact ⟨0, Nat.zero_le _, rfl, Below.refl _ _⟩
    case round =>
      obtain ⟨k, hk, rfl, hb⟩ := hrel
      have hsz := hb.size
      by_cases hlt : k < A.length
      · obtain ⟨bA, offA, rfl, c1, c2, c3, c4⟩ := (qA.mono hb).ev k hlt
        have hany : Bs.any (withinB A[k]) = true := by
          obtain ⟨y, hy, hw⟩ := HJ.out A[k] (List.getElem_mem hlt)
          rw [List.any_eq_true]
          exact ⟨y, hy, by unfold withinB; unfold within at hw; simp; omega⟩
        generalize A[k] = x at *
        have hbw : Below w7.heap.size w7 (wr.alloc (.cells #[.int .i64 x.From, .int .i64 x.To, .int .i64 x.Total, .int .i64 x.Peak] 33)) := hb.alloc hb.size _
        have hB1 : IsEvs (wr.alloc (.cells #[.int .i64 x.From, .int .i64 x.To, .int .i64 x.Total, .int .i64 x.Peak] 33)) (.slice aB Bs.length cB) Bs := ⟨aB, cB, rfl, qB1, qB2, qB.mono hbw⟩
        have hp : PredOn Try.prog 18 #[.pointer (some ⟨wr.heap.size, 0, none⟩)] vEv (withinB x) Bs (wr.alloc (.cells #[.int .i64 x.From, .int .i64 x.To, .int .i64 x.Total, .int .i64 x.Peak] 33)) := by
          intro W hW y _
          refine join1_any x y wr.heap.size W ?_ ?_ ?_ ?_
          all_goals
            rw [hW.cell (by simp), World.cell?_alloc_new]
            rfl
        have HP := Lib.hid hp
        clear hp
        go_wp2_with fail
        refine Calls.to (containsEvs 18 _ ent18 (withinB x) Bs _ _ hB1 HP.out) ?_
        rintro e w8 rfl hb8
        rw [hany]
        have hbb8 := hbw.trans (hb8.mono hbw.size)
        go_wp2_with fail
        go_roundw
        case measure => simp [intOf]; omega
        case rel => exact ⟨k + 1, by omega, by go_num, hbb8⟩
      · have hbb := hbb7.trans (hb.mono hbb7.size)
        have hA : IsEvs wr (.slice aA A.length cA) A := ⟨aA, cA, rfl, qA1, qA2, qA.mono hb⟩
        have hC : IsEvs wr (.slice aC C.length cC) C := ⟨aC, cC, rfl, qC1, qC2, qC.mono hb⟩
        by_cases hz : a3 = 0
        · have hz' : (a3 == 0) = true := by simpa using hz
          have hCA := HZ.out hz
          have HZ0 := Lib.hid hz
          clear hz
          subst hCA
          go_wp2_with fail
          refine Calls.to (eqEvs _ _ _ _ _ hA hC) ?_
          rintro e w9 rfl hb9
          rw [decide_eq_true rfl]
          go_wp2_with fail
          go_ret
          exact ⟨rfl, hbb.trans (hb9.mono hbb.size)⟩
        · have hz' : (a3 == 0) = false := by simpa using hz
          obtain ⟨pre, last, h1, h2, h3⟩ := HN.out hz
          have HZ0 := Lib.hid hz
          clear hz
          subst h1
          have hl1 : (pre ++ [last]).length = pre.length + 1 := by simp
          have qC' := qC.mono hb
          have qA' := qA.mono hb
          obtain ⟨bC, offC, rfl, c1, c2, c3, c4⟩ := IsC.ev qC' pre.length (by simp)
          have hgl : (pre ++ [last])[pre.length]'(by simp) = last := by simp
          rw [hgl, h2] at c2
          clear c1 c3 c4 hgl
          have hsC : IsEvs wr (.slice (some ⟨bC, offC, none⟩) pre.length cC) pre := ⟨_, cC, rfl, by omega, by omega, IsC.pre qC'⟩
          rw [hl1] at qC1 ⊢
          rcases h3 with h3 | ⟨l0, h3⟩
          · subst h3
            have hsA : IsEvs wr (.slice aA A.length cA) A := ⟨_, cA, rfl, qA1, qA2, qA'⟩
            have hq : decide (A = A) = true := by simp
            have HQ := fun n => eqEvsQ A A _ _ (wr.drewN n) (hsA.mono (below_drewN (Below.refl _ _) n)) (hsC.mono (below_drewN (Below.refl _ _) n))
            rw [hq] at HQ
            have t1 : (((A.length : Nat) : Int) + 1 == (A.length : Int)) = false := by simp; omega
            clear hq HZ HN HJ hS1 hS2 hS3 h2 hl1
            go_wp2_with fail
            go_quiet ((go_at_call 14; exact Calls.quiet_of (HQ _)))
            go_wp2_with fail
            go_ret
            exact ⟨rfl, below_drewN hbb _⟩
          · subst h3
            have hl2 : (pre ++ [l0]).length = pre.length + 1 := by simp
            have hsA : IsEvs wr (.slice aA pre.length cA) pre := ⟨_, cA, rfl, by omega, by omega, IsC.pre qA'⟩
            rw [hl2] at qA1 hlt hk ⊢
            have hq : decide (pre = pre) = true := by simp
            have HQ := fun n => eqEvsQ pre pre _ _ (wr.drewN n) (hsA.mono (below_drewN (Below.refl _ _) n)) (hsC.mono (below_drewN (Below.refl _ _) n))
            rw [hq] at HQ
            clear hq HZ HN HJ hS1 hS2 hS3 h2 hl1 hl2
            go_wp2_with fail
            go_quiet ((go_at_call 14; exact Calls.quiet_of (HQ _)))
            go_wp2_with fail
            go_ret
            exact ⟨rfl, below_drewN hbb _⟩

/-! ### The row -/
set_option maxRecDepth 100000 in
theorem lifted (os : Os) (started : os.Started) (H : Type) (enc : TypeId × Value → H) :
    ReturnsInHanded {} Try.checked os 4 .any (Rows.overflowJoinsSpec.pre6 enc Try.prog Try.f4 Rows.overflowJoinsRow.domain false) (Rows.overflowJoinsSpec.post enc Try.prog Try.f4 false true false false) := by
  refine returnsInHanded_of_change (C := Try.checked) own started (by kernel_rfl) Try.func4
    (ChangeSpec.witness6 (enc := enc) (C := Try.checked) false ⟨#[], #[.slice none 0 0, .int .u8 0, .int .u8 0, .int .u32 0], []⟩ 8 (by kernel_rfl) (by kernel_rfl) (by kernel_rfl) (by kernel_rfl)) ?_
  intro W base args ds gs before hval0 hW hcnd _
  have hval : ∀ (j : Nat) t v, Try.f4.params[j]? = some t → args[j]? = some v → Value.okWide Try.prog W .any base t v := hval0
  have hW' := hW
  obtain ⟨p, q, hA0, hV, rfl, hfz, hnd⟩ := hW
  have hA : DataW.TrodAll enc Try.prog W 0 (fun _ => true) true Try.f4.params.toList args.toList ds p := hA0
  rw [Try.params4] at hA hval
  obtain ⟨v0, vs0, d0, ds0, p0, q0, hargs, rfl, rfl, h0, r0⟩ := trodAll_cons hA
  obtain ⟨v1, vs1, d1, ds1, p1, q1, rfl, rfl, rfl, h1, r1⟩ := trodAll_cons r0
  obtain ⟨v2, vs2, d2, ds2, p2, q2, rfl, rfl, rfl, h2, r2⟩ := trodAll_cons r1
  obtain ⟨v3, vs3, d3, ds3, p3, q3, rfl, rfl, rfl, h3, r3⟩ := trodAll_cons r2
  obtain ⟨rfl, rfl, rfl⟩ := trodAll_nil r3
  obtain rfl : args = #[v0, v1, v2, v3] := by cases args; simp_all
  obtain ⟨rfl, rfl⟩ := trodVars_none hV
  obtain ⟨a0, len0, cap0, rfl⟩ := okWide_slice Try.underlying35 (hval 0 35 v0 rfl rfl)
  have k0 := h0
  have lt0 : ∀ x ∈ p0, x.block < W.heap.size := by obtain ⟨m, hm⟩ := k0; exact DataW.trod_lt m _ _ _ hm
  obtain ⟨z0, w0⟩ : ∃ zs, IsRow .u32 W a0 len0 cap0 zs := by
    obtain ⟨fuel, hf⟩ := h0
    rcases open_ints Try.underlying35 Try.underlying36 (by kernel_rfl) hf with ⟨hcs, _⟩ | ⟨x, l, c, zs, hcs, _, hl, hm, hz, _, hcell, hwz⟩
    · simp [Value.cells] at hcs
      obtain ⟨rfl, rfl, rfl⟩ := hcs
      exact ⟨[], .inl ⟨rfl, rfl, rfl, rfl⟩⟩
    · simp [Value.cells] at hcs
      obtain ⟨rfl, rfl, rfl⟩ := hcs
      exact ⟨zs, .inr ⟨_, rfl, hl, hm, by simpa using hz, hcell, hwz⟩⟩
  obtain ⟨a1, rfl, rfl, rfl, w1⟩ := open_int Try.underlying5 (hval 1 5 v1 rfl rfl) h1
  obtain ⟨a2, rfl, rfl, rfl, w2⟩ := open_int Try.underlying5 (hval 2 5 v2 rfl rfl) h2
  obtain ⟨a3, rfl, rfl, rfl, w3⟩ := open_int Try.underlying36 (hval 3 36 v3 rfl rfl) h3
  clear hA0 hval0
  refine (walk a0 len0 cap0 z0 a1 a2 a3 W w0 w1 w2 w3).mono fun e W' ⟨he, bel⟩ => ?_
  subst he
  exact ⟨_, rfl, _, _, _, [], _, [], hW', trodAll_mk1 (shut_bool Try.underlying4 _), (trodAll_cons_mk (Below.trod laidOut (by kernel_rfl) (of_decide_eq_true (by kernel_rfl)) k0 bel lt0) (trodAll_cons_mk (shut_int Try.underlying5 w1) (trodAll_cons_mk (shut_int Try.underlying5 w2) (trodAll_cons_mk (shut_int Try.underlying36 w3) trodAll_mk0)))), rfl, bel.frame _, fun h => by cases h⟩

theorem over : Rows.overflowJoinsRow.holds Try.pinned (OpenSpec.ofChange Rows.overflowJoinsSpec) :=
  OpenClaim.holds_of_wide 4 Try.f4 rfl rfl rfl rfl rfl rfl rfl ⟨rfl, rfl, rfl, rfl, rfl⟩ rfl rfl rfl rfl rfl (by kernel_rfl) Try.func4 (by kernel_rfl)
    (of_decide_eq_true (by kernel_rfl)) (by unfold Func.isWrapper; first | (rw [if_pos (by decide +kernel)]; kernel_rfl) | (rw [if_neg (by decide +kernel)]; exact ⟨rfl, rfl⟩))
    (fun os started H enc _ => lifted os started H enc)

end Go.Proofs.Ytbkihndidbmhoaa.overflowJoins
namespace Go.Proofs.Ytbkihndidbmhoaa
/-- The statement. -/
theorem overflowJoins_holds : Rows.OverflowJoinsSaid := overflowJoins.over
#print axioms overflowJoins_holds
end Go.Proofs.Ytbkihndidbmhoaa
