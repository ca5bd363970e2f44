/- The law OverflowSpills returns true for every list of volumes and every dry time, and leaves its arguments as they were. Conditions: none beyond the row's own. -/
import Derived.Test.YtbkihndidbmhoaaRows
import Derived.WalkKit
import Derived.ProofKit
import Derived.OpenShut
import Derived.ShutString
import Derived.ChangeOld
import Derived.Below
import Derived.Test.YtbkihndidbmhoaaOv6
import Derived.Test.YtbkihndidbmhoaaLaw1
namespace Go.Proofs.Ytbkihndidbmhoaa.overflowSpills
open Go.ChangeShapes Go.WideShapes Go.ChangeAt Go.RowKit
open Go.ChangeMaps (open_string shut_string)
set_option linter.unusedVariables false

theorem own : ownKnob Try.prog.godebug = none := by kernel_rfl
theorem laidOut : laidOutB Try.prog = true := by kernel_rfl

def IsRow (k : IntKind) (w : World) (a : Option Addr) (len cap : Nat) (zs : List Int) : Prop :=
  (a = none ∧ len = 0 ∧ cap = 0 ∧ zs = []) ∨
  ∃ x, a = some x ∧ len ≤ cap ∧ cap ≤ maxLen ∧ zs.length = cap ∧ (∀ i, i < zs.length → w.cell? (x.add i) = some (.int k (zs.getD i 0))) ∧ ∀ n ∈ zs, (Lit.int k n).wf = true

theorem IsRow.ints {w : World} {a : Option Addr} {len cap : Nat} {zs : List Int} (h : IsRow .i64 w a len cap zs) : IsInts w (.slice a len cap) (zs.take len) := by
  rcases h with ⟨rfl, rfl, rfl, rfl⟩ | ⟨x, rfl, h1, h2, h3, h4, _⟩
  · exact IsL.nil _ _ _
  · have hl : (zs.take len).length = len := by simp; omega
    refine ⟨some x, cap, by rw [hl], by omega, by simpa [maxLen] using h2, ?_⟩
    intro i hi
    rw [hl] at hi
    have hx : x.spot = none := by
      have h5 := h4 0 (by omega)
      simp only [Addr.add, if_true] at h5
      cases hs : x.spot with
      | none => rfl
      | some s =>
        exfalso
        simp only [World.cell?, hs] at h5
        split at h5 <;> simp at h5
    obtain ⟨b, off, s⟩ := x
    simp only at hx
    subst hx
    refine ⟨b, off, rfl, fun j hj => ?_⟩
    obtain rfl : j = 0 := by omega
    have h5 := h4 i (by omega)
    have e : (⟨b, off, none⟩ : Addr).add i = ⟨b, off + i, none⟩ := by unfold Addr.add; split <;> simp_all
    rw [e] at h5
    simp only [Nat.mul_one, Nat.add_zero]
    rw [h5]
    simp [List.getD, List.getElem?_eq_getElem (show i < zs.length by omega)]

set_option maxHeartbeats 1000000 in
theorem walk (a0 : Option Addr) (len0 cap0 : Nat) (z0 : List Int) (a1 : Int) (w : World) (w0 : IsRow .i64 w a0 len0 cap0 z0) (w1 : (Lit.int .i64 a1).wf = true) :
    Calls Try.prog 3 #[.slice a0 len0 cap0, .int .i64 a1] w fun e w' => e = .returned (.bool true) ∧ Below w.heap.size w w' := by
  have hv := w0.ints
  generalize z0.take len0 = xs at *
  obtain ⟨a, cap, he, hcap, hbig, hs⟩ := hv
  simp only [Value.slice.injEq] at he
  obtain ⟨rfl, rfl, rfl⟩ := he
  have hv : IsInts w (.slice a0 xs.length cap0) xs := ⟨a0, cap0, rfl, hcap, hbig, hs⟩
  clear w0 w1 hs
  cases hmany : manyB xs.length
  · go_enter Try.func3, Try.ntmps3
    go_wp2_with fail
    refine Calls.to (awake_any w) ?_
    rintro e w1 rfl hb1
    go_wp2_with fail
    refine Calls.to (many_any _ _) ?_
    rintro e w2 rfl hb2
    have hbb2 := hb1.trans (hb2.mono hb1.size)
    go_wp2_with fail
    refine Calls.to (spillsX_any xs _ a1 _ (hv.mono hbb2)) ?_
    rintro e w3 ⟨v1, rfl, hown1⟩ hb3
    have hbb3 := hbb2.trans (hb3.mono hbb2.size)
    have hs1 := hown1.isL eEv_len
    clear hown1
    go_wp2_with fail
    refine Calls.to (rspills_any xs _ a1 _ (hv.mono hbb3)) ?_
    rintro e w4 ⟨v2, rfl, hown2⟩ hb4
    have hbb4 := hbb3.trans (hb4.mono hbb3.size)
    have hs2 := hown2.isL eEv_len
    have hs1 := hs1.mono hb4
    rw [← spills_law] at hs2 ⊢
    clear hown2
    go_wp2_with fail
    refine Calls.to (eqEvs _ _ _ _ _ hs1 hs2) ?_
    rintro e w5 rfl hb5
    have hbb5 := hbb4.trans (hb5.mono hbb4.size)
    rw [decide_eq_true rfl]
    go_wp2_with fail
    go_ret
    exact ⟨by simp, hbb5⟩
  · go_enter Try.func3, Try.ntmps3
    go_wp2_with fail
    refine Calls.to (awake_any w) ?_
    rintro e w1 rfl hb1
    go_wp2_with fail
    refine Calls.to (many_any _ _) ?_
    rintro e w2 rfl hb2
    have hbb2 := hb1.trans (hb2.mono hb1.size)
    go_wp2_with fail
    go_ret
    exact ⟨rfl, hbb2⟩

/-! ### The row -/
set_option maxRecDepth 100000 in
theorem lifted (os : Os) (started : os.Started) (H : Type) (enc : TypeId × Value → H) :
    ReturnsInHanded {} Try.checked os 3 .any (Rows.overflowSpillsSpec.pre6 enc Try.prog Try.f3 Rows.overflowSpillsRow.domain false) (Rows.overflowSpillsSpec.post enc Try.prog Try.f3 false true false false) := by
  refine returnsInHanded_of_change (C := Try.checked) own started (by kernel_rfl) Try.func3
    (ChangeSpec.witness6 (enc := enc) (C := Try.checked) false ⟨#[], #[.slice none 0 0, .int .i64 0], []⟩ 8 (by kernel_rfl) (by kernel_rfl) (by kernel_rfl) (by kernel_rfl)) ?_
  intro W base args ds gs before hval0 hW hcnd _
  have hval : ∀ (j : Nat) t v, Try.f3.params[j]? = some t → args[j]? = some v → Value.okWide Try.prog W .any base t v := hval0
  have hW' := hW
  obtain ⟨p, q, hA0, hV, rfl, hfz, hnd⟩ := hW
  have hA : DataW.TrodAll enc Try.prog W 0 (fun _ => true) true Try.f3.params.toList args.toList ds p := hA0
  rw [Try.params3] at hA hval
  obtain ⟨v0, vs0, d0, ds0, p0, q0, hargs, rfl, rfl, h0, r0⟩ := trodAll_cons hA
  obtain ⟨v1, vs1, d1, ds1, p1, q1, rfl, rfl, rfl, h1, r1⟩ := trodAll_cons r0
  obtain ⟨rfl, rfl, rfl⟩ := trodAll_nil r1
  obtain rfl : args = #[v0, v1] := by cases args; simp_all
  obtain ⟨rfl, rfl⟩ := trodVars_none hV
  obtain ⟨a0, len0, cap0, rfl⟩ := okWide_slice Try.underlying22 (hval 0 22 v0 rfl rfl)
  have k0 := h0
  have lt0 : ∀ x ∈ p0, x.block < W.heap.size := by obtain ⟨m, hm⟩ := k0; exact DataW.trod_lt m _ _ _ hm
  obtain ⟨z0, w0⟩ : ∃ zs, IsRow .i64 W a0 len0 cap0 zs := by
    obtain ⟨fuel, hf⟩ := h0
    rcases open_ints Try.underlying22 Try.underlying3 (by kernel_rfl) hf with ⟨hcs, _⟩ | ⟨x, l, c, zs, hcs, _, hl, hm, hz, _, hcell, hwz⟩
    · simp [Value.cells] at hcs
      obtain ⟨rfl, rfl, rfl⟩ := hcs
      exact ⟨[], .inl ⟨rfl, rfl, rfl, rfl⟩⟩
    · simp [Value.cells] at hcs
      obtain ⟨rfl, rfl, rfl⟩ := hcs
      exact ⟨zs, .inr ⟨_, rfl, hl, hm, by simpa using hz, hcell, hwz⟩⟩
  obtain ⟨a1, rfl, rfl, rfl, w1⟩ := open_int Try.underlying3 (hval 1 3 v1 rfl rfl) h1
  clear hA0 hval0
  refine (walk a0 len0 cap0 z0 a1 W w0 w1).mono fun e W' ⟨he, bel⟩ => ?_
  subst he
  exact ⟨_, rfl, _, _, _, [], _, [], hW', trodAll_mk1 (shut_bool Try.underlying4 _), (trodAll_cons_mk (Below.trod laidOut (by kernel_rfl) (of_decide_eq_true (by kernel_rfl)) k0 bel lt0) (trodAll_cons_mk (shut_int Try.underlying3 w1) trodAll_mk0)), rfl, bel.frame _, fun h => by cases h⟩

theorem over : Rows.overflowSpillsRow.holds Try.pinned (OpenSpec.ofChange Rows.overflowSpillsSpec) :=
  OpenClaim.holds_of_wide 3 Try.f3 rfl rfl rfl rfl rfl rfl rfl ⟨rfl, rfl, rfl, rfl, rfl⟩ rfl rfl rfl rfl rfl (by kernel_rfl) Try.func3 (by kernel_rfl)
    (of_decide_eq_true (by kernel_rfl)) (by unfold Func.isWrapper; first | (rw [if_pos (by decide +kernel)]; kernel_rfl) | (rw [if_neg (by decide +kernel)]; exact ⟨rfl, rfl⟩))
    (fun os started H enc _ => lifted os started H enc)

end Go.Proofs.Ytbkihndidbmhoaa.overflowSpills
namespace Go.Proofs.Ytbkihndidbmhoaa
/-- The statement. -/
theorem overflowSpills_holds : Rows.OverflowSpillsSaid := overflowSpills.over
#print axioms overflowSpills_holds
end Go.Proofs.Ytbkihndidbmhoaa
