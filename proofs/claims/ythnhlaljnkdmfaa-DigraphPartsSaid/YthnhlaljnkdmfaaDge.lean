/- Lists of edges and of numbers as arguments. Conditions: none. -/
import Derived.Test.YthnhlaljnkdmfaaDga
import Derived.OpenShut
namespace Go.Proofs.Ythnhlaljnkdmfaa
open Go.RowKit Go.ChangeShapes Go.WideShapes Go.Deep
set_option linter.unusedVariables false
set_option linter.unusedSimpArgs false

abbrev gI64 (_ : World) (n : Int) : Prop := (Lit.int .i64 n).wf = true
abbrev gEd (_ : World) (e : Int × Int) : Prop := (Lit.int .i64 e.1).wf = true ∧ (Lit.int .i64 e.2).wf = true
theorem rdI : Rdr Try.prog 3 eInt 1 gI64 := rdInt (by kernel_rfl) (by kernel_rfl)
theorem rdEd : Rdr Try.prog 35 eEi 2 gEd := by
  refine ⟨by kernel_rfl, fun _ => rfl, ?_, fun h _ => h⟩
  intro H en W fuel cs x h
  obtain ⟨xs, m, _, _, hl, hlen, hi⟩ := DataW.trod_array (n := 2) (e := 3) (by kernel_rfl) h
  have hc : Try.prog.cellsOf 3 = 1 := by kernel_rfl
  have hc2 : Try.prog.cellsOf 35 = 2 := by kernel_rfl
  rw [hc2] at hl
  have h0 := hi 0 (by omega)
  have h1 := hi 1 (by omega)
  rw [hc, List.getElem?_eq_getElem (by omega)] at h0 h1
  obtain ⟨a, ha, ga⟩ := rdI.read h0
  obtain ⟨b, hb, gb⟩ := rdI.read h1
  clear h hi h0 h1 hlen hc hc2
  obtain ⟨c0, c1, rfl⟩ : ∃ c0 c1, cs = [c0, c1] := by
    clear ha hb
    cases cs with
    | nil => simp at hl
    | cons c0 r => cases r with
      | nil => simp at hl
      | cons c1 r2 => cases r2 with
        | nil => exact ⟨c0, c1, rfl⟩
        | cons _ _ => simp at hl
  simp at ha hb
  subst ha; subst hb
  exact ⟨(a, b), rfl, ga, gb⟩

theorem gSl_mono {α : Type} {enc : α → List Value} {k : Nat} {good : World → α → Prop} {w w' : World} {s : Sl α} (hg : ∀ x, good w x → good w' x) (h : gSl enc k good w s) (hb : Below w.heap.size w w') : gSl enc k good w' s :=
  ⟨h.1, h.2.1, h.2.2.1.mono hb, fun x hx => hg x (h.2.2.2 x hx)⟩
set_option maxRecDepth 100000 in
theorem openEds {H : Type} {en : TypeId × Value → H} {W : World} {v : Value} {d : DataW H} {ps : List MemPlace} {r : Reach} {b0 : Nat} (hv : Value.okWide Try.prog W r b0 22 v) (h : DataW.Trod en Try.prog W 0 (fun _ => true) true 22 v d ps) :
    ∃ s : Sl (Int × Int), v = vSl s ∧ gSl eEi 2 gEd W s := arg_slice rdEd (by decide) (by kernel_rfl) (by kernel_rfl) hv h
set_option maxRecDepth 100000 in
theorem openInts {H : Type} {en : TypeId × Value → H} {W : World} {v : Value} {d : DataW H} {ps : List MemPlace} {r : Reach} {b0 : Nat} (hv : Value.okWide Try.prog W r b0 25 v) (h : DataW.Trod en Try.prog W 0 (fun _ => true) true 25 v d ps) :
    ∃ s : Sl Int, v = vSl s ∧ gSl eInt 1 gI64 W s := arg_slice rdI Nat.zero_lt_one (by kernel_rfl) (by kernel_rfl) hv h

end Go.Proofs.Ythnhlaljnkdmfaa
