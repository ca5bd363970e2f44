/- Readers: what the cells of an argument hold, as plain data, type by type (integers, booleans, strings, slices, structs, arrays). No function is named. Conditions: none. -/
import Derived.Test.YtoiakijmbghhlaaGreatMBase
import Derived.Deep.Slices
import Derived.ChangeSame
namespace Go.Proofs.YtoiakijmbghhlaaGreat
open Go.RowKit Go.ChangeShapes Go.WideShapes Go.Deep
set_option linter.unusedVariables false
set_option linter.unusedSimpArgs false

structure Rdr (P : Program) (t : TypeId) {α : Type} (enc : α → List Value) (k : Nat) (good : World → α → Prop) : Prop where
  size : P.cellsOf t = k
  len : ∀ a, (enc a).length = k
  read : ∀ {H : Type} {e : TypeId × Value → H} {W : World} {fuel : Nat} {cs : List Value} {x : DataW H × List MemPlace}, DataW.trod e P W 0 (fun _ => true) true fuel t cs = some x → ∃ a, cs = enc a ∧ good W a
  mono : ∀ {W W' : World} {a : α}, good W a → Below W.heap.size W W' → good W' a

section
variable {P : Program} {t : TypeId}

theorem rdInt {k : IntKind} (ht : P.underlying t = some (.int k)) (hk : P.cellsOf t = 1) : Rdr P t (fun n : Int => [.int k n]) 1 (fun _ n => (Lit.int k n).wf = true) :=
  ⟨hk, fun _ => rfl, fun h => by obtain ⟨n, h1, _, h3⟩ := DataW.trod_int ht h; exact ⟨n, h1, h3⟩, fun h _ => h⟩

theorem rdBool (ht : P.underlying t = some .bool) (hk : P.cellsOf t = 1) : Rdr P t (fun b : Bool => [.bool b]) 1 (fun _ _ => True) :=
  ⟨hk, fun _ => rfl, fun h => by obtain ⟨b, h1, _⟩ := DataW.trod_bool ht h; exact ⟨b, h1, trivial⟩, fun h _ => h⟩

theorem rdString (ht : P.underlying t = some .string) (hk : P.cellsOf t = 1) : Rdr P t (fun s : ByteArray => [.string s]) 1 (fun _ s => s.size ≤ maxLen) :=
  ⟨hk, fun _ => rfl, fun h => by obtain ⟨s, h1, _, h3⟩ := DataW.trod_string ht h; exact ⟨s, h1, h3⟩, fun h _ => h⟩
end

/-- A slice: where it lies, its capacity, what its elements hold. -/
structure Sl (α : Type) where
  a : Option Addr
  cap : Nat
  xs : List α

abbrev vSl {α : Type} (s : Sl α) : Value := .slice s.a s.xs.length s.cap
def gSl {α : Type} (enc : α → List Value) (k : Nat) (good : World → α → Prop) (W : World) (s : Sl α) : Prop :=
  s.xs.length ≤ s.cap ∧ s.cap ≤ 9223372036854775807 ∧ IsC enc k W s.a s.xs ∧ ∀ x ∈ s.xs, good W x

theorem gSl.isL {α : Type} {enc : α → List Value} {k : Nat} {good : World → α → Prop} {W : World} {s : Sl α} (h : gSl enc k good W s) : IsL enc k W (vSl s) s.xs := ⟨s.a, s.cap, rfl, h.1, h.2.1, h.2.2.1⟩

theorem list_of {α : Type} {p : Nat → α → Prop} : ∀ n, (∀ i, i < n → ∃ a, p i a) → ∃ xs : List α, xs.length = n ∧ ∀ i (h : i < xs.length), p i xs[i]
  | 0, _ => ⟨[], rfl, fun i h => absurd h (Nat.not_lt_zero _)⟩
  | n + 1, h => by
    obtain ⟨xs, h1, h2⟩ := list_of n (fun i hi => h i (by omega))
    obtain ⟨a, ha⟩ := h n (by omega)
    refine ⟨xs ++ [a], by simp [h1], fun i hi => ?_⟩
    by_cases hl : i < xs.length
    · rw [List.getElem_append_left hl]; exact h2 i hl
    · have : i = n := by simp at hi; omega
      subst this
      rw [List.getElem_append_right (by omega)]
      simpa [h1] using ha

theorem spot_none {w : World} {a : Addr} {v : Value} (h : w.cell? a = some v) : a.spot = none := by
  cases hs : a.spot with
  | none => rfl
  | some s =>
    exfalso
    simp only [World.cell?, hs] at h
    split at h <;> simp at h

theorem addr_add' (b off j : Nat) : (⟨b, off, none⟩ : Addr).add j = ⟨b, off + j, none⟩ := by unfold Addr.add; split <;> simp_all

theorem rdSlice {P : Program} {t e : TypeId} {α : Type} {enc : α → List Value} {k : Nat} {good : World → α → Prop} (hr : Rdr P e enc k good) (hk : 0 < k) (ht : P.underlying t = some (.slice e)) (hc : P.cellsOf t = 1) :
    Rdr P t (fun s : Sl α => [vSl s]) 1 (gSl enc k good) := by
  refine ⟨hc, fun _ => rfl, ?_, ?_⟩
  · intro H en W fuel cs x h
    rcases open_slice ht h with ⟨rfl, _⟩ | ⟨a, len, cap, m, n, D, Pl, rfl, _, hl, hm, hmm, _, hi⟩
    · exact ⟨⟨none, 0, []⟩, rfl, Nat.le_refl _, by simp, fun i hi => absurd hi (Nat.not_lt_zero _), by simp⟩
    · simp only [if_true] at hmm
      obtain ⟨xs, h1, h2⟩ := list_of (p := fun i x => good W x ∧ W.cells? 0 (a.add (i * k)) k = some (enc x)) len (by
        intro i hil
        obtain ⟨cs', q1, q2⟩ := hi i (by omega)
        rw [hr.size] at q1
        obtain ⟨x, rfl, hg⟩ := hr.read q2
        exact ⟨x, hg, q1⟩)
      refine ⟨⟨some a, cap, xs⟩, by simp only [vSl]; rw [h1], by simp only; omega, by simpa [maxLen] using hm, ?_, ?_⟩
      · intro i hix
        simp only at hix
        have hcell : ∀ (i : Nat) (hi : i < xs.length) (j : Nat), j < k → W.cell? ((a.add (i * k)).add j) = some ((enc xs[i]).getD j undef) := by
          intro i hi j hj
          obtain ⟨_, _, q⟩ := World.cells?_some (h2 i hi).2
          rw [q j hj]
          have hlt : j < (enc xs[i]).length := by rw [hr.len]; exact hj
          simp [List.getD, List.getElem?_eq_getElem hlt]
        have hsp : a.spot = none := by
          have q := hcell 0 (by omega) 0 hk
          rw [Nat.zero_mul] at q
          simp only [Addr.add, if_true] at q
          exact spot_none q
        obtain ⟨b, off, s⟩ := a
        simp only at hsp
        subst hsp
        refine ⟨b, off, rfl, fun j hj => ?_⟩
        have q := hcell i hix j hj
        rw [addr_add', addr_add'] at q
        exact q
      · intro x hx
        obtain ⟨i, hi', rfl⟩ := List.mem_iff_getElem.1 hx
        exact (h2 i hi').1
  · intro W W' s h hb
    exact ⟨h.1, h.2.1, h.2.2.1.mono hb, fun x hx => hr.mono (h.2.2.2 x hx) hb⟩

/-! ### Structs -/

def flds (P : Program) (t : TypeId) : Array Field := match P.underlying t with | some (.struct fs) => fs | _ => #[]

/-- The pieces of a list of cells. -/
def cutAt (cs : List Value) : Nat → List Nat → List (List Value)
  | _, [] => []
  | o, k :: ks => (cs.drop o).take k :: cutAt cs (o + k) ks

theorem cutAt_join (cs : List Value) : ∀ (ks : List Nat) (o : Nat), cs.length = o + ks.sum → (cutAt cs o ks).flatten = cs.drop o
  | [], o, h => by simp at h; simp [cutAt]; omega
  | k :: ks, o, h => by
    simp only [cutAt, List.flatten_cons]
    rw [cutAt_join cs ks (o + k) (by simp at h; omega), ← List.drop_drop, List.take_append_drop]

section
variable {P : Program} {t : TypeId} {H : Type} {en : TypeId × Value → H} {W : World} {fuel : Nat} {cs : List Value} {x : DataW H × List MemPlace}

theorem rd_fields (ht : P.underlying t = some (.struct (flds P t))) (h : DataW.trod en P W 0 (fun _ => true) true fuel t cs = some x) :
    cs.length = P.cellsOf t ∧ ∀ (j : Nat) (t0 o : Nat) (_ : ((flds P t)[j]?.map fun f => (f.type, f.offset)) = some (t0, o)) {α : Type} {enc : α → List Value} {k : Nat} {good : World → α → Prop} (_ : Rdr P t0 enc k good),
      ∃ a, (cs.drop o).take k = enc a ∧ good W a := by
  obtain ⟨ys, n, _, _, hl, hlen, hf⟩ := DataW.trod_struct ht h
  refine ⟨hl, ?_⟩
  intro j t0 o hj α enc k good hr
  cases hq : (flds P t)[j]? with
  | none => rw [hq] at hj; cases hj
  | some f =>
    rw [hq] at hj
    simp only [Option.map_some, Option.some.injEq, Prod.mk.injEq] at hj
    obtain ⟨rfl, rfl⟩ := hj
    have h1 := hf j f hq
    have hjl : j < ys.length := by rw [hlen]; exact (Array.getElem?_eq_some_iff.1 hq).1
    rw [List.getElem?_eq_getElem hjl] at h1
    rw [hr.size] at h1
    exact hr.read h1
end

/-- From an argument's value and datum to its reading: a slice. -/
theorem arg_slice {P : Program} {t e : TypeId} {α : Type} {enc : α → List Value} {k : Nat} {good : World → α → Prop} (hr : Rdr P e enc k good) (hk : 0 < k) (ht : P.underlying t = some (.slice e)) (hc : P.cellsOf t = 1)
    {H : Type} {en : TypeId × Value → H} {W : World} {v : Value} {d : DataW H} {ps : List MemPlace} {r : Reach} {b0 : Nat} (hv : Value.okWide P W r b0 t v) (h : DataW.Trod en P W 0 (fun _ => true) true t v d ps) :
    ∃ s : Sl α, v = vSl s ∧ gSl enc k good W s := by
  obtain ⟨a, len, cap, rfl⟩ := okWide_slice ht hv
  obtain ⟨fuel, hf⟩ := h
  obtain ⟨s, h1, h2⟩ := (rdSlice hr hk ht hc).read hf
  refine ⟨s, ?_, h2⟩
  simpa [Value.cells] using h1

/-- The same: a struct. -/
theorem arg_struct {P : Program} {t : TypeId} {fs : Array Field} {α : Type} {enc : α → List Value} {k : Nat} {good : World → α → Prop} (hr : Rdr P t enc k good) (ht : P.underlying t = some (.struct fs))
    {H : Type} {en : TypeId × Value → H} {W : World} {v : Value} {d : DataW H} {ps : List MemPlace} {r : Reach} {b0 : Nat} (hv : Value.okWide P W r b0 t v) (h : DataW.Trod en P W 0 (fun _ => true) true t v d ps) :
    ∃ a : α, v = .agg (enc a).toArray ∧ good W a := by
  obtain ⟨cs, rfl, _⟩ := okWide_struct ht hv
  obtain ⟨fuel, hf⟩ := h
  obtain ⟨a, h1, h2⟩ := hr.read hf
  refine ⟨a, ?_, h2⟩
  simp only [Value.cells] at h1
  rw [← h1]

end Go.Proofs.YtoiakijmbghhlaaGreat
