/- More small facts for the walks: four results, a slice of a slice read as a list, equalities of worlds. No function is named. Conditions: none. -/
import Derived.Test.YtbkihndidbmhoaaBase
import Derived.Lib.Hide
namespace Go.Proofs.Ytbkihndidbmhoaa
open Go.RowKit
set_option linter.unusedVariables false
set_option linter.unusedSimpArgs false

theorem results_tmp4 {fn : Func} {t u v x : Tmp} (h : fn.results = #[.tmp t, .tmp u, .tmp v, .tmp x]) (tmps : Array Value) (P : Program) (w : World) :
    (results fn tmps).run P w = .ok (.tuple #[tmps.getD t undef, tmps.getD u undef, tmps.getD v undef, tmps.getD x undef]) w := by
  simp [results, h]

/-- A contract met where the world has come from w0. -/
theorem Calls.go {P : Program} {f : FuncId} {args : Array Value} {w0 w : World} {R : Ending → World → Prop} {Q : Ending → World → Prop} (hbb : Below w0.heap.size w0 w)
    (h : Calls P f args w fun e w' => R e w' ∧ Below w.heap.size w w') (hq : ∀ e w', R e w' → Below w.heap.size w w' → Below w0.heap.size w0 w' → Q e w') : Calls P f args w Q :=
  h.mono fun e w' ⟨hr, hb⟩ => hq e w' hr hb (hbb.trans (hb.mono hbb.size))

theorem IsC.intAt {w : World} {b off : Nat} {xs : List Int} (h : IsC eInt 1 w (some ⟨b, off, none⟩) xs) (i : Nat) (hi : i < xs.length) : w.cell? ⟨b, off + i, none⟩ = some (.int .i64 xs[i]) := by
  obtain ⟨b', off', e, hc⟩ := h.int i hi
  simp only [Option.some.injEq, Addr.mk.injEq] at e
  obtain ⟨rfl, rfl, _⟩ := e
  exact hc

theorem sliced_list {α : Type} {enc : α → List Value} {k : Nat} {w : World} {a : Option Addr} {cap : Nat} {xs : List α} (hv : IsL enc k w (.slice a xs.length cap) xs) (l h : Nat) (hlh : l ≤ h) (hh : h ≤ xs.length) :
    ∃ a' c', (∀ m, m = cap → sliced a l h m k = .slice a' (h - l) c') ∧ IsL enc k w (.slice a' (h - l) c') ((xs.drop l).take (h - l)) := by
  obtain ⟨a0, c0, he, h1, h2, hc⟩ := hv
  simp only [Value.slice.injEq] at he
  obtain ⟨rfl, _, rfl⟩ := he
  have hlen : ((xs.drop l).take (h - l)).length = h - l := by simp; omega
  refine ⟨(if cap = l then a else a.map (·.add (l * k))), cap - l, fun m hm => by subst hm; rfl, ?_⟩
  refine ⟨_, cap - l, by rw [hlen], by rw [hlen]; omega, by omega, fun i hi => ?_⟩
  rw [hlen] at hi
  obtain ⟨b, off, ea, hcell⟩ := hc (l + i) (by omega)
  have hne : ¬ cap = l := by omega
  refine ⟨b, off + l * k, ?_, fun j hj => ?_⟩
  · rw [if_neg hne, ea]
    simp only [Option.map_some]
    congr 1
    unfold Addr.add; split <;> simp_all
  · have h3 := hcell j hj
    have e1 : off + l * k + i * k + j = off + (l + i) * k + j := by rw [Nat.add_mul]; omega
    rw [e1, h3]
    simp

section
variable {α : Type} {P : Program} {o : Oper} {a : Act} {Q : Exit → Act → World → Prop}
/-- 'wpList_push' where the world's size is spelled otherwise. -/
theorem wpList_pushB {ops : Array Oper} {rest : List Oper} (hg : o.guard = none) (s x : Operand) (t : TypeId)
    (hop : o.op = .call { callee := .builtin .append, args := #[s, x], argTypes := #[t, t] }) (e : TypeId) (z : Value) (size bytes : Nat) (ht : P.underlying t = some (.slice e))
    (hinfo : (P.info? e).map (fun i => (i.zero, i.size, i.bytes)) = some (some z, size, bytes)) (hzs : z.cells.size = size) (hsz : 0 < size)
    {w : World} {base : Nat} {enc : α → List Value} (y : α) (hk : ∀ x, (enc x).length = size) (h1 : ∀ u ∈ enc y, u.oneCell' = true) (v : Value) (xs : List α) (hs : a.eval s = v) (hown : Own base e enc size w v xs)
    (B : Nat) (hx : a.eval x = .slice (some ⟨B, 0, none⟩) 1 1) (hB : w.heap.size = B) (hlen : xs.length < 2147483648) (hby : bytes ≤ 4096) (hbase : base ≤ w.heap.size) (cs : Array Value) (hcs : cs = (enc y).toArray)
    (h : ∀ g cap w', Own base e enc size w' (.slice (some ⟨g, 0, none⟩) (xs.length + 1) cap) (xs ++ [y]) → base ≤ g → g < w'.heap.size → Below base w w' → xs.length + 1 ≤ cap → cap ≤ 9223372036854775807 →
      wpList P ops Q rest (a.put o.dst (.slice (some ⟨g, 0, none⟩) (xs.length + 1) cap)) w') :
    wpList P ops Q (o :: rest) a (w.alloc (.cells cs e)) := by
  subst hB
  exact wpList_push hg s x t hop e z size bytes ht hinfo hzs hsz y hk h1 v xs hs hown hx hlen hby hbase cs hcs h
end

/-- A new block that holds one element. -/
theorem Own.fresh {α : Type} {enc : α → List Value} {k : Nat} (hk : ∀ x, (enc x).length = k) (w : World) (base : Nat) (hb : base ≤ w.heap.size) (e : TypeId) (x : α) (cs : Array Value) (hcs : cs = (enc x).toArray) :
    Own base e enc k (w.alloc (.cells cs e)) (.slice (some ⟨w.heap.size, 0, none⟩) 1 1) [x] := by
  subst hcs
  refine ⟨by simp [hk], .inr ⟨w.heap.size, 1, _, rfl, hb, heap_alloc_new w _, Nat.le_refl _, by decide, by simp [hk], ?_⟩⟩
  simp only [Nat.one_mul, List.flatMap_cons, List.flatMap_nil, List.append_nil]
  exact List.take_of_length_le (by simp [hk])

section
variable {α : Type} {enc : α → List Value} {k : Nat} {P : Program} {t : TypeId}

/-- 's[l:h]'. -/
theorem sub_lh (ht : P.underlying t = some (.slice (P.elem t))) (hs : ∀ W, (sizeOf (P.elem t)).run P W = .ok k W) {w : World} {a : Option Addr} {cap : Nat} {xs : List α} (hv : IsL enc k w (.slice a xs.length cap) xs) (l h : Nat) (L H : Int) (hL : L = l) (hH : H = h) (hlh : l ≤ h) (hh : h ≤ xs.length) :
    ∃ a' c', IsC enc k w a' ((xs.drop l).take (h - l)) ∧ ((xs.drop l).take (h - l)).length ≤ c' ∧ c' ≤ 9223372036854775807 ∧
      ∀ W, (Instr.sliceAt t (.slice a xs.length cap) (some (.int .i64 L)) (some (.int .i64 H)) none).run P W = .ok (.slice a' ((xs.drop l).take (h - l)).length c') W := by
  subst hL; subst hH
  obtain ⟨a', c', h1, h2⟩ := sliced_list hv l h hlh hh
  have hlen : ((xs.drop l).take (h - l)).length = h - l := by simp; omega
  obtain ⟨a0, c0, he, q1, q2, hc⟩ := hv
  simp only [Value.slice.injEq] at he
  obtain ⟨rfl, _, rfl⟩ := he
  obtain ⟨a2, c2, he2, q3, q4, hc2⟩ := h2
  simp only [Value.slice.injEq] at he2
  obtain ⟨rfl, _, rfl⟩ := he2
  refine ⟨a', c', hc2, q3, q4, fun W => ?_⟩
  rw [run_sliceAt_slice _ _ _ _ _ _ ht, run_slice_lh W t a xs.length cap ht .i64 .i64 l h (by omega) (by omega) (by omega), hs, hlen]
  simp only [Result.andThen, Int.toNat_natCast]
  rw [h1 cap rfl]

/-- 's[l:]'. -/
theorem sub_l (ht : P.underlying t = some (.slice (P.elem t))) (hs : ∀ W, (sizeOf (P.elem t)).run P W = .ok k W) {w : World} {a : Option Addr} {cap : Nat} {xs : List α} (hv : IsL enc k w (.slice a xs.length cap) xs) (l : Nat) (L : Int) (hL : L = l) (hlh : l ≤ xs.length) :
    ∃ a' c', IsC enc k w a' (xs.drop l) ∧ (xs.drop l).length ≤ c' ∧ c' ≤ 9223372036854775807 ∧ ∀ W, (Instr.sliceAt t (.slice a xs.length cap) (some (.int .i64 L)) none none).run P W = .ok (.slice a' (xs.drop l).length c') W := by
  subst hL
  obtain ⟨a', c', h1, h2⟩ := sliced_list hv l xs.length hlh (Nat.le_refl _)
  rw [List.take_of_length_le (by simp)] at h2
  have hlen : (xs.drop l).length = xs.length - l := by simp
  obtain ⟨a0, c0, he, q1, q2, hc⟩ := hv
  simp only [Value.slice.injEq] at he
  obtain ⟨rfl, _, rfl⟩ := he
  obtain ⟨a2, c2, he2, q3, q4, hc2⟩ := h2
  simp only [Value.slice.injEq] at he2
  obtain ⟨rfl, _, rfl⟩ := he2
  refine ⟨a', c', hc2, q3, q4, fun W => ?_⟩
  rw [run_sliceAt_slice _ _ _ _ _ _ ht, run_slice_l W t a xs.length cap ht .i64 l (by omega) (by omega), hs, hlen]
  simp only [Result.andThen, Int.toNat_natCast]
  rw [h1 cap rfl]

end

end Go.Proofs.Ytbkihndidbmhoaa
