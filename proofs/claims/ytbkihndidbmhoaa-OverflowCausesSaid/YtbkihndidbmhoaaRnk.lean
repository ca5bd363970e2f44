/- Small facts for the walk of OverflowRanks: 's[:h]', lists of pairs, rows of booleans. Conditions: none. -/
import Derived.Test.YtbkihndidbmhoaaOv14
import Derived.Test.YtbkihndidbmhoaaLaw7
import Derived.Test.YtbkihndidbmhoaaOv9
namespace Go.Proofs.Ytbkihndidbmhoaa
open Go.RowKit
set_option linter.unusedVariables false
set_option linter.unusedSimpArgs false

/-- 's[:h]'. -/
theorem sub_h {α : Type} {enc : α → List Value} {k : Nat} {P : Program} {t : TypeId} (ht : P.underlying t = some (.slice (P.elem t))) (hs : ∀ W, (sizeOf (P.elem t)).run P W = .ok k W) {w : World} {a : Option Addr} {cap : Nat} {xs : List α} (hv : IsL enc k w (.slice a xs.length cap) xs) (h : Nat) (H : Int) (hH : H = h) (hh : h ≤ xs.length) :
    ∃ a' c', IsC enc k w a' (xs.take h) ∧ (xs.take h).length ≤ c' ∧ c' ≤ 9223372036854775807 ∧ ∀ W, (Instr.sliceAt t (.slice a xs.length cap) none (some (.int .i64 H)) none).run P W = .ok (.slice a' (xs.take h).length c') W := by
  subst hH
  obtain ⟨a', c', h1, h2⟩ := sliced_list hv 0 h (Nat.zero_le _) hh
  simp only [List.drop_zero, Nat.sub_zero] at h1 h2
  have hlen : (xs.take h).length = h := by simp; omega
  obtain ⟨a0, c0, he, q1, q2, hc⟩ := hv
  simp only [Value.slice.injEq] at he
  obtain ⟨rfl, _, rfl⟩ := he
  obtain ⟨a2, c2, he2, q3, q4, hc2⟩ := h2
  simp only [Value.slice.injEq] at he2
  obtain ⟨rfl, _, rfl⟩ := he2
  refine ⟨a', c', hc2, q3, q4, fun W => ?_⟩
  rw [run_sliceAt_slice _ _ _ _ _ _ ht, run_slice_h W t a xs.length cap ht .i64 h (by omega) (by omega), hs, hlen]
  simp only [Result.andThen, Int.toNat_natCast]
  rw [h1 cap rfl]

theorem undEvs' : Try.prog.underlying 25 = some (.slice (Try.prog.elem 25)) := by kernel_rfl
theorem szEv (W : World) : (sizeOf (Try.prog.elem 25)).run Try.prog W = .ok 4 W := by kernel_rfl
theorem undBools : Try.prog.underlying 58 = some (.slice 4) := by kernel_rfl
theorem infBool : (Try.prog.info? 4).map (fun i => (i.zero, i.size, i.bytes)) = some (some (.bool false), 1, 1) := by kernel_rfl
abbrev eB (b : Bool) : List Value := [.bool b]

theorem IsC.pr {w : World} {a : Option Addr} {xs : List (Int × Int)} (h : IsC ePr 2 w a xs) (i : Nat) (hi : i < xs.length) :
    ∃ b off, a = some ⟨b, off, none⟩ ∧ w.cell? ⟨b, off + i * 2, none⟩ = some (.int .i64 xs[i].1) ∧ w.cell? ⟨b, off + i * 2 + 1, none⟩ = some (.int .i64 xs[i].2) := by
  obtain ⟨b, off, e, hc⟩ := h i hi
  refine ⟨b, off, e, ?_, ?_⟩
  · simpa using hc 0 (by omega)
  · simpa using hc 1 (by omega)

theorem IsC.evTotal {w : World} {b off : Nat} {xs : List Ev} (h : IsC eEv 4 w (some ⟨b, off, none⟩) xs) (i : Nat) (hi : i < xs.length) : w.cell? ⟨b, off + i * 4 + 2, none⟩ = some (.int .i64 xs[i].Total) := by
  obtain ⟨b', off', e, c1, c2, c3, c4⟩ := h.ev i hi
  simp only [Option.some.injEq, Addr.mk.injEq] at e
  obtain ⟨rfl, rfl, _⟩ := e
  exact c3

theorem eB_len (b : Bool) : (eB b).length = 1 := rfl

theorem seen_step (S : List Int) (sn : List Bool) (i j : Nat) (hi : i < S.length) (hj : S[i] = j) (h : ∀ j' (h : j' < sn.length), sn[j'] = true → (j' : Int) ∈ S.take i) :
    ∀ j' (h : j' < (sn.set j true).length), (sn.set j true)[j'] = true → (j' : Int) ∈ S.take (i + 1) := by
  intro j' hj' ht
  have hl : j' < sn.length := by simpa using hj'
  rw [List.take_add_one, List.getElem?_eq_getElem hi, hj]
  by_cases e : j = j'
  · subst e; simp
  · rw [List.getElem_set_ne e] at ht
    exact List.mem_append_left _ (h j' hl ht)

theorem totalAt_eq (A : List Ev) (j : Nat) (hj : j < A.length) : totalAt A (j : Int) = A[j].Total := by
  simp [totalAt, List.getD, List.getElem?_eq_getElem hj]

end Go.Proofs.Ytbkihndidbmhoaa
