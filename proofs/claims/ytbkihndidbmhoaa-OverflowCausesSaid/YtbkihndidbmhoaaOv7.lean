/- The functions under OverflowJoins: small, Clone, equality of events in a world that only draws, ContainsFunc at events. Conditions: at most 2^31 elements. -/
import Derived.Test.YtbkihndidbmhoaaOv6
namespace Go.Proofs.Ytbkihndidbmhoaa
open Go.RowKit
set_option linter.unusedVariables false
set_option linter.unusedSimpArgs false

abbrev eU32 (x : Int) : List Value := [.int .u32 x]
abbrev IsU32s (w : World) (v : Value) (xs : List Int) : Prop := IsL eU32 1 w v xs

theorem IsC.u32 {w : World} {a : Option Addr} {xs : List Int} (h : IsC eU32 1 w a xs) (i : Nat) (hi : i < xs.length) :
    ∃ b off, a = some ⟨b, off, none⟩ ∧ w.cell? ⟨b, off + i, none⟩ = some (.int .u32 xs[i]) := by
  obtain ⟨b, off, e, hc⟩ := h i hi
  refine ⟨b, off, e, ?_⟩
  have := hc 0 (by omega)
  simpa using this

set_option maxHeartbeats 1000000 in
theorem small_any (xs : List Int) (v : Value) (w : World) (hv : IsU32s w v xs) (hlen : xs.length ≤ 10000) (hr : ∀ x ∈ xs, 0 ≤ x ∧ x ≤ 4294967295) :
    Calls Try.prog 15 #[v] w fun e w' => (∃ v', e = .returned v' ∧ Own w.heap.size 3 eInt 1 w' v' xs) ∧ Below w.heap.size w w' := by
  obtain ⟨a, cap, rfl, hcap, hbig, hs⟩ := hv
  have Hr := Lib.hid hr
  clear hr
  go_enter Try.func15, Try.ntmps15
  go_wp2
  go_loopw [3, 8] (fun s3 s8 wr => ∃ k : Nat, k ≤ xs.length ∧ s8 = .int .i64 k ∧ Own w.heap.size 3 eInt 1 wr s3 (xs.take k) ∧ Below w.heap.size w wr) (fun _ i _ => xs.length - (intOf i).toNat)
  case atStart => exact ⟨0, Nat.zero_le _, rfl, World.ownsRow_nil _ _ _ _, Below.refl _ _⟩
  case round =>
    obtain ⟨k, hk, rfl, hown, hb⟩ := hrel
    by_cases hlt : k < xs.length
    · obtain ⟨b, off, rfl, hc⟩ := (hs.mono hb).u32 k hlt
      have htake : Hid (xs.take (k + 1) = xs.take k ++ [xs[k]]) := by
        show _ = _
        rw [List.take_add_one, List.getElem?_eq_getElem hlt]; rfl
      have hb1 := (Hr.out xs[k] (List.getElem_mem hlt)).1
      have hb2 := (Hr.out xs[k] (List.getElem_mem hlt)).2
      have hlo : (xs.take k).length < 2147483648 := by simp; omega
      have hlk : Hid ((xs.take k).length = k) := by show _ = _; simp; omega
      clear hs
      generalize xs[k] = y at *
      have hwk : IntKind.i64.wrap y = y := IntWalk.i64_in _ (by omega)
      go_wp2_with (at_builtin; go_must (refine wpList_push rfl _ _ 22 rfl 3 _ 1 8 undInts infInt rfl (by decide) y (fun _ => rfl) (by simp [Value.oneCell']) _ _ rfl hown rfl hlo (by decide) hb.size _ rfl ?_); intro g3 cap3 w1 hown1 hbg1 hgl1 hb1' hc11 hc21)
      have hbw := hb.trans hb1'
      rw [hlk.out] at hown1
      go_wp2
      go_roundw
      case measure => simp [intOf]; omega
      case rel => exact ⟨k + 1, by omega, by go_num, by rw [htake.out]; exact hown1, by repeat' (first | exact Below.refl _ _ | assumption | refine Below.more ?_ ?_ _ | refine Below.alloc ?_ ?_ _ | refine Below.drew ?_ | refine below_drewN ?_ _ | refine Below.setCell ?_ ?_ _ | exact Below.size (by assumption) | (simp [go_sem, size_more]; done) | (simp [go_sem, size_more]; omega))⟩
    · obtain rfl : k = xs.length := by omega
      rw [List.take_length] at hown
      go_wp2
      go_ret
      exact ⟨⟨_, rfl, hown⟩, hb⟩

end Go.Proofs.Ytbkihndidbmhoaa
