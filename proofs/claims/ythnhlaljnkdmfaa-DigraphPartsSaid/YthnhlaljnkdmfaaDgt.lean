/- The edges the other way around: digraph.turned. Conditions: at most a million edges. -/
import Derived.Test.YthnhlaljnkdmfaaDga
import Derived.WalkSpells
import Derived.Ground.NamesProg
namespace Go.Proofs.Ythnhlaljnkdmfaa
open Go.RowKit
set_option linter.unusedVariables false
set_option linter.unusedSimpArgs false

theorem rev_snoc {E : List (Nat × Nat)} {k : Nat} (hk : k < E.length) : Gp.rev (E.take k) ++ [((E[k]).2, (E[k]).1)] = Gp.rev (E.take (k + 1)) := by
  rw [List.take_succ_eq_append_getElem hk]
  unfold Gp.rev
  rw [List.map_append]; rfl
theorem rev_len (E : List (Nat × Nat)) : (Gp.rev E).length = E.length := by simp [Gp.rev]

set_option maxRecDepth 100000 in
set_option maxHeartbeats 2000000 in
theorem turned_any (E : List (Nat × Nat)) (v : Value) (w : World) (hE : IsEds w v E) (hl : E.length ≤ 1000000) :
    Calls Try.prog 59 #[v] w fun e w' => (∃ u, e = .returned u ∧ Own w.heap.size 35 eEd 2 w' u (Gp.rev E)) ∧ Below w.heap.size w w' := by
  obtain ⟨a, cap, rfl, hcap, hbig, hs⟩ := hE
  go_enter Try.func59, Try.ntmps59
  go_wp2_with fail
  go_loopw [3, 8] (fun s3 s8 wr => ∃ k : Nat, k ≤ E.length ∧ s8 = .int .i64 k ∧ Below w.heap.size w wr ∧ Own w.heap.size 35 eEd 2 wr s3 (Gp.rev (E.take k))) (fun _ i _ => E.length - (intOf i).toNat)
  case atStart => exact ⟨0, Nat.zero_le _, rfl, Below.refl _ _, by rw [List.take_zero]; exact World.ownsRow_nil _ _ _ _⟩
  case round =>
    obtain ⟨k, hk, rfl, hb, hown⟩ := hrel
    by_cases hkl : k < E.length
    · obtain ⟨b, off, rfl, c1, c2⟩ := (hs.mono hb).ed k hkl
      have hX : Below w.heap.size w (wr.alloc (.cells #[.int .i64 ((E[k]).1 : Int), .int .i64 ((E[k]).2 : Int)] 35)) := hb.alloc hb.size _
      have hownX := hown.below (w' := wr.alloc (.cells #[.int .i64 ((E[k]).1 : Int), .int .i64 ((E[k]).2 : Int)] 35)) (alloc_below _ _)
      have hstep := Lib.hid (rev_snoc hkl)
      have hrl : (Gp.rev (E.take k)).length < 2147483648 := by rw [rev_len, List.length_take]; omega
      clear hs hown
      obtain ⟨x, hx⟩ : ∃ x, x = (E[k]).1 := ⟨_, rfl⟩
      obtain ⟨y, hy⟩ : ∃ y, y = (E[k]).2 := ⟨_, rfl⟩
      rw [← hx] at c1 hX hownX hstep
      rw [← hy] at c2 hX hownX hstep
      clear hx hy
      generalize Gp.rev (E.take k) = rs at *
      have d0 : (wr.alloc (.cells #[.int .i64 (x : Int), .int .i64 (y : Int)] 35)).cell? ⟨wr.heap.size, 0, none⟩ = some (.int .i64 (x : Int)) := by simp [go_sem]
      have d1 : (wr.alloc (.cells #[.int .i64 (x : Int), .int .i64 (y : Int)] 35)).cell? ⟨wr.heap.size, 1, none⟩ = some (.int .i64 (y : Int)) := by simp [go_sem]
      go_wp2_with (at_builtin; go_must (refine wpList_pushB rfl _ _ 22 rfl 35 _ 2 16 undEds infEd rfl (by decide) (y, x) eEd_len (by simp [Value.oneCell']) _ rs rfl hownX (wr.heap.size + 1) rfl (by simp) hrl (by decide) hX.size _ rfl ?_); intro g3 cap3 w1 hown1 hbg1 hgl1 hb1 hc11 hc21)
      have hO := hown1
      rw [hstep.out] at hO
      have hbb := hX.trans hb1
      go_wp2_with fail
      go_roundw
      case measure => simp [intOf]; omega
      case rel => 
        refine ⟨k + 1, by omega, by go_num, hbb, ?_⟩
        exact hO
    · have hk' : E.take k = E := List.take_of_length_le (by omega)
      rw [hk'] at hown
      go_wp2_with fail
      go_ret
      exact ⟨⟨_, rfl, hown⟩, hb⟩

end Go.Proofs.Ythnhlaljnkdmfaa
