/- dryOf of the statements; bounds of sums of spans and events. Conditions: the spans lie in a record. -/
import Derived.Test.YtdlaghjijfgncaaEvdl
namespace Go.Proofs.Ytdlaghjijfgncaa
open Go.RowKit
set_option linter.unusedVariables false
set_option linter.unusedSimpArgs false

theorem spanSum_nn : ∀ {l : List (Int × Int)}, (∀ p ∈ l, p.1 ≤ p.2) → 0 ≤ spanSum l ∧ (l.length : Int) ≤ spanSum l
  | [], _ => by simp [spanSum]
  | p :: r, h => by
    have h1 := spanSum_nn (l := r) (fun q hq => h q (List.mem_cons_of_mem _ hq))
    have h2 := h p (by simp)
    simp only [spanSum, List.length_cons]
    omega
theorem spanSum_bd {l : List (Int × Int)} (h : ∀ p ∈ l, p.1 ≤ p.2) (i : Nat) : 0 ≤ spanSum (l.take i) ∧ spanSum (l.take i) ≤ spanSum l := by
  have h1 := spanSum_nn (l := l.take i) (fun p hp => h p (List.mem_of_mem_take hp))
  have h2 := spanSum_nn (l := l.drop i) (fun p hp => h p (List.mem_of_mem_drop hp))
  have h3 := spanSum_app (l.take i) (l.drop i)
  rw [List.take_append_drop] at h3
  omega
theorem lenSum_nn : ∀ {l : List Ev}, (∀ p ∈ l, p.From < p.To) → 0 ≤ lenSum l ∧ (l.length : Int) ≤ lenSum l
  | [], _ => by simp [lenSum]
  | p :: r, h => by
    have h1 := lenSum_nn (l := r) (fun q hq => h q (List.mem_cons_of_mem _ hq))
    have h2 := h p (by simp)
    simp only [lenSum, List.length_cons]
    omega
theorem lenSum_bd {l : List Ev} (h : ∀ p ∈ l, p.From < p.To) (i : Nat) : 0 ≤ lenSum (l.take i) ∧ lenSum (l.take i) ≤ lenSum l := by
  have h1 := lenSum_nn (l := l.take i) (fun p hp => h p (List.mem_of_mem_take hp))
  have h2 := lenSum_nn (l := l.drop i) (fun p hp => h p (List.mem_of_mem_drop hp))
  have h3 := lenSum_app (l.take i) (l.drop i)
  rw [List.take_append_drop] at h3
  omega

set_option maxRecDepth 100000 in
set_option maxHeartbeats 4000000 in
theorem dryOf_any (l : List (Int × Int)) (v : Value) (w : World) (hv : IsPrs w v l) (hall : ∀ p ∈ l, 0 ≤ p.1 ∧ p.1 ≤ p.2 ∧ p.2 < 100000) (hl : spanSum l ≤ 100000) :
    Calls Try.prog 38 #[v] w fun e w' => e = .returned (.int .i64 (spanSum l)) ∧ Below w.heap.size w w' := by
  obtain ⟨a, cap, rfl, hcap, hbig, hs⟩ := hv
  have hne : ∀ p ∈ l, p.1 ≤ p.2 := fun p hp => (hall p hp).2.1
  have hll := (spanSum_nn hne).2
  go_enter Try.func38, Try.ntmps38
  go_wp2_with fail
  go_loopw [3, 8] (fun s3 s8 wr => ∃ i : Nat, i ≤ l.length ∧ s8 = .int .i64 i ∧ s3 = .int .i64 (spanSum (l.take i)) ∧ Below w.heap.size w wr) (fun _ i _ => l.length - (intOf i).toNat)
  case atStart => exact ⟨0, Nat.zero_le _, rfl, rfl, Below.refl _ _⟩
  case round =>
    as_aux_lemma =>
    obtain ⟨i, hi, rfl, rfl, hb⟩ := hrel
    by_cases hlt : i < l.length
    · obtain ⟨b, off, rfl, c1, c2⟩ := (hs.mono hb).prs i hlt
      obtain ⟨v1, v2, v3⟩ := hall _ (List.getElem_mem hlt)
      have HS := Lib.hid (spanSum_step hlt)
      obtain ⟨d1, d2⟩ := spanSum_bd hne i
      have x1 : IntKind.i64.wrap ((i : Int) + 1) = i + 1 := IntWalk.i64_in _ (by omega)
      clear hs hall hne
      generalize spanSum (l.take i) = s at *
      generalize l[i] = x at *
      have x2 : IntKind.i64.wrap (x.2 - x.1) = x.2 - x.1 := IntWalk.i64_in _ (by omega)
      have x3 : IntKind.i64.wrap (x.2 - x.1 + 1) = x.2 - x.1 + 1 := IntWalk.i64_in _ (by omega)
      have x4 : IntKind.i64.wrap (s + (x.2 - x.1 + 1)) = s + (x.2 - x.1 + 1) := IntWalk.i64_in _ (by omega)
      have hbA : Below w.heap.size w (wr.alloc (.cells #[.int .i64 x.1, .int .i64 x.2] 69)) := hb.alloc hb.size _
      go_wp2_with fail
      go_roundw
      case measure => simp [intOf]; omega
      case rel => exact ⟨i + 1, by omega, by go_num, by rw [HS.out], by repeat' (first | exact Below.refl _ _ | assumption | refine Below.more ?_ ?_ _ | refine Below.alloc ?_ ?_ _ | refine Below.drew ?_ | refine below_drewN ?_ _ | refine Below.setCell ?_ ?_ _ | exact Below.size (by assumption) | (simp [go_sem, size_more]; done) | (simp [go_sem, size_more]; omega))⟩
    · obtain rfl : i = l.length := by omega
      rw [List.take_length]
      go_wp2_with fail
      go_ret
      exact ⟨rfl, hb⟩

end Go.Proofs.Ytdlaghjijfgncaa
