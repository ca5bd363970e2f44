/- Ranks: the indices of the events in the order of their ranks; Rank. Conditions: the slice reads as a list. -/
import Derived.Test.YtdlaghjijfgncaaEvv
namespace Go.Proofs.Ytdlaghjijfgncaa
open Go.RowKit
set_option linter.unusedVariables false
set_option linter.unusedSimpArgs false

set_option maxRecDepth 100000 in
set_option maxHeartbeats 4000000 in
theorem ranked_any (l : List Ev) (v : Value) (w : World) (hv : IsEvs w v l) (hl : l.length ≤ 1000) :
    Calls Try.prog 44 #[v] w fun e w' => (∃ v' S, e = .returned v' ∧ SortedOf (wR l) (iota l.length) S ∧ Own w.heap.size 3 eInt 1 w' v' S) ∧ Below w.heap.size w w' := by
  obtain ⟨a, cap, rfl, hcap, hbig, hs⟩ := hv
  have hb0 : Below w.heap.size w (w.alloc (.cells #[.slice a l.length cap] 27)) := (Below.refl _ _).alloc (Nat.le_refl _) _
  have hblk : 0 < l.length → ∀ b off, a = some ⟨b, off, none⟩ → b < w.heap.size + 1 := by
    intro h0 b off hab
    obtain ⟨b', off', e', c1, _⟩ := hs.ev 0 h0
    rw [hab] at e'
    simp only [Option.some.injEq, Addr.mk.injEq, and_true] at e'
    obtain ⟨rfl, rfl⟩ := e'
    have := World.block_lt_of_cell? w _ c1
    simp at this
    omega
  have HC := Lib.hid (worstCmp l a cap w.heap.size (w.heap.size + 1) (w.alloc (.cells #[.slice a l.length cap] 27)) (by omega) (by simp [go_sem]) (hs.mono hb0) hblk (by omega))
  clear hblk hs
  go_enter Try.func44, Try.ntmps44
  go_wp2_with fail
  go_loopw [3, 7] (fun s3 s7 wr => ∃ k : Nat, k ≤ l.length ∧ s7 = .int .i64 k ∧ Own (w.heap.size + 1) 3 eInt 1 wr s3 (iota k) ∧ Below (w.heap.size + 1) (w.alloc (.cells #[.slice a l.length cap] 27)) wr) (fun _ i _ => l.length - (intOf i).toNat)
  case atStart => exact ⟨0, Nat.zero_le _, rfl, World.ownsRow_nil _ _ _ _, Below.refl _ _⟩
  case round =>
    obtain ⟨k, hk, rfl, hown, hb⟩ := hrel
    have hz1 : w.heap.size + 1 ≤ wr.heap.size := by have h := hb.size; simp at h; omega
    by_cases hlt : k < l.length
    · have hkl : (iota k).length = k := iota_len k
      have HKL := Lib.hid hkl
      have x1 : IntKind.i64.wrap ((k : Int) + 1) = k + 1 := IntWalk.i64_in _ (by omega)
      clear hkl
      have h5 : (iota k).length < 2147483648 := by have := HKL.out; omega
      have HIS := Lib.hid (iota_succ k)
      generalize iota k = ys at *
      obtain ⟨a5, c5, rfl⟩ := hown.isSlice
      go_wp2_with (at_builtin; go_must (refine wpList_pushB rfl _ _ 22 rfl 3 _ 1 8 undInts infInt rfl (by decide) (k : Int) (fun _ => rfl) (by simp [Value.oneCell']) _ ys rfl hown _ rfl rfl h5 (by decide) hz1 _ rfl ?_); intro g3 cap3 w1 hown1 hbg1 hgl1 hb1 hc11 hc21)
      go_roundw
      case measure => simp [intOf]; omega
      case rel => exact ⟨k + 1, by omega, by go_num, by rw [HIS.out]; exact hown1, hb.trans hb1⟩
    · obtain rfl : k = l.length := by omega
      have hHC := Lib.hid (HC.out.later hb)
      go_wp2_with fail
      refine Calls.mono (sortStable_any 60 _ ent60 _ _ (wR l) (wR_trans l) (iota l.length) (w.heap.size + 1) _ wr hHC.out hown (by omega) ?_ (iota_dec l _) (by rw [iota_len]; omega)) ?_
      · intro x hx; exact (iota_mem _ x).1 hx
      rintro e w3 ⟨rfl, ⟨S, hownS, hS⟩, hb3⟩
      have hbw3 : Below w.heap.size w w3 := hb0.trans ((hb.trans hb3).mono (by omega))
      go_wp2_with fail
      go_ret
      exact ⟨⟨_, S, rfl, hS, hownS.base (by omega)⟩, hbw3⟩

/-- What Rank hands back. -/
def RankOut (l : List Ev) (base : Nat) (w : World) (v : Value) (code : Int) : Prop :=
  (validM l = false ∧ v = .slice none 0 0 ∧ code = 1) ∨ (validM l = true ∧ code = 0 ∧ ∃ S, SortedOf (wR l) (iota l.length) S ∧ Own base 3 eInt 1 w v S)

theorem validM_len {l : List Ev} (h : validM l = true) : l.length ≤ 1000 := by
  unfold validM at h
  split at h
  · cases h
  · omega

set_option maxHeartbeats 1000000 in
theorem rank_any (l : List Ev) (v : Value) (w : World) (hv : IsEvs w v l) :
    Calls Try.prog 16 #[v] w fun e w' => (∃ v' code, e = .returned (.tuple #[v', .int .i64 code]) ∧ RankOut l w.heap.size w' v' code) ∧ Below w.heap.size w w' := by
  cases hr : validM l
  · go_enter Try.func16, Try.ntmps16
    go_wp2_with fail
    refine Calls.to (evalid_any l v w hv) ?_
    rintro e w1 rfl hb1
    rw [hr]
    go_wp2_with fail
    go_ret2
    exact ⟨⟨_, _, rfl, .inl ⟨hr, rfl, rfl⟩⟩, hb1⟩
  · go_enter Try.func16, Try.ntmps16
    go_wp2_with fail
    refine Calls.to (evalid_any l v w hv) ?_
    rintro e w1 rfl hb1
    rw [hr]
    go_wp2_with fail
    refine Calls.go hb1 (ranked_any l v w1 (hv.mono hb1) (validM_len hr)) ?_
    rintro e w2 ⟨v2, S, rfl, hS, hown⟩ hb2' hb2
    go_wp2_with fail
    go_ret2
    exact ⟨⟨_, _, rfl, .inr ⟨hr, rfl, S, hS, hown.base hb1.size⟩⟩, hb2⟩

/-! ### The plain law of ranks -/
def wRb (l : List Ev) (x y : Int) : Bool := decide (totalAt l y < totalAt l x) || (decide (totalAt l x = totalAt l y) && decide (x < y))
theorem wRb_iff (l : List Ev) (x y : Int) : wRb l x y = true ↔ wR l x y := by simp [wRb, wR]
/-- The rank of event k: how many come before it, and one. -/
def rankN (l : List Ev) (k : Int) : Nat := (iota l.length).countP (fun x => wRb l x k) + 1

theorem count_pos {l : List Ev} : ∀ {S : List Int}, S.Pairwise (wR l) → ∀ j (h : j < S.length), S.countP (fun x => wRb l x S[j]) = j
  | x :: S, hp, 0, h => by
    rw [List.pairwise_cons] at hp
    simp only [List.getElem_cons_zero]
    rw [List.countP_eq_zero]
    intro y hy
    rw [wRb_iff]
    rcases List.mem_cons.1 hy with rfl | hy
    · intro h1; exact wR_asymm l _ _ h1 h1
    · intro h1; exact wR_asymm l _ _ h1 (hp.1 y hy)
  | x :: S, hp, j + 1, h => by
    rw [List.pairwise_cons] at hp
    simp only [List.getElem_cons_succ]
    have hjS : j < S.length := by simpa using h
    have hx : wRb l x S[j] = true := (wRb_iff l _ _).2 (hp.1 _ (List.getElem_mem hjS))
    rw [List.countP_cons_of_pos (p := fun x => wRb l x S[j]) hx, count_pos hp.2 j hjS]
theorem rank_pos {l : List Ev} {S : List Int} (h : SortedOf (wR l) (iota l.length) S) (j : Nat) (hj : j < S.length) : rankN l S[j] = j + 1 := by
  unfold rankN
  rw [← h.1.countP_eq, count_pos h.2 j hj]
theorem sorted_len {l : List Ev} {S : List Int} (h : SortedOf (wR l) (iota l.length) S) : S.length = l.length := by rw [h.1.length_eq, iota_len]
theorem sorted_at {l : List Ev} {S : List Int} (h : SortedOf (wR l) (iota l.length) S) (k : Nat) (hk : k < l.length) : ∃ j, ∃ hj : j < S.length, S[j] = (k : Int) := by
  have : (k : Int) ∈ S := h.1.mem_iff.2 ((iota_mem _ _).2 (by omega))
  obtain ⟨j, hj, e⟩ := List.getElem_of_mem this
  exact ⟨j, hj, e⟩
theorem sorted_bd {l : List Ev} {S : List Int} (h : SortedOf (wR l) (iota l.length) S) (j : Nat) (hj : j < S.length) : 0 ≤ S[j] ∧ S[j] < l.length := (iota_mem _ _).1 (h.1.mem_iff.1 (List.getElem_mem hj))
theorem rankN_le (l : List Ev) (k : Int) : rankN l k ≤ l.length + 1 := by
  unfold rankN
  have := List.countP_le_length (p := fun x => wRb l x k) (l := iota l.length)
  rw [iota_len] at this
  omega

end Go.Proofs.Ytdlaghjijfgncaa
