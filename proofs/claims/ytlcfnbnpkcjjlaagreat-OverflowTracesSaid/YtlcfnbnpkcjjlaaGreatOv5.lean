/- Worst: the indices of the worst events, in order. Conditions: none. -/
import Derived.Test.YtlcfnbnpkcjjlaaGreatMOv
import Derived.Test.YtlcfnbnpkcjjlaaGreatMSort
namespace Go.Proofs.YtlcfnbnpkcjjlaaGreat
open Go.RowKit
set_option linter.unusedVariables false
set_option linter.unusedSimpArgs false

def cmp3 (x y : Int) : Int := if x < y then -1 else if y < x then 1 else 0

set_option maxHeartbeats 400000 in
theorem nan_any (x : Int) (w : World) : Calls Tryz.prog 74 #[.int .i64 x] w fun e w' => e = .returned (.bool false) ∧ w = w' := by
  have h : (x != x) = false := by simp
  go_enter Tryz.func74, Tryz.ntmps74
  go_wp2
  go_ret
  exact ⟨by simp, rfl⟩

set_option maxHeartbeats 400000 in
theorem cmpInt_any (x y : Int) (w : World) : Calls Tryz.prog 49 #[.int .i64 x, .int .i64 y] w fun e w' => e = .returned (.int .i64 (cmp3 x y)) ∧ w' = w := by
  unfold cmp3
  rcases Int.lt_trichotomy x y with h | h | h
  · rw [if_pos h]
    go_enter Tryz.func49, Tryz.ntmps49
    go_wp2_with (go_at_call 74; refine (nan_any _ _).mono ?_; rintro e w' ⟨rfl, rfl⟩)
    go_ret
    exact ⟨rfl, rfl⟩
  · subst h
    rw [if_neg (by omega), if_neg (by omega)]
    go_enter Tryz.func49, Tryz.ntmps49
    go_wp2_with (go_at_call 74; refine (nan_any _ _).mono ?_; rintro e w' ⟨rfl, rfl⟩)
    go_ret
    exact ⟨rfl, rfl⟩
  · rw [if_neg (by omega), if_pos h]
    go_enter Tryz.func49, Tryz.ntmps49
    go_wp2_with (go_at_call 74; refine (nan_any _ _).mono ?_; rintro e w' ⟨rfl, rfl⟩)
    go_ret
    exact ⟨rfl, rfl⟩

theorem ent48 : ∀ args w, (callFunc 48 args).run Tryz.prog w = .ok (.enter 48 args) w := by
  intro args w
  simp [go_sem]

def totalAt (l : List Ev) (i : Int) : Int := (l.getD i.toNat default).Total

/-- The comparison: it reads two Totals through the captured list. -/
theorem worstCmp (l : List Ev) (a : Option Addr) (cap B base : Nat) (w0 : World) (hB : B < base) (hbox : w0.cell? ⟨B, 0, none⟩ = some (.slice a l.length cap)) (hs : IsC eEv 4 w0 a l) (hblk : 0 < l.length → ∀ b off, a = some ⟨b, off, none⟩ → b < base) (hl : l.length ≤ 10000) :
    CmpOK Tryz.prog 48 #[.pointer (some ⟨B, 0, none⟩)] (fun x y => cmp3 (totalAt l y) (totalAt l x)) (fun x => 0 ≤ x ∧ x < l.length) base w0 := by
  intro W hW x y hx hy
  obtain ⟨i, rfl⟩ := Int.eq_ofNat_of_zero_le hx.1
  obtain ⟨j, rfl⟩ := Int.eq_ofNat_of_zero_le hy.1
  have hi : i < l.length := by omega
  have hj : j < l.length := by omega
  obtain ⟨b, off, rfl, c1, c2, c3, c4⟩ := hs.ev i hi
  obtain ⟨b', off', e, d1, d2, d3, d4⟩ := hs.ev j hj
  simp only [Option.some.injEq, Addr.mk.injEq, and_true] at e
  obtain ⟨rfl, rfl⟩ := e
  have hb := hblk (by omega) b off rfl
  rw [← hW.cell (p := ⟨B, 0, none⟩) hB] at hbox
  rw [← hW.cell (p := ⟨b, off + i * 4 + 2, none⟩) hb] at c3
  rw [← hW.cell (p := ⟨b, off + j * 4 + 2, none⟩) hb] at d3
  have e1 : totalAt l (i : Int) = l[i].Total := by simp [totalAt, hi]
  have e2 : totalAt l (j : Int) = l[j].Total := by simp [totalAt, hj]
  dsimp only
  rw [e1, e2]
  generalize l[i] = X at *
  generalize l[j] = Y at *
  clear e1 e2 c1 c2 c4 d1 d2 d4 hs hblk
  have hi0 : (0 : Int) ≤ i := by omega
  have hj0 : (0 : Int) ≤ j := by omega
  have hi1 : (i : Int) < l.length := by omega
  have hj1 : (j : Int) < l.length := by omega
  show Calls Tryz.prog 48 #[.int .i64 i, .int .i64 j, .pointer (some ⟨B, 0, none⟩)] W _
  go_enter Tryz.func48, Tryz.ntmps48
  go_wp2_with fail
  go_quiet ((go_at_call 49; exact Calls.quiet_of_same (cmpInt_any _ _ _)))
  go_wp2_with fail
  go_ret
  exact ⟨rfl, nq, rfl⟩

def wR (l : List Ev) (x y : Int) : Prop := totalAt l y < totalAt l x ∨ (totalAt l x = totalAt l y ∧ x < y)
theorem wR_trans (l : List Ev) : ∀ x y z, wR l x y → wR l y z → wR l x z := by
  intro x y z h1 h2
  unfold wR at *
  rcases h1 with h1 | ⟨h1, h1'⟩ <;> rcases h2 with h2 | ⟨h2, h2'⟩
  · exact .inl (by omega)
  · exact .inl (by omega)
  · exact .inl (by omega)
  · exact .inr ⟨by omega, by omega⟩

def iota (n : Nat) : List Int := (List.range n).map fun (i : Nat) => (i : Int)
theorem iota_len (n : Nat) : (iota n).length = n := by simp [iota]
theorem iota_succ (n : Nat) : iota (n + 1) = iota n ++ [(n : Int)] := by simp [iota, List.range_succ]
theorem iota_mem (n : Nat) (x : Int) : x ∈ iota n ↔ 0 ≤ x ∧ x < n := by
  unfold iota
  simp only [List.mem_map, List.mem_range]
  constructor
  · rintro ⟨i, hi, rfl⟩; omega
  · rintro ⟨h1, h2⟩; exact ⟨x.toNat, by omega, by omega⟩
theorem iota_pw (n : Nat) : (iota n).Pairwise (· < ·) := by
  induction n with
  | zero => simp [iota]
  | succ n ih =>
    rw [iota_succ, List.pairwise_append]
    refine ⟨ih, by simp, ?_⟩
    intro x hx y hy
    rw [iota_mem] at hx
    simp at hy
    omega

theorem iota_dec (l : List Ev) (n : Nat) : (iota n).Pairwise (Dec (fun x y => cmp3 (totalAt l y) (totalAt l x)) (wR l)) := by
  refine (iota_pw n).imp ?_
  intro x y hxy
  unfold Dec wR cmp3
  dsimp only
  constructor
  · intro h; split at h
    · exact .inl (by omega)
    · split at h <;> omega
  · intro h; split at h
    · omega
    · split at h
      · exact .inl (by omega)
      · exact .inr ⟨by omega, hxy⟩

theorem Own.takeL {base : Nat} {e : TypeId} {w : World} {a : Option Addr} {n cap : Nat} {xs : List Int} (h : Own base e eInt 1 w (.slice a n cap) xs) (m : Nat) (hm : m ≤ xs.length) : IsInts w (.slice a m cap) (xs.take m) := by
  obtain ⟨a', cap', e', h1, h2, h3⟩ := h.isL (fun _ => rfl)
  simp only [Value.slice.injEq] at e'
  obtain ⟨rfl, rfl, rfl⟩ := e'
  refine ⟨a, cap, by simp; omega, by simp; omega, h2, ?_⟩
  intro i hi
  simp only [List.length_take] at hi
  obtain ⟨b, off, ea, hc⟩ := h3 i (by omega)
  refine ⟨b, off, ea, fun j hj => ?_⟩
  rw [hc j hj]
  simp

theorem undInts : Tryz.prog.underlying 26 = some (.slice 3) := by kernel_rfl
theorem infInt : (Tryz.prog.info? 3).map (fun i => (i.zero, i.size, i.bytes)) = some (some (.int .i64 0), 1, 8) := by kernel_rfl

/-- What Worst hands back. -/
def WorstOut (l : List Ev) (k : Int) (w : World) (v : Value) (code : Int) : Prop :=
  (rightM l = false ∧ v = .slice none 0 0 ∧ code = 1) ∨ (rightM l = true ∧ k < 0 ∧ v = .slice none 0 0 ∧ code = 2) ∨
  (rightM l = true ∧ 0 ≤ k ∧ code = 0 ∧ ∃ S, SortedOf (wR l) (iota l.length) S ∧ IsInts w v (S.take k.toNat))

set_option maxRecDepth 100000 in
set_option maxHeartbeats 2000000 in
theorem worst_any (l : List Ev) (v : Value) (k : Int) (w : World) (hv : IsEvs w v l) :
    Calls Tryz.prog 16 #[v, .int .i64 k] w fun e w' => (∃ v' code, e = .returned (.tuple #[v', .int .i64 code]) ∧ WorstOut l k w' v' code) ∧ Below w.heap.size w w' := by
  obtain ⟨a, cap, rfl, hcap, hbig, hs⟩ := hv
  have hv0 : IsEvs w (.slice a l.length cap) l := ⟨a, cap, rfl, hcap, hbig, hs⟩
  cases hr : rightM l
  · go_enter Tryz.func16, Tryz.ntmps16
    go_wp2_with fail
    refine Calls.on (right_any l _ _ (hv0.mono (by repeat' (first | exact Below.refl _ _ | assumption | refine Below.more ?_ ?_ _ | refine Below.alloc ?_ ?_ _ | refine Below.drew ?_ | refine below_drewN ?_ _ | refine Below.setCell ?_ ?_ _ | exact Below.size (by assumption) | (simp [go_sem, size_more]; done) | (simp [go_sem, size_more]; omega))))) ?_
    rintro e x rfl
    go_wp2_with fail
    go_ret2
    exact ⟨⟨_, _, rfl, .inl ⟨hr, rfl, rfl⟩⟩, by repeat' (first | exact Below.refl _ _ | assumption | refine Below.more ?_ ?_ _ | refine Below.alloc ?_ ?_ _ | refine Below.drew ?_ | refine below_drewN ?_ _ | refine Below.setCell ?_ ?_ _ | exact Below.size (by assumption) | (simp [go_sem, size_more]; done) | (simp [go_sem, size_more]; omega))⟩
  · by_cases hk : k < 0
    · go_enter Tryz.func16, Tryz.ntmps16
      go_wp2_with fail
      refine Calls.on (right_any l _ _ (hv0.mono (by repeat' (first | exact Below.refl _ _ | assumption | refine Below.more ?_ ?_ _ | refine Below.alloc ?_ ?_ _ | refine Below.drew ?_ | refine below_drewN ?_ _ | refine Below.setCell ?_ ?_ _ | exact Below.size (by assumption) | (simp [go_sem, size_more]; done) | (simp [go_sem, size_more]; omega))))) ?_
      rintro e x rfl
      go_wp2_with fail
      go_ret2
      exact ⟨⟨_, _, rfl, .inr (.inl ⟨hr, hk, rfl, rfl⟩)⟩, by repeat' (first | exact Below.refl _ _ | assumption | refine Below.more ?_ ?_ _ | refine Below.alloc ?_ ?_ _ | refine Below.drew ?_ | refine below_drewN ?_ _ | refine Below.setCell ?_ ?_ _ | exact Below.size (by assumption) | (simp [go_sem, size_more]; done) | (simp [go_sem, size_more]; omega))⟩
    · have hl : l.length ≤ 10000 := by
        unfold rightM at hr
        split at hr
        · cases hr
        · omega
      have hkd : decide (k < 0) = false := by simp; omega
      have hk0 : 0 ≤ k := by omega
      go_enter Tryz.func16, Tryz.ntmps16
      go_wp2_with fail
      refine Calls.to (right_any l _ _ (hv0.mono (by repeat' (first | exact Below.refl _ _ | assumption | refine Below.more ?_ ?_ _ | refine Below.alloc ?_ ?_ _ | refine Below.drew ?_ | refine below_drewN ?_ _ | refine Below.setCell ?_ ?_ _ | exact Below.size (by assumption) | (simp [go_sem, size_more]; done) | (simp [go_sem, size_more]; omega))))) ?_
      rintro e w1 rfl hb1
      have hbox : w1.cell? ⟨w.heap.size, 0, none⟩ = some (.slice a l.length cap) := by
        rw [hb1.cell (p := ⟨w.heap.size, 0, none⟩) (by simp), World.cell?_alloc_new]; rfl
      have hbw1 : Below w.heap.size w w1 := ((Below.refl w.heap.size w).alloc (Nat.le_refl _) _).trans (hb1.mono (by simp))
      have hsz1 : w.heap.size < w1.heap.size := by have := hb1.size; simp at this; omega
      clear hb1
      go_wp2_with (refine wpList_mk _ rfl _ _ 26 rfl w1.heap.size 3 _ 8 undInts infInt eInt 0 rfl rfl _ _ l.length rfl rfl rfl rfl (by omega) (by omega) (Nat.le_refl _) ?_; intro w2 hown hb2 hlt2)
      have hbw2 := hbw1.trans (hb2.mono hbw1.size)
      have hlt1 := hb2.size
      go_loopw [20] (fun s20 wr => ∃ (i : Nat) (ys : List Int), s20 = .int .i64 i ∧ i ≤ l.length ∧ Own w1.heap.size 3 eInt 1 wr (.slice (some ⟨w1.heap.size, 0, none⟩) l.length l.length) ys ∧ Below w1.heap.size w1 wr ∧
        Hid (ys = iota i ++ List.replicate (l.length - i) 0)) (fun i _ => l.length - (intOf i).toNat)
      case atStart => exact ⟨0, _, rfl, by omega, hown, hb2, rfl⟩
      case round =>
        obtain ⟨i, ys, rfl, hi, hown, hb, hm⟩ := hrel
        have hsz := hb.size
        have hyl := hown.len
        by_cases hlt : i < l.length
        · have c1 := hown.int i (by omega)
          have f1 := hown.free i
          have HY := Lib.hid hyl
          clear hyl
          have hi0 : (i : Int) < l.length := by omega
          go_wp2
          go_roundw
          case measure => simp [intOf]; omega
          case rel =>
            refine ⟨i + 1, _, by go_num, by omega, hown.setInt i (by have := HY.out; omega) i, by repeat' (first | exact Below.refl _ _ | assumption | refine Below.more ?_ ?_ _ | refine Below.alloc ?_ ?_ _ | refine Below.drew ?_ | refine below_drewN ?_ _ | refine Below.setCell ?_ ?_ _ | exact Below.size (by assumption) | (simp [go_sem, size_more]; done) | (simp [go_sem, size_more]; omega)), ?_⟩
            show _ = _
            rw [hm.out, iota_succ, List.set_append_right _ _ (by rw [iota_len]; omega), iota_len, Nat.sub_self, show l.length - i = (l.length - (i + 1)) + 1 from by omega, List.replicate_succ]
            simp
        · obtain rfl : i = l.length := by omega
          have hys : ys = iota l.length := by rw [hm.out]; simp
          subst hys
          clear hyl hm
          have hcmp : CmpOK Tryz.prog 48 #[.pointer (some ⟨w.heap.size, 0, none⟩)] (fun x y => cmp3 (totalAt l y) (totalAt l x)) (fun x => 0 ≤ x ∧ x < l.length) w1.heap.size wr := by
            refine (worstCmp l a cap w.heap.size w1.heap.size w1 hsz1 hbox (hs.mono hbw1) ?_ hl).later hb
            intro h0 b off hab
            obtain ⟨b', off', e', c1, _⟩ := hs.ev 0 h0
            rw [hab] at e'
            simp only [Option.some.injEq, Addr.mk.injEq, and_true] at e'
            obtain ⟨rfl, rfl⟩ := e'
            have := World.block_lt_of_cell? w _ c1
            simp at this
            omega
          have HC := Lib.hid hcmp
          clear hcmp
          go_wp2_with fail
          refine Calls.mono (sortStable_any 48 _ ent48 _ _ (wR l) (wR_trans l) (iota l.length) w1.heap.size _ wr HC.out hown (by omega) ?_ (iota_dec l _) (by rw [iota_len]; omega)) ?_
          · intro x hx; exact (iota_mem _ x).1 hx
          rintro e w3 ⟨rfl, ⟨S, hownS, hS⟩, hb3⟩
          have hbw3 := hbw1.trans ((hb.trans hb3).mono hbw1.size)
          have hSl : S.length = l.length := by rw [hS.1.length_eq, iota_len]
          obtain ⟨kn, rfl⟩ := Int.eq_ofNat_of_zero_le hk0
          by_cases hkl : l.length < kn
          · go_wp2_with fail
            go_ret2
            refine ⟨⟨_, _, rfl, .inr (.inr ⟨hr, hk0, rfl, S, hS, ?_⟩)⟩, hbw3⟩
            have := hownS.takeL l.length (by omega)
            rw [List.take_of_length_le (by omega)] at this
            rw [List.take_of_length_le (by simp; omega)]
            exact this
          · go_wp2_with fail
            go_ret2
            refine ⟨⟨_, _, rfl, .inr (.inr ⟨hr, hk0, rfl, S, hS, ?_⟩)⟩, hbw3⟩
            exact hownS.takeL kn (by omega)

end Go.Proofs.YtlcfnbnpkcjjlaaGreat
