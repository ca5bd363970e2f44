/- Lists of numbers and of events: sought, compared, sorted; how events and numbers read as arguments. No function of the program is named, but the comparison of ranked. Conditions: none. -/
import Derived.Test.YtdlaghjijfgncaaRows
import Derived.Test.YtdlaghjijfgncaaMBase
import Derived.Test.YtdlaghjijfgncaaMSort
import Derived.Test.YtdlaghjijfgncaaRead
import Derived.BigRegion
import Derived.Deep.RegionHeld3
import Derived.Deep.DeepMust
import Derived.Deep.QuietTactic
import Derived.BigQuiet
import Derived.Lib.Hide
namespace Go.Proofs.Ytdlaghjijfgncaa
open Go.RowKit
set_option linter.unusedVariables false
set_option linter.unusedSimpArgs false

set_option maxHeartbeats 400000 in
theorem indexInts (g : Nat) (lb : Array Value) (eg : ∀ args w, (callFunc g args).run Try.prog w = .ok (.enter g args) w) (p : Int → Bool) (xs : List Int) (v : Value) (w : World)
    (hv : IsInts w v xs) (hp : PredOn Try.prog g lb (fun x => .int .i64 x) p xs w) :
    Calls Try.prog 66 #[v, .func (.func g) #[] lb] w fun e w' => e = .returned (.int .i64 (idxFrom p xs 0)) ∧ Below w.heap.size w w' := by
  obtain ⟨a, cap, rfl, hcap, hbig, hs⟩ := hv
  go_enter Try.func66, Try.ntmps66
  go_wp2
  go_loopw [5, 8] (fun _ s8 wr => ∃ k : Nat, k ≤ xs.length ∧ s8 = .int .i64 k ∧ Below w.heap.size w wr ∧ Hid (idxFrom p xs 0 = idxFrom p (xs.drop k) k)) (fun _ i _ => xs.length - (intOf i).toNat)
  case atStart => exact ⟨0, Nat.zero_le _, rfl, Below.refl _ _, rfl⟩
  case round =>
    obtain ⟨k, hk, rfl, hb, hm⟩ := hrel
    obtain ⟨x, rfl⟩ := more_of_below hb
    by_cases hlt : k < xs.length
    · obtain ⟨b, off, rfl, hc⟩ := hs.int k hlt
      have hx := hp (more w x) (below_more w x) xs[k] (List.getElem_mem hlt)
      have hstep : Hid (idxFrom p (xs.drop k) k = if p xs[k] then (k : Int) else idxFrom p (xs.drop (k + 1)) (k + 1)) := by
        rw [List.drop_eq_getElem_cons hlt]; rfl
      clear hs hp
      generalize xs[k] = y at *
      cases hpy : p y
      all_goals
        rw [hpy] at hx hstep
        clear hpy
        go_wp2_with fail
        refine (Calls.on hx ?_)
        rintro e x' rfl
        go_wp2_with fail
      · go_roundw
        case rel => exact ⟨k + 1, by omega, by go_num, by repeat' (first | exact Below.refl _ _ | assumption | refine Below.more ?_ ?_ _ | refine Below.alloc ?_ ?_ _ | refine Below.drew ?_ | refine below_drewN ?_ _ | refine Below.setCell ?_ ?_ _ | exact Below.size (by assumption) | (simp [go_sem, size_more]; done) | (simp [go_sem, size_more]; omega)), hm.out.trans (hstep.out.trans (by simp))⟩
        case measure => simp [intOf]; omega
      · go_ret
        exact ⟨ret_int (hm.out.trans (hstep.out.trans (by simp))).symm, by repeat' (first | exact Below.refl _ _ | assumption | refine Below.more ?_ ?_ _ | refine Below.alloc ?_ ?_ _ | refine Below.drew ?_ | refine below_drewN ?_ _ | refine Below.setCell ?_ ?_ _ | exact Below.size (by assumption) | (simp [go_sem, size_more]; done) | (simp [go_sem, size_more]; omega))⟩
    · go_wp2
      go_ret
      refine ⟨ret_int ?_, below_more _ _⟩
      rw [hm.out, List.drop_eq_nil_of_le (by omega)]; rfl

set_option maxHeartbeats 400000 in
theorem containsInts (g : Nat) (lb : Array Value) (eg : ∀ args w, (callFunc g args).run Try.prog w = .ok (.enter g args) w) (p : Int → Bool) (xs : List Int) (v : Value) (w : World)
    (hv : IsInts w v xs) (hp : PredOn Try.prog g lb (fun x => .int .i64 x) p xs w) :
    Calls Try.prog 56 #[v, .func (.func g) #[] lb] w fun e w' => e = .returned (.bool (xs.any p)) ∧ Below w.heap.size w w' := by
  go_enter Try.func56, Try.ntmps56
  go_wp2_with fail
  refine Calls.to (indexInts g lb eg p xs v w hv hp) ?_
  rintro e w1 rfl hb
  go_wp2_with fail
  go_ret
  exact ⟨ret_bool (idxFrom_any p xs 0), hb⟩

theorem undEvs : Try.prog.underlying 27 = some (.slice 34) := by kernel_rfl

theorem infEv : (Try.prog.info? 34).map (fun i => (i.zero, i.size, i.bytes)) = some (some (.agg #[.int .i64 0, .int .i64 0, .int .i64 0, .int .i64 0]), 4, 32) := by kernel_rfl

def eqGo {α : Type} [DecidableEq α] : List α → List α → Bool
  | x :: r, y :: s => decide (x = y) && eqGo r s
  | _, _ => true

theorem eqGo_iff {α : Type} [DecidableEq α] : ∀ (xs ys : List α), xs.length = ys.length → eqGo xs ys = decide (xs = ys)
  | [], [], _ => by simp [eqGo]
  | x :: r, y :: s, h => by
    simp only [eqGo, eqGo_iff r s (by simpa using h)]
    by_cases h1 : x = y <;> by_cases h2 : r = s <;> simp [h1, h2]
  | [], _ :: _, h => by simp at h
  | _ :: _, [], h => by simp at h

theorem neqEv (a b : Ev) (w : World) : (binOp .neq 34 (vEv a) (vEv b)).run Try.prog w = .ok (.bool (!decide (a = b))) w := by
  obtain ⟨a1, a2, a3, a4⟩ := a
  obtain ⟨b1, b2, b3, b4⟩ := b
  simp [go_sem]
  by_cases h1 : a1 = b1 <;> by_cases h2 : a2 = b2 <;> by_cases h3 : a3 = b3 <;> by_cases h4 : a4 = b4 <;> simp [h1, h2, h3, h4]

set_option maxHeartbeats 1000000 in
theorem eqEvs (xs ys : List Ev) (v v2 : Value) (w : World) (hv : IsEvs w v xs) (hv2 : IsEvs w v2 ys) :
    Calls Try.prog 28 #[v, v2] w fun e w' => e = .returned (.bool (decide (xs = ys))) ∧ Below w.heap.size w w' := by
  obtain ⟨a, cap, rfl, hcap, hbig, hs⟩ := hv
  obtain ⟨a2, cap2, rfl, hcap2, hbig2, hs2⟩ := hv2
  by_cases hl : xs.length = ys.length
  · rw [← eqGo_iff xs ys hl]
    have Hl : Hid (xs.length = ys.length) := hl
    rw [← hl]
    clear hl
    have hneq := neqEv
    go_enter Try.func28, Try.ntmps28
    go_wp2_with fail
    go_loopw [13] (fun s6 wr => ∃ k : Nat, k ≤ xs.length ∧ s6 = .int .i64 k ∧ Below w.heap.size w wr ∧ Hid (eqGo xs ys = eqGo (xs.drop k) (ys.drop k))) (fun i _ => xs.length - (intOf i).toNat)
    case atStart => exact ⟨0, Nat.zero_le _, rfl, Below.refl _ _, rfl⟩
    case round =>
      obtain ⟨k, hk, rfl, hb, hm⟩ := hrel
      by_cases hlt : k < xs.length
      · have hlt2 : k < ys.length := by have := Hl.out; omega
        obtain ⟨b, off, rfl, c1, c2, c3, c4⟩ := (hs.mono hb).ev k hlt
        obtain ⟨b', off', rfl, d1, d2, d3, d4⟩ := (hs2.mono hb).ev k hlt2
        have hstep : Hid (eqGo (xs.drop k) (ys.drop k) = (decide (xs[k] = ys[k]) && eqGo (xs.drop (k + 1)) (ys.drop (k + 1)))) := by
          rw [List.drop_eq_getElem_cons hlt, List.drop_eq_getElem_cons hlt2]; rfl
        clear hs hs2
        generalize xs[k] = x at *
        generalize ys[k] = y at *
        have i1 : (0 : Int) ≤ k := by omega
        have i2 : (k : Int) < xs.length := by omega
        by_cases hxy : x = y
        · subst hxy
          go_wp2_with fail
          go_quiet (fail)
          go_wp2_with fail
          go_roundw
          case rel => exact ⟨k + 1, by omega, by go_num, by repeat' (first | exact Below.refl _ _ | assumption | refine Below.more ?_ ?_ _ | refine Below.alloc ?_ ?_ _ | refine Below.drew ?_ | refine below_drewN ?_ _ | refine Below.setCell ?_ ?_ _ | exact Below.size (by assumption) | (simp [go_sem, size_more]; done) | (simp [go_sem, size_more]; omega)), hm.out.trans (hstep.out.trans (by simp))⟩
          case measure => simp [intOf]; omega
        · go_wp2_with fail
          go_quiet (fail)
          go_wp2_with fail
          go_ret
          exact ⟨ret_bool (hm.out.trans (hstep.out.trans (by simp [hxy]))).symm, by repeat' (first | exact Below.refl _ _ | assumption | refine Below.more ?_ ?_ _ | refine Below.alloc ?_ ?_ _ | refine Below.drew ?_ | refine below_drewN ?_ _ | refine Below.setCell ?_ ?_ _ | exact Below.size (by assumption) | (simp [go_sem, size_more]; done) | (simp [go_sem, size_more]; omega))⟩
      · go_wp2_with fail
        go_ret
        refine ⟨ret_bool ?_, hb⟩
        rw [hm.out, List.drop_eq_nil_of_le (by omega)]; rfl
  · have hd : decide (xs = ys) = false := by
      simp; intro h; exact hl (by rw [h])
    rw [hd]
    clear hd
    go_enter Try.func28, Try.ntmps28
    go_wp2_with fail
    go_ret
    exact ⟨rfl, Below.refl _ _⟩

def cmp3 (x y : Int) : Int := if x < y then -1 else if y < x then 1 else 0

set_option maxHeartbeats 400000 in
theorem nan_any (x : Int) (w : World) : Calls Try.prog 68 #[.int .i64 x] w fun e w' => e = .returned (.bool false) ∧ w = w' := by
  have h : (x != x) = false := by simp
  go_enter Try.func68, Try.ntmps68
  go_wp2
  go_ret
  exact ⟨by simp, rfl⟩

set_option maxHeartbeats 400000 in
theorem cmpInt_any (x y : Int) (w : World) : Calls Try.prog 61 #[.int .i64 x, .int .i64 y] w fun e w' => e = .returned (.int .i64 (cmp3 x y)) ∧ w' = w := by
  unfold cmp3
  rcases Int.lt_trichotomy x y with h | h | h
  · rw [if_pos h]
    go_enter Try.func61, Try.ntmps61
    go_wp2_with (go_at_call 68; refine (nan_any _ _).mono ?_; rintro e w' ⟨rfl, rfl⟩)
    go_ret
    exact ⟨rfl, rfl⟩
  · subst h
    rw [if_neg (by omega), if_neg (by omega)]
    go_enter Try.func61, Try.ntmps61
    go_wp2_with (go_at_call 68; refine (nan_any _ _).mono ?_; rintro e w' ⟨rfl, rfl⟩)
    go_ret
    exact ⟨rfl, rfl⟩
  · rw [if_neg (by omega), if_pos h]
    go_enter Try.func61, Try.ntmps61
    go_wp2_with (go_at_call 68; refine (nan_any _ _).mono ?_; rintro e w' ⟨rfl, rfl⟩)
    go_ret
    exact ⟨rfl, rfl⟩

theorem ent60 : ∀ args w, (callFunc 60 args).run Try.prog w = .ok (.enter 60 args) w := by
  intro args w
  simp [go_sem]

def totalAt (l : List Ev) (i : Int) : Int := (l.getD i.toNat default).Total

/-- The comparison: it reads two Totals through the captured list. -/
theorem worstCmp (l : List Ev) (a : Option Addr) (cap B base : Nat) (w0 : World) (hB : B < base) (hbox : w0.cell? ⟨B, 0, none⟩ = some (.slice a l.length cap)) (hs : IsC eEv 4 w0 a l) (hblk : 0 < l.length → ∀ b off, a = some ⟨b, off, none⟩ → b < base) (hl : l.length ≤ 10000) :
    CmpOK Try.prog 60 #[.pointer (some ⟨B, 0, none⟩)] (fun x y => cmp3 (totalAt l y) (totalAt l x)) (fun x => 0 ≤ x ∧ x < l.length) base w0 := by
  intro W hW x y hx hy
  obtain ⟨i, rfl⟩ := Int.eq_ofNat_of_zero_le hx.1
  obtain ⟨j, rfl⟩ := Int.eq_ofNat_of_zero_le hy.1
  have hi : i < l.length := by omega
  have hj : j < l.length := by omega
  obtain ⟨b, off, rfl, c1, c2, c3, c4⟩ := hs.ev i hi
  obtain ⟨b', off', e, d1, d2, d3, d4⟩ := hs.ev j hj
  simp only [Option.some.injEq, Addr.mk.injEq, and_true] at e
  obtain ⟨rfl, rfl⟩ := e
  have hb := hblk (by omega) b off rfl
  rw [← hW.cell (p := ⟨B, 0, none⟩) hB] at hbox
  rw [← hW.cell (p := ⟨b, off + i * 4 + 2, none⟩) hb] at c3
  rw [← hW.cell (p := ⟨b, off + j * 4 + 2, none⟩) hb] at d3
  have e1 : totalAt l (i : Int) = l[i].Total := by simp [totalAt, hi]
  have e2 : totalAt l (j : Int) = l[j].Total := by simp [totalAt, hj]
  dsimp only
  rw [e1, e2]
  generalize l[i] = X at *
  generalize l[j] = Y at *
  clear e1 e2 c1 c2 c4 d1 d2 d4 hs hblk
  have hi0 : (0 : Int) ≤ i := by omega
  have hj0 : (0 : Int) ≤ j := by omega
  have hi1 : (i : Int) < l.length := by omega
  have hj1 : (j : Int) < l.length := by omega
  show Calls Try.prog 60 #[.int .i64 i, .int .i64 j, .pointer (some ⟨B, 0, none⟩)] W _
  go_enter Try.func60, Try.ntmps60
  go_wp2_with fail
  go_quiet ((go_at_call 61; exact Calls.quiet_of_same (cmpInt_any _ _ _)))
  go_wp2_with fail
  go_ret
  exact ⟨rfl, nq, rfl⟩

def wR (l : List Ev) (x y : Int) : Prop := totalAt l y < totalAt l x ∨ (totalAt l x = totalAt l y ∧ x < y)

theorem wR_trans (l : List Ev) : ∀ x y z, wR l x y → wR l y z → wR l x z := by
  intro x y z h1 h2
  unfold wR at *
  rcases h1 with h1 | ⟨h1, h1'⟩ <;> rcases h2 with h2 | ⟨h2, h2'⟩
  · exact .inl (by omega)
  · exact .inl (by omega)
  · exact .inl (by omega)
  · exact .inr ⟨by omega, by omega⟩

def iota (n : Nat) : List Int := (List.range n).map fun (i : Nat) => (i : Int)

theorem iota_len (n : Nat) : (iota n).length = n := by simp [iota]

theorem iota_succ (n : Nat) : iota (n + 1) = iota n ++ [(n : Int)] := by simp [iota, List.range_succ]

theorem iota_mem (n : Nat) (x : Int) : x ∈ iota n ↔ 0 ≤ x ∧ x < n := by
  unfold iota
  simp only [List.mem_map, List.mem_range]
  constructor
  · rintro ⟨i, hi, rfl⟩; omega
  · rintro ⟨h1, h2⟩; exact ⟨x.toNat, by omega, by omega⟩

theorem iota_pw (n : Nat) : (iota n).Pairwise (· < ·) := by
  induction n with
  | zero => simp [iota]
  | succ n ih =>
    rw [iota_succ, List.pairwise_append]
    refine ⟨ih, by simp, ?_⟩
    intro x hx y hy
    rw [iota_mem] at hx
    simp at hy
    omega

theorem iota_dec (l : List Ev) (n : Nat) : (iota n).Pairwise (Dec (fun x y => cmp3 (totalAt l y) (totalAt l x)) (wR l)) := by
  refine (iota_pw n).imp ?_
  intro x y hxy
  unfold Dec wR cmp3
  dsimp only
  constructor
  · intro h; split at h
    · exact .inl (by omega)
    · split at h <;> omega
  · intro h; split at h
    · omega
    · split at h
      · exact .inl (by omega)
      · exact .inr ⟨by omega, hxy⟩

theorem Own.takeL {base : Nat} {e : TypeId} {w : World} {a : Option Addr} {n cap : Nat} {xs : List Int} (h : Own base e eInt 1 w (.slice a n cap) xs) (m : Nat) (hm : m ≤ xs.length) : IsInts w (.slice a m cap) (xs.take m) := by
  obtain ⟨a', cap', e', h1, h2, h3⟩ := h.isL (fun _ => rfl)
  simp only [Value.slice.injEq] at e'
  obtain ⟨rfl, rfl, rfl⟩ := e'
  refine ⟨a, cap, by simp; omega, by simp; omega, h2, ?_⟩
  intro i hi
  simp only [List.length_take] at hi
  obtain ⟨b, off, ea, hc⟩ := h3 i (by omega)
  refine ⟨b, off, ea, fun j hj => ?_⟩
  rw [hc j hj]
  simp

theorem undInts : Try.prog.underlying 22 = some (.slice 3) := by kernel_rfl

theorem infInt : (Try.prog.info? 3).map (fun i => (i.zero, i.size, i.bytes)) = some (some (.int .i64 0), 1, 8) := by kernel_rfl

set_option maxHeartbeats 1000000 in
theorem eqInts (xs ys : List Int) (v v2 : Value) (w : World) (hv : IsInts w v xs) (hv2 : IsInts w v2 ys) :
    Calls Try.prog 20 #[v, v2] w fun e w' => e = .returned (.bool (decide (xs = ys))) ∧ Below w.heap.size w w' := by
  obtain ⟨a, cap, rfl, hcap, hbig, hs⟩ := hv
  obtain ⟨a2, cap2, rfl, hcap2, hbig2, hs2⟩ := hv2
  by_cases hl : xs.length = ys.length
  · rw [← eqGo_iff xs ys hl]
    have Hl : Hid (xs.length = ys.length) := hl
    rw [← hl]
    clear hl
    go_enter Try.func20, Try.ntmps20
    go_wp2_with fail
    go_loopw [13] (fun s6 wr => ∃ k : Nat, k ≤ xs.length ∧ s6 = .int .i64 k ∧ Below w.heap.size w wr ∧ Hid (eqGo xs ys = eqGo (xs.drop k) (ys.drop k))) (fun i _ => xs.length - (intOf i).toNat)
    case atStart => exact ⟨0, Nat.zero_le _, rfl, Below.refl _ _, rfl⟩
    case round =>
      obtain ⟨k, hk, rfl, hb, hm⟩ := hrel
      by_cases hlt : k < xs.length
      · have hlt2 : k < ys.length := by have := Hl.out; omega
        obtain ⟨b, off, rfl, c1⟩ := (hs.mono hb).int k hlt
        obtain ⟨b', off', rfl, d1⟩ := (hs2.mono hb).int k hlt2
        have hstep : Hid (eqGo (xs.drop k) (ys.drop k) = (decide (xs[k] = ys[k]) && eqGo (xs.drop (k + 1)) (ys.drop (k + 1)))) := by
          rw [List.drop_eq_getElem_cons hlt, List.drop_eq_getElem_cons hlt2]; rfl
        clear hs hs2
        generalize xs[k] = x at *
        generalize ys[k] = y at *
        have i1 : (0 : Int) ≤ k := by omega
        have i2 : (k : Int) < xs.length := by omega
        by_cases hxy : x = y
        · subst hxy
          have hne : (x != x) = false := by simp
          go_wp2_with fail
          go_quiet (fail)
          go_wp2_with fail
          go_roundw
          case rel => exact ⟨k + 1, by omega, by go_num, by repeat' (first | exact Below.refl _ _ | assumption | refine Below.more ?_ ?_ _ | refine Below.alloc ?_ ?_ _ | refine Below.drew ?_ | refine below_drewN ?_ _ | refine Below.setCell ?_ ?_ _ | exact Below.size (by assumption) | (simp [go_sem, size_more]; done) | (simp [go_sem, size_more]; omega)), hm.out.trans (hstep.out.trans (by simp))⟩
          case measure => simp [intOf]; omega
        · have hne : (x != y) = true := by rw [bne_iff_ne]; exact hxy
          go_wp2_with fail
          go_quiet (fail)
          go_wp2_with fail
          go_ret
          exact ⟨ret_bool (hm.out.trans (hstep.out.trans (by simp [hxy]))).symm, by repeat' (first | exact Below.refl _ _ | assumption | refine Below.more ?_ ?_ _ | refine Below.alloc ?_ ?_ _ | refine Below.drew ?_ | refine below_drewN ?_ _ | refine Below.setCell ?_ ?_ _ | exact Below.size (by assumption) | (simp [go_sem, size_more]; done) | (simp [go_sem, size_more]; omega))⟩
      · go_wp2_with fail
        go_ret
        refine ⟨ret_bool ?_, hb⟩
        rw [hm.out, List.drop_eq_nil_of_le (by omega)]; rfl
  · have hd : decide (xs = ys) = false := by
      simp; intro h; exact hl (by rw [h])
    rw [hd]
    clear hd
    have hlb : ((xs.length : Int) != ys.length) = true := by rw [bne_iff_ne]; omega
    go_enter Try.func20, Try.ntmps20
    go_wp2_with fail
    go_ret
    exact ⟨rfl, Below.refl _ _⟩

/-- A slice written out: its cells lie in one new block. -/
theorem isL_lit {α : Type} (enc : α → List Value) (k : Nat) (hk : ∀ x, (enc x).length = k) (w : World) (b : Nat) (e : TypeId) (cs : Array Value) (xs : List α) (n cap : Nat) (hb : w.heap[b]? = some (.cells cs e (0, 0))) (hn : n = xs.length) (hcs : cs.toList = xs.flatMap enc) (hc : xs.length ≤ cap) (hc2 : cap ≤ 9223372036854775807) :
    IsL enc k w (.slice (some ⟨b, 0, none⟩) n cap) xs := by
  refine ⟨some ⟨b, 0, none⟩, cap, by rw [hn], hc, hc2, fun i hi => ⟨b, 0, rfl, fun j hj => ?_⟩⟩
  have h1 := flat_get enc k hk xs i j hi hj
  rw [← hcs] at h1
  simp only [World.cell?, hb, Nat.zero_add]
  simpa using h1

theorem sorted_unique {R : Int → Int → Prop} (ha : ∀ x y, R x y → ¬ R y x) : ∀ (S1 S2 : List Int), S1.Perm S2 → S1.Pairwise R → S2.Pairwise R → S1 = S2
  | [], S2, hp, _, _ => (List.nil_perm.1 hp).symm
  | x :: S1, [], hp, _, _ => by have := hp.length_eq; simp at this
  | x :: S1, y :: S2, hp, h1, h2 => by
    rw [List.pairwise_cons] at h1 h2
    have hxy : x = y := by
      have hx : x ∈ y :: S2 := hp.mem_iff.1 (by simp)
      have hy : y ∈ x :: S1 := hp.mem_iff.2 (by simp)
      rcases List.mem_cons.1 hx with h | h
      · exact h
      · rcases List.mem_cons.1 hy with h' | h'
        · exact h'.symm
        · exact absurd (h1.1 y h') (ha _ _ (h2.1 x h))
    subst hxy
    rw [sorted_unique ha S1 S2 (List.Perm.cons_inv hp) h1.2 h2.2]

theorem wR_asymm (l : List Ev) : ∀ x y, wR l x y → ¬ wR l y x := by
  intro x y h1 h2
  unfold wR at *
  rcases h1 with h1 | ⟨h1, h1'⟩ <;> rcases h2 with h2 | ⟨h2, h2'⟩ <;> omega

abbrev gI64 : World → Int → Prop := fun _ n => (Lit.int .i64 n).wf = true

theorem rdI : Rdr Try.prog 3 eInt 1 gI64 := rdInt (by kernel_rfl) (by kernel_rfl)

theorem rdInts : Rdr Try.prog 22 (fun s : Sl Int => [vSl s]) 1 (gSl eInt 1 gI64) := rdSlice rdI Nat.zero_lt_one (by kernel_rfl) (by kernel_rfl)

def gEv (W : World) (e : Ev) : Prop := gI64 W e.From ∧ gI64 W e.To ∧ gI64 W e.Total ∧ gI64 W e.Peak

theorem rdEv : Rdr Try.prog 34 eEv 4 gEv := by
  refine ⟨by kernel_rfl, fun _ => rfl, ?_, ?_⟩
  · intro H e W fuel cs x h
    obtain ⟨hl, hf⟩ := rd_fields (by kernel_rfl) h
    rw [show Try.prog.cellsOf 34 = 4 from by kernel_rfl] at hl
    obtain ⟨a0, e0, g0⟩ := hf 0 3 0 (by kernel_rfl) rdI
    obtain ⟨a1, e1, g1⟩ := hf 1 3 1 (by kernel_rfl) rdI
    obtain ⟨a2, e2, g2⟩ := hf 2 3 2 (by kernel_rfl) rdI
    obtain ⟨a3, e3, g3⟩ := hf 3 3 3 (by kernel_rfl) rdI
    have hj := cutAt_join cs [1, 1, 1, 1] 0 (by rw [hl]; rfl)
    simp only [cutAt, Nat.zero_add, Nat.reduceAdd] at hj
    rw [e0, e1, e2, e3] at hj
    exact ⟨⟨a0, a1, a2, a3⟩, by simpa using hj.symm, g0, g1, g2, g3⟩
  · intro W W' a h hb
    exact h

set_option maxRecDepth 100000 in
theorem openEvs {H : Type} {en : TypeId × Value → H} {W : World} {v : Value} {d : DataW H} {ps : List MemPlace} {r : Reach} {b0 : Nat} (hv : Value.okWide Try.prog W r b0 27 v) (h : DataW.Trod en Try.prog W 0 (fun _ => true) true 27 v d ps) :
    ∃ s : Sl Ev, v = vSl s ∧ gSl eEv 4 gEv W s := arg_slice rdEv (by decide) (by kernel_rfl) (by kernel_rfl) hv h

end Go.Proofs.Ytdlaghjijfgncaa
