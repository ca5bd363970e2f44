/- The library at lists of nodes and edges: equality, search, clones; compacting and binary search by the shelf. Conditions: lengths below a million. -/
import Derived.Test.YtlcfnbnpkcjjlaaGreatDga
import Derived.Test.YtlcfnbnpkcjjlaaGreatOv6
import Derived.OwnWalk
import Derived.WalkLawsBesides
import Derived.Lib.LazyBuf
import Derived.Sort.OwnSortedInts
import Derived.Shelf.Slices.CompactI
import Derived.Shelf.Slices.SearchI
import Derived.Ground.Names2Prog
namespace Go.Proofs
open Go.Shelf
def Tryz.laysCompact_ren : Go.Shelf.Ren := ⟨fun | 20 => 108 | n => n, fun | 22 => 26 | 3 => 3 | 4 => 4 | 0 => 0 | n => n, fun | n => n⟩
theorem Tryz.laysCompact : Go.Proofs.Lays2.n20 Tryz.prog Tryz.laysCompact_ren := {
  mixed := by kernel_rfl
  f20 := Tryz.func108.trans (congrArg some (by kernel_rfl))
  t0 := Tryz.underlying0
  a0 := Tryz.isAgg0
  z0 := Tryz.sizeOf0
  v0 := Tryz.zeroValue0
  t3 := Tryz.underlying3
  a3 := Tryz.isAgg3
  z3 := Tryz.sizeOf3
  v3 := Tryz.zeroValue3
  t4 := Tryz.underlying4
  a4 := Tryz.isAgg4
  z4 := Tryz.sizeOf4
  v4 := Tryz.zeroValue4
  t22 := Tryz.underlying26
  a22 := Tryz.isAgg26
  z22 := Tryz.sizeOf26
  v22 := Tryz.zeroValue26
  i3 := by kernel_rfl }
def Tryz.laysSearch_ren : Go.Shelf.Ren := ⟨fun | 25 => 92 | 31 => 109 | 32 => 110 | 37 => 74 | n => n, fun | 22 => 26 | 3 => 3 | 4 => 4 | 40 => 128 | 0 => 0 | n => n, fun | n => n⟩
theorem Tryz.laysSearch : Go.Proofs.Lays2.n25 Tryz.prog Tryz.laysSearch_ren := {
  mixed := by kernel_rfl
  f25 := Tryz.func92.trans (congrArg some (by kernel_rfl))
  f31 := Tryz.func109.trans (congrArg some (by kernel_rfl))
  f32 := Tryz.func110.trans (congrArg some (by kernel_rfl))
  f37 := Tryz.func74.trans (congrArg some (by kernel_rfl))
  t0 := Tryz.underlying0
  a0 := Tryz.isAgg0
  z0 := Tryz.sizeOf0
  v0 := Tryz.zeroValue0
  t3 := Tryz.underlying3
  a3 := Tryz.isAgg3
  z3 := Tryz.sizeOf3
  v3 := Tryz.zeroValue3
  t4 := Tryz.underlying4
  a4 := Tryz.isAgg4
  z4 := Tryz.sizeOf4
  v4 := Tryz.zeroValue4
  t22 := Tryz.underlying26
  a22 := Tryz.isAgg26
  z22 := Tryz.sizeOf26
  v22 := Tryz.zeroValue26
  t40 := Tryz.underlying128
  a40 := Tryz.isAgg128
  z40 := Tryz.sizeOf128
  v40 := Tryz.zeroValue128 }

end Go.Proofs

namespace Go.Proofs.YtlcfnbnpkcjjlaaGreat
open Go.RowKit Go.Sort
set_option linter.unusedVariables false
set_option linter.unusedSimpArgs false

/-! Equality. -/
def eqG {α : Type} [DecidableEq α] : List α → List α → Bool
  | x :: xs, y :: ys => decide (x = y) && eqG xs ys
  | _, _ => true
theorem eqG_iff {α : Type} [DecidableEq α] : ∀ (xs ys : List α), xs.length = ys.length → eqG xs ys = decide (xs = ys)
  | [], [], _ => by simp [eqG]
  | [], y :: ys, h => by simp at h
  | x :: xs, [], h => by simp at h
  | x :: xs, y :: ys, h => by
    rw [eqG, eqG_iff xs ys (by simpa using h)]
    by_cases h1 : x = y
    · subst h1; simp
    · simp [h1]
theorem nzs_inj {xs ys : List Nat} : nzs xs = nzs ys ↔ xs = ys := by
  constructor
  · intro h
    have := congrArg (List.map Int.toNat) h
    unfold nzs at this
    rw [List.map_map, List.map_map] at this
    have e : (Int.toNat ∘ fun x : Nat => (x : Int)) = id := by funext x; simp
    rw [e, List.map_id, List.map_id] at this
    exact this
  · rintro rfl; rfl
theorem eqNats (xs ys : List Nat) (v v2 : Value) (w : World) (hv : IsNats w v xs) (hv2 : IsNats w v2 ys) :
    Calls Tryz.prog 18 #[v, v2] w fun e w' => e = .returned (.bool (decide (xs = ys))) ∧ Below w.heap.size w w' := by
  have h := eqInts (nzs xs) (nzs ys) v v2 w (isL_ints.2 hv) (isL_ints.2 hv2)
  simpa only [nzs_inj] using h

/-! Clones. -/
theorem IsC.newsK {α : Type} {enc : α → List Value} {k : Nat} (hk : ∀ x, (enc x).length = k) {w : World} {ad : Addr} {xs : List α} (h : IsC enc k w (some ad) xs) : ∀ j u, (xs.flatMap enc)[j]? = some u → w.cell? (ad.add j) = some u := by
  intro j u hu
  have hjl : j < xs.length * k := by
    have := (List.getElem?_eq_some_iff.1 hu).1
    rwa [flat_len enc k hk] at this
  have hk0 : 0 < k := by
    rcases Nat.eq_zero_or_pos k with rfl | q
    · simp at hjl
    · exact q
  have hq : j / k < xs.length := by rw [Nat.div_lt_iff_lt_mul hk0]; exact hjl
  have hr : j % k < k := Nat.mod_lt _ hk0
  obtain ⟨b, off, e, hc⟩ := h (j / k) hq
  simp only [Option.some.injEq] at e
  subst e
  have hjk : j = j / k * k + j % k := by rw [Nat.mul_comm]; exact (Nat.div_add_mod j k).symm
  have h1 := flat_get enc k hk xs (j / k) (j % k) hq hr
  rw [← hjk, hu] at h1
  have h2 := hc (j % k) hr
  rw [Nat.add_assoc, ← hjk, ← h1] at h2
  rw [Addr.add_lit]; exact h2


theorem infcloneInt : (Tryz.prog.info? 3).map (fun i => (i.zero, i.size, i.bytes)) = some (some (.int .i64 0), 1, 8) := infInt
theorem infcloneEd : (Tryz.prog.info? 73).map (fun i => (i.zero, i.size, i.bytes)) = some (some (.agg #[.int .i64 0, .int .i64 0]), 2, 16) := infEd
set_option maxHeartbeats 1000000 in
theorem cloneInt_any (xs : List Int) (v : Value) (w : World) (hv : IsL eInt 1 w v xs) (hlen : xs.length ≤ 1000000) :
    Calls Tryz.prog 106 #[v] w fun e w' => (∃ v', e = .returned v' ∧ Own w.heap.size 3 eInt 1 w' v' xs) ∧ Below w.heap.size w w' := by
  obtain ⟨a, cap, rfl, hcap, hbig, hs⟩ := hv
  have hnil := fun (w : World) a n c => Lib.run_eql_slice_nil (P := Tryz.prog) w 26 3 a n c 0 0 undInts
  cases a with
  | none =>
    have h0 : xs = [] := by
      cases xs with
      | nil => rfl
      | cons x r => obtain ⟨b, off, e, _⟩ := hs 0 (by simp); cases e
    subst h0
    go_enter Tryz.func106, Tryz.ntmps106
    go_wp2
    go_ret
    exact ⟨⟨_, rfl, World.ownsRow_nil _ _ _ _⟩, Below.refl _ _⟩
  | some ad =>
    obtain ⟨i0, hi, hz0, hz1, hz2⟩ := info_parts infcloneInt
    have hb0 : Below w.heap.size w (w.alloc (.cells #[] 3)) := (Below.refl _ _).alloc (Nat.le_refl _) _
    have hs0 := hs.mono hb0
    have hn0 := IsC.newsK (enc := eInt) (k := 1) (fun _ => rfl) hs0
    have hl0 : (xs.flatMap eInt).length = xs.length * 1 := flat_len eInt 1 (fun _ => rfl) xs
    have hone : ∀ u ∈ xs.flatMap eInt, u.oneCell' = true := by
      intro u hu
      rw [List.mem_flatMap] at hu
      obtain ⟨x, _, hx⟩ := hu
      simp at hx
      first | (subst hx; rfl) | (rcases hx with rfl | rfl <;> rfl)
    have hm1 : 0 + xs.length ≤ maxLen := by simp only [maxLen]; omega
    have hm2 : (0 + xs.length) * 8 ≤ 140737488355328 := by omega
    have hown := World.ownsRow_made (base := w.heap.size) (e := 3) (size := 1) w #[] 0 (Nat.le_refl _) (Nat.zero_le _) rfl
    go_enter Tryz.func106, Tryz.ntmps106
    go_wp2_with (at_builtin; go_must (refine wpList_append_own _ rfl _ _ 26 rfl w.heap.size 3 i0 _ 1 8 undInts hi hz0 hz1 hz2 rfl (by decide) _ 0 [] rfl hown ad xs.length cap (xs.flatMap eInt) rfl hl0 hn0 hone hm1 hm2 hb0.size ?_); intro v' w1 hown1 hgr1 hnn)
    simp only [Nat.zero_add, List.nil_append] at hown1
    have hbl : Below w.heap.size w w1 := hb0.grown hgr1 hb0.size (fun k hk => (hown.lt k hk).1)
    go_wp2
    go_ret
    exact ⟨⟨_, rfl, hown1⟩, hbl⟩

/-! Compacting. -/
theorem take_putCellsJ (cur : Array Value) (ts : List Int) (m : Nat) (h : m ≤ cur.size) (hm : ts.length ≤ m) (zz : List Int) (hz : (ts ++ zz).length = m) : (putCells (Value.int .i64) 0 (ts ++ zz).toArray cur).toList.take ts.length = ts.map (Value.int .i64) := by
  have h1 := take_putCellsI cur (ts ++ zz) (by omega)
  have h2 := congrArg (List.take ts.length) h1
  rw [List.take_take, Nat.min_eq_left (by simp), List.map_append, List.take_append_of_le_length (by simp)] at h2
  rw [h2]
  exact List.take_of_length_le (by simp)
theorem compactN_any (ys : List Nat) (v : Value) (base : Nat) (w : World) (hown : Own base 3 eNat 1 w v ys) (hl : ys.length ≤ 1000000) :
    Calls Tryz.prog 108 #[v] w fun e w' => ∃ v' zs, e = .returned v' ∧ Lib.compact (nzs ys) = nzs zs ∧ RowStep base 3 eNat 1 w w' v v' zs := by
  by_cases h0 : ys = []
  · subst h0
    obtain ⟨a, c, rfl⟩ := hown.isSlice
    refine Calls.mono (show Calls Tryz.prog 108 _ _ _ from Any.slices_Compact_int_empty Tryz.laysCompact a c w) ?_
    rintro e w' ⟨rfl, rfl⟩
    exact ⟨_, [], rfl, rfl, hown, World.grownBy.refl _ _, fun g hg => .inl hg⟩
  · rcases hown.2 with ⟨rfl, hn⟩ | ⟨g, cap, cur, rfl, hbase, hb, h1, h2, h3, h4⟩
    · exact absurd (List.eq_nil_of_length_eq_zero hn) h0
    · rw [Nat.mul_one, flat_nat] at h4
      have hH := holds_of_blockI (ss := nzs ys) hb (by rw [ints_len]; exact h4)
      have hc := Any.slices_Compact_int Tryz.laysCompact g 0 cap (nzs ys) w hH (by rw [ints_len]; omega) (by rw [ints_len]; exact h1)
      rw [ints_len] at hc
      refine Calls.mono (show Calls Tryz.prog 108 _ _ _ from hc) ?_
      obtain ⟨zs, hz⟩ := compact_ints ys
      have hzl : zs.length ≤ ys.length := by
        have := compact_len (nzs ys)
        rw [hz, ints_len, ints_len] at this
        exact this
      rintro e w' ⟨rfl, q, rfl⟩
      rw [hz]
      simp only [ints_len]
      have hgl : g < w.heap.size := (Array.getElem?_eq_some_iff.1 hb).1
      have hheap : (putRow (Value.int .i64) (Sort.ahead w q) g 0 (nzs zs ++ List.replicate (ys.length - zs.length) 0).toArray).heap[g]? = some (.cells (putCells (Value.int .i64) 0 (nzs zs ++ List.replicate (ys.length - zs.length) 0).toArray cur) 3 (0, 0)) := by
        simp [putRow, mapBlock, Sort.ahead, Array.getElem?_modify, hb, onCells]
      refine ⟨_, zs, rfl, rfl, ?_, ⟨rfl, rfl, rfl, by simp [putRow, mapBlock, Sort.ahead], fun k hk hne => ?_⟩, fun g' hg' => .inl hg'⟩
      · refine ⟨by rw [flat_len eNat 1 (fun _ => rfl)], .inr ⟨g, cap, _, rfl, hbase, hheap, by omega, h2, by simp [putCells, h3], ?_⟩⟩
        rw [Nat.mul_one, flat_nat]
        have := take_putCellsJ cur (nzs zs) ys.length (by omega) (by rw [ints_len]; exact hzl) (List.replicate (ys.length - zs.length) 0) (by simp [ints_len]; omega)
        rw [ints_len] at this
        exact this
      · have : g ≠ k := fun e => hne (by simp [Value.ownBlock, e])
        simp [putRow, mapBlock, Sort.ahead, Array.getElem?_modify, this]

/-! Search. -/
abbrev vI (x : Int) : Value := .int .i64 x
set_option maxHeartbeats 1000000 in
theorem indexE (g : Nat) (lb : Array Value) (eg : ∀ args w, (callFunc g args).run Tryz.prog w = .ok (.enter g args) w) (p : (Int×Int) → Bool) (xs : List (Int×Int)) (v : Value) (w : World)
    (hv : IsEis w v xs) (hp : PredOn Tryz.prog g lb vEi p xs w) :
    Calls Tryz.prog 28 #[v, .func (.func g) #[] lb] w fun e w' => e = .returned (.int .i64 (idxFrom p xs 0)) ∧ Below w.heap.size w w' := by
  obtain ⟨a, cap, rfl, hcap, hbig, hs⟩ := hv
  go_enter Tryz.func28, Tryz.ntmps28
  go_wp2
  go_loopw [5, 8] (fun _ s8 wr => ∃ k : Nat, k ≤ xs.length ∧ s8 = .int .i64 k ∧ Below w.heap.size w wr ∧ Hid (idxFrom p xs 0 = idxFrom p (xs.drop k) k)) (fun _ i _ => xs.length - (intOf i).toNat)
  case atStart => exact ⟨0, Nat.zero_le _, rfl, Below.refl _ _, rfl⟩
  case round =>
    obtain ⟨k, hk, rfl, hb, hm⟩ := hrel
    by_cases hlt : k < xs.length
    · obtain ⟨b, off, rfl, c0, c1⟩ := (hs.mono hb).ei k hlt
      have hx := hp wr hb xs[k] (List.getElem_mem hlt)
      have hstep : Hid (idxFrom p (xs.drop k) k = if p xs[k] then (k : Int) else idxFrom p (xs.drop (k + 1)) (k + 1)) := by
        rw [List.drop_eq_getElem_cons hlt]; rfl
      clear hs hp
      generalize xs[k] = y at *
      cases hpy : p y
      all_goals
        rw [hpy] at hx hstep
        clear hpy
        go_wp2_with fail
        refine (Calls.to hx ?_)
        rintro e w1 rfl hb1
        have hbb := hb.trans (hb1.mono hb.size)
        go_wp2_with fail
      · go_roundw
        case rel => exact ⟨k + 1, by omega, by go_num, by repeat' (first | exact Below.refl _ _ | assumption | refine Below.more ?_ ?_ _ | refine Below.alloc ?_ ?_ _ | refine Below.drew ?_ | refine below_drewN ?_ _ | refine Below.setCell ?_ ?_ _ | exact Below.size (by assumption) | (simp [go_sem, size_more]; done) | (simp [go_sem, size_more]; omega)), hm.out.trans (hstep.out.trans (by simp))⟩
        case measure => simp [intOf]; omega
      · go_ret
        exact ⟨ret_int (hm.out.trans (hstep.out.trans (by simp))).symm, by repeat' (first | exact Below.refl _ _ | assumption | refine Below.more ?_ ?_ _ | refine Below.alloc ?_ ?_ _ | refine Below.drew ?_ | refine below_drewN ?_ _ | refine Below.setCell ?_ ?_ _ | exact Below.size (by assumption) | (simp [go_sem, size_more]; done) | (simp [go_sem, size_more]; omega))⟩
    · go_wp2
      go_ret
      refine ⟨ret_int ?_, by repeat' (first | exact Below.refl _ _ | assumption | refine Below.more ?_ ?_ _ | refine Below.alloc ?_ ?_ _ | refine Below.drew ?_ | refine below_drewN ?_ _ | refine Below.setCell ?_ ?_ _ | exact Below.size (by assumption) | (simp [go_sem, size_more]; done) | (simp [go_sem, size_more]; omega))⟩
      rw [hm.out, List.drop_eq_nil_of_le (by omega)]; rfl

set_option maxHeartbeats 400000 in
theorem containsE (g : Nat) (lb : Array Value) (eg : ∀ args w, (callFunc g args).run Tryz.prog w = .ok (.enter g args) w) (p : (Int×Int) → Bool) (xs : List (Int×Int)) (v : Value) (w : World)
    (hv : IsEis w v xs) (hp : PredOn Tryz.prog g lb vEi p xs w) :
    Calls Tryz.prog 90 #[v, .func (.func g) #[] lb] w fun e w' => e = .returned (.bool (xs.any p)) ∧ Below w.heap.size w w' := by
  go_enter Tryz.func90, Tryz.ntmps90
  go_wp2_with fail
  refine Calls.to (indexE g lb eg p xs v w hv hp) ?_
  rintro e w1 rfl hb
  go_wp2_with fail
  go_ret
  exact ⟨ret_bool (idxFrom_any p xs 0), hb⟩

set_option maxHeartbeats 1000000 in
theorem indexI (g : Nat) (lb : Array Value) (eg : ∀ args w, (callFunc g args).run Tryz.prog w = .ok (.enter g args) w) (p : Int → Bool) (xs : List Int) (v : Value) (w : World)
    (hv : IsInts w v xs) (hp : PredOn Tryz.prog g lb vI p xs w) :
    Calls Tryz.prog 97 #[v, .func (.func g) #[] lb] w fun e w' => e = .returned (.int .i64 (idxFrom p xs 0)) ∧ Below w.heap.size w w' := by
  obtain ⟨a, cap, rfl, hcap, hbig, hs⟩ := hv
  go_enter Tryz.func97, Tryz.ntmps97
  go_wp2
  go_loopw [5, 8] (fun _ s8 wr => ∃ k : Nat, k ≤ xs.length ∧ s8 = .int .i64 k ∧ Below w.heap.size w wr ∧ Hid (idxFrom p xs 0 = idxFrom p (xs.drop k) k)) (fun _ i _ => xs.length - (intOf i).toNat)
  case atStart => exact ⟨0, Nat.zero_le _, rfl, Below.refl _ _, rfl⟩
  case round =>
    obtain ⟨k, hk, rfl, hb, hm⟩ := hrel
    by_cases hlt : k < xs.length
    · obtain ⟨b, off, rfl, c0⟩ := (hs.mono hb).int k hlt
      have hx := hp wr hb xs[k] (List.getElem_mem hlt)
      have hstep : Hid (idxFrom p (xs.drop k) k = if p xs[k] then (k : Int) else idxFrom p (xs.drop (k + 1)) (k + 1)) := by
        rw [List.drop_eq_getElem_cons hlt]; rfl
      clear hs hp
      generalize xs[k] = y at *
      cases hpy : p y
      all_goals
        rw [hpy] at hx hstep
        clear hpy
        go_wp2_with fail
        refine (Calls.to hx ?_)
        rintro e w1 rfl hb1
        have hbb := hb.trans (hb1.mono hb.size)
        go_wp2_with fail
      · go_roundw
        case rel => exact ⟨k + 1, by omega, by go_num, by repeat' (first | exact Below.refl _ _ | assumption | refine Below.more ?_ ?_ _ | refine Below.alloc ?_ ?_ _ | refine Below.drew ?_ | refine below_drewN ?_ _ | refine Below.setCell ?_ ?_ _ | exact Below.size (by assumption) | (simp [go_sem, size_more]; done) | (simp [go_sem, size_more]; omega)), hm.out.trans (hstep.out.trans (by simp))⟩
        case measure => simp [intOf]; omega
      · go_ret
        exact ⟨ret_int (hm.out.trans (hstep.out.trans (by simp))).symm, by repeat' (first | exact Below.refl _ _ | assumption | refine Below.more ?_ ?_ _ | refine Below.alloc ?_ ?_ _ | refine Below.drew ?_ | refine below_drewN ?_ _ | refine Below.setCell ?_ ?_ _ | exact Below.size (by assumption) | (simp [go_sem, size_more]; done) | (simp [go_sem, size_more]; omega))⟩
    · go_wp2
      go_ret
      refine ⟨ret_int ?_, by repeat' (first | exact Below.refl _ _ | assumption | refine Below.more ?_ ?_ _ | refine Below.alloc ?_ ?_ _ | refine Below.drew ?_ | refine below_drewN ?_ _ | refine Below.setCell ?_ ?_ _ | exact Below.size (by assumption) | (simp [go_sem, size_more]; done) | (simp [go_sem, size_more]; omega))⟩
      rw [hm.out, List.drop_eq_nil_of_le (by omega)]; rfl

set_option maxHeartbeats 400000 in
theorem containsI (g : Nat) (lb : Array Value) (eg : ∀ args w, (callFunc g args).run Tryz.prog w = .ok (.enter g args) w) (p : Int → Bool) (xs : List Int) (v : Value) (w : World)
    (hv : IsInts w v xs) (hp : PredOn Tryz.prog g lb vI p xs w) :
    Calls Tryz.prog 71 #[v, .func (.func g) #[] lb] w fun e w' => e = .returned (.bool (xs.any p)) ∧ Below w.heap.size w w' := by
  go_enter Tryz.func71, Tryz.ntmps71
  go_wp2_with fail
  refine Calls.to (indexI g lb eg p xs v w hv hp) ?_
  rintro e w1 rfl hb
  go_wp2_with fail
  go_ret
  exact ⟨ret_bool (idxFrom_any p xs 0), hb⟩


end Go.Proofs.YtlcfnbnpkcjjlaaGreat
