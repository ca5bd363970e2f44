/- copy of elements of several cells, as a law for the walk. No function is named. Conditions: the row that is written is known whole. | slices.Clone at knots, numbers and truth values. Conditions: the slice has at most a million elements. -/
import Derived.Test.YtjgfgbiohbgcaaaGreatMBase
import Derived.Laws.CopyOwn
import Derived.Deep.RegionLaw
import Derived.Test.YtjgfgbiohbgcaaaGreatMrd
import Derived.Test.YtjgfgbiohbgcaaaGreatMls
import Derived.OwnWalk
import Derived.WalkLawsBesides
import Derived.Deep.DeepMust
import Derived.Lib.LazyBuf
namespace Go.Proofs.YtjgfgbiohbgcaaaGreat
open Go.RowKit
set_option linter.unusedVariables false
set_option linter.unusedSimpArgs false

section
variable {P : Program} {w : World} {o : Oper} {a : Act} {Q : Exit → Act → World → Prop}
theorem run_copy_k (w : World) (dT sT ty elem : TypeId) (g off dLen dCap : Nat) (ad : Addr) (sLen sCap k : Nat) (cur : List Value) (t : TypeId) (cs : List Value)
    (hu : P.underlying dT = some (.slice elem)) (hs : (P.info? elem).map (·.size) = some k)
    (hg : w.heap[g]? = some (.cells cur.toArray t (0, 0))) (hn : cs.length = Nat.min sLen dLen * k)
    (hsrc : ∀ j v, cs[j]? = some v → w.cell? (ad.add j) = some v) (hfit : off + cs.length ≤ cur.length) (h1 : ∀ v ∈ cs, v.oneCell' = true) :
    (Builtin.copy_ #[dT, sT] ty #[.slice (some ⟨g, off, none⟩) dLen dCap, .slice (some ad) sLen sCap]).run P w =
      .ok (goInt (Nat.min sLen dLen)) (w.setRow g (splice cur off cs).toArray) := by
  have hl := run_loadCells_list (P := P) w ad cs hsrc
  have hst := run_storeCells_at P g off t cs 0 cur.toArray w hg (by simpa using hfit) h1
  cases hq : P.info? elem with
  | none => simp [hq] at hs
  | some i =>
    have hi : i.size = k := by simpa [hq] using hs
    simp [Builtin.copy_, run_underlying hu, Builtin.lenOf, Builtin.firstCells, sizeOf, typeInfo, hq, hi, ← hn, hl, hst, splice]

theorem wpList_copy_k {ops : Array Oper} {rest : List Oper} (hgd : o.guard = none) (d s : Operand) (dT sT : TypeId)
    (ho : o.op = .call { callee := .builtin .copy, args := #[d, s], argTypes := #[dT, sT] }) (elem : TypeId) (hu : P.underlying dT = some (.slice elem)) (k : Nat) (hsz : (P.info? elem).map (·.size) = some k)
    (g off dLen dCap : Nat) (ad : Addr) (sLen sCap : Nat) (hd : a.eval d = .slice (some ⟨g, off, none⟩) dLen dCap) (hs : a.eval s = .slice (some ad) sLen sCap)
    (cur : List Value) (t : TypeId) (hg : w.heap[g]? = some (.cells cur.toArray t (0, 0))) (cs : List Value) (n : Nat) (hm : Nat.min sLen dLen = n) (hn : cs.length = n * k)
    (hsrc : ∀ j v, cs[j]? = some v → w.cell? (ad.add j) = some v) (hfit : off + cs.length ≤ cur.length) (h1 : ∀ v ∈ cs, v.oneCell' = true) (B : Nat) (w0 : World) (hb : Below B w0 w) (hBg : B ≤ g)
    (h : ∀ w', Hid (w'.heap[g]? = some (.cells (splice cur off cs).toArray t (0, 0))) → (∀ j, j ≠ g → w'.heap[j]? = w.heap[j]?) → Below B w0 w' → wpList P ops Q rest (a.put o.dst (goInt n)) w') :
    wpList P ops Q (o :: rest) a w := by
  refine wpList_plain hgd fun K hK => ?_
  subst hm
  have hrun := run_copy_k (P := P) w dT sT o.type elem g off dLen dCap ad sLen sCap k cur t cs hu hsz hg hn hsrc hfit h1
  unfold Oper.wp
  simp [execOp, ho, resolve, invoke, builtin, hd, hs, hrun, Result.andThen]
  exact hK _ _ (h _ (setRow_heap w g _ _ t _ hg) (fun j hj => setRow_other w g j _ hj) (below_setRow hb hBg _))

theorem step_copy_k {ops : Array Oper} {K : Act → World → Prop} {E : Prop} (hgd : o.guard = none) (d s : Operand) (dT sT : TypeId)
    (ho : o.op = .call { callee := .builtin .copy, args := #[d, s], argTypes := #[dT, sT] }) (elem : TypeId) (hu : P.underlying dT = some (.slice elem)) (k : Nat) (hsz : (P.info? elem).map (·.size) = some k)
    (g off dLen dCap : Nat) (ad : Addr) (sLen sCap : Nat) (hd : a.eval d = .slice (some ⟨g, off, none⟩) dLen dCap) (hs : a.eval s = .slice (some ad) sLen sCap)
    (cur : List Value) (t : TypeId) (hg : w.heap[g]? = some (.cells cur.toArray t (0, 0))) (cs : List Value) (n : Nat) (hm : Nat.min sLen dLen = n) (hn : cs.length = n * k)
    (hsrc : ∀ j v, cs[j]? = some v → w.cell? (ad.add j) = some v) (hfit : off + cs.length ≤ cur.length) (h1 : ∀ v ∈ cs, v.oneCell' = true) (B : Nat) (w0 : World) (hb : Below B w0 w) (hBg : B ≤ g)
    (h : ∀ w', Hid (w'.heap[g]? = some (.cells (splice cur off cs).toArray t (0, 0))) → (∀ j, j ≠ g → w'.heap[j]? = w.heap[j]?) → Below B w0 w' → K (a.put o.dst (goInt n)) w') :
    if Region.wanted o (yielded ops a.tmps) = true then Oper.wp P o a w K Q else E := by
  have hw : Region.wanted o (yielded ops a.tmps) = true := by simp [Region.wanted, hgd]
  rw [if_pos hw]
  subst hm
  have hrun := run_copy_k (P := P) w dT sT o.type elem g off dLen dCap ad sLen sCap k cur t cs hu hsz hg hn hsrc hfit h1
  unfold Oper.wp
  simp [execOp, ho, resolve, invoke, builtin, hd, hs, hrun, Result.andThen]
  exact h _ (setRow_heap w g _ _ t _ hg) (fun j hj => setRow_other w g j _ hj) (below_setRow hb hBg _)
end

end Go.Proofs.YtjgfgbiohbgcaaaGreat

namespace Go.Proofs.YtjgfgbiohbgcaaaGreat
open Go.RowKit
set_option linter.unusedVariables false
set_option linter.unusedSimpArgs false

theorem undKns : Tryz.prog.underlying 25 = some (.slice 71) := by kernel_rfl
theorem infKn : (Tryz.prog.info? 71).map (fun i => (i.zero, i.size, i.bytes)) = some (some (.agg #[.int .i64 0, .int .i64 0]), 2, 16) := by kernel_rfl
theorem undBools : Tryz.prog.underlying 52 = some (.slice 4) := by kernel_rfl
theorem infBool : (Tryz.prog.info? 4).map (fun i => (i.zero, i.size, i.bytes)) = some (some (.bool false), 1, 1) := by kernel_rfl

theorem IsC.newsK {α : Type} {enc : α → List Value} {k : Nat} (hk : ∀ x, (enc x).length = k) {w : World} {ad : Addr} {xs : List α} (h : IsC enc k w (some ad) xs) : ∀ j u, (xs.flatMap enc)[j]? = some u → w.cell? (ad.add j) = some u := by
  intro j u hu
  have hjl : j < xs.length * k := by
    have := (List.getElem?_eq_some_iff.1 hu).1
    rwa [flat_len enc k hk] at this
  have hk0 : 0 < k := by
    rcases Nat.eq_zero_or_pos k with rfl | q
    · simp at hjl
    · exact q
  have hq : j / k < xs.length := by rw [Nat.div_lt_iff_lt_mul hk0]; exact hjl
  have hr : j % k < k := Nat.mod_lt _ hk0
  obtain ⟨b, off, e, hc⟩ := h (j / k) hq
  simp only [Option.some.injEq] at e
  subst e
  have hjk : j = j / k * k + j % k := by rw [Nat.mul_comm]; exact (Nat.div_add_mod j k).symm
  have h1 := flat_get enc k hk xs (j / k) (j % k) hq hr
  rw [← hjk, hu] at h1
  have h2 := hc (j % k) hr
  rw [Nat.add_assoc, ← hjk, ← h1] at h2
  rw [Addr.add_lit]; exact h2

theorem infcloneKn : (Tryz.prog.info? 71).map (fun i => (i.zero, i.size, i.bytes)) = some (some (.agg #[.int .i64 0, .int .i64 0]), 2, 16) := infKn
theorem infcloneInt : (Tryz.prog.info? 3).map (fun i => (i.zero, i.size, i.bytes)) = some (some (.int .i64 0), 1, 8) := infInt
theorem infcloneBool : (Tryz.prog.info? 4).map (fun i => (i.zero, i.size, i.bytes)) = some (some (.bool false), 1, 1) := infBool
set_option maxHeartbeats 1000000 in
theorem cloneKn_any (xs : List Kn) (v : Value) (w : World) (hv : IsL eKn 2 w v xs) (hlen : xs.length ≤ 1000000) :
    Calls Tryz.prog 67 #[v] w fun e w' => (∃ v', e = .returned v' ∧ Own w.heap.size 71 eKn 2 w' v' xs) ∧ Below w.heap.size w w' := by
  obtain ⟨a, cap, rfl, hcap, hbig, hs⟩ := hv
  have hnil := fun (w : World) a n c => Lib.run_eql_slice_nil (P := Tryz.prog) w 25 71 a n c 0 0 undKns
  cases a with
  | none =>
    have h0 : xs = [] := by
      cases xs with
      | nil => rfl
      | cons x r => obtain ⟨b, off, e, _⟩ := hs 0 (by simp); cases e
    subst h0
    go_enter Tryz.func67, Tryz.ntmps67
    go_wp2
    go_ret
    exact ⟨⟨_, rfl, World.ownsRow_nil _ _ _ _⟩, Below.refl _ _⟩
  | some ad =>
    obtain ⟨i0, hi, hz0, hz1, hz2⟩ := info_parts infcloneKn
    have hb0 : Below w.heap.size w (w.alloc (.cells #[] 71)) := (Below.refl _ _).alloc (Nat.le_refl _) _
    have hs0 := hs.mono hb0
    have hn0 := IsC.newsK (enc := eKn) (k := 2) (fun _ => rfl) hs0
    have hl0 : (xs.flatMap eKn).length = xs.length * 2 := flat_len eKn 2 (fun _ => rfl) xs
    have hone : ∀ u ∈ xs.flatMap eKn, u.oneCell' = true := by
      intro u hu
      rw [List.mem_flatMap] at hu
      obtain ⟨x, _, hx⟩ := hu
      simp at hx
      first | (subst hx; rfl) | (rcases hx with rfl | rfl <;> rfl)
    have hm1 : 0 + xs.length ≤ maxLen := by simp only [maxLen]; omega
    have hm2 : (0 + xs.length) * 16 ≤ 140737488355328 := by omega
    have hown := World.ownsRow_made (base := w.heap.size) (e := 71) (size := 2) w #[] 0 (Nat.le_refl _) (Nat.zero_le _) rfl
    go_enter Tryz.func67, Tryz.ntmps67
    go_wp2_with (at_builtin; go_must (refine wpList_append_own _ rfl _ _ 25 rfl w.heap.size 71 i0 _ 2 16 undKns hi hz0 hz1 hz2 rfl (by decide) _ 0 [] rfl hown ad xs.length cap (xs.flatMap eKn) rfl hl0 hn0 hone hm1 hm2 hb0.size ?_); intro v' w1 hown1 hgr1 hnn)
    simp only [Nat.zero_add, List.nil_append] at hown1
    have hbl : Below w.heap.size w w1 := hb0.grown hgr1 hb0.size (fun k hk => (hown.lt k hk).1)
    go_wp2
    go_ret
    exact ⟨⟨_, rfl, hown1⟩, hbl⟩
set_option maxHeartbeats 1000000 in
theorem cloneInt_any (xs : List Int) (v : Value) (w : World) (hv : IsL eInt 1 w v xs) (hlen : xs.length ≤ 1000000) :
    Calls Tryz.prog 59 #[v] w fun e w' => (∃ v', e = .returned v' ∧ Own w.heap.size 3 eInt 1 w' v' xs) ∧ Below w.heap.size w w' := by
  obtain ⟨a, cap, rfl, hcap, hbig, hs⟩ := hv
  have hnil := fun (w : World) a n c => Lib.run_eql_slice_nil (P := Tryz.prog) w 43 3 a n c 0 0 undInts
  cases a with
  | none =>
    have h0 : xs = [] := by
      cases xs with
      | nil => rfl
      | cons x r => obtain ⟨b, off, e, _⟩ := hs 0 (by simp); cases e
    subst h0
    go_enter Tryz.func59, Tryz.ntmps59
    go_wp2
    go_ret
    exact ⟨⟨_, rfl, World.ownsRow_nil _ _ _ _⟩, Below.refl _ _⟩
  | some ad =>
    obtain ⟨i0, hi, hz0, hz1, hz2⟩ := info_parts infcloneInt
    have hb0 : Below w.heap.size w (w.alloc (.cells #[] 3)) := (Below.refl _ _).alloc (Nat.le_refl _) _
    have hs0 := hs.mono hb0
    have hn0 := IsC.newsK (enc := eInt) (k := 1) (fun _ => rfl) hs0
    have hl0 : (xs.flatMap eInt).length = xs.length * 1 := flat_len eInt 1 (fun _ => rfl) xs
    have hone : ∀ u ∈ xs.flatMap eInt, u.oneCell' = true := by
      intro u hu
      rw [List.mem_flatMap] at hu
      obtain ⟨x, _, hx⟩ := hu
      simp at hx
      first | (subst hx; rfl) | (rcases hx with rfl | rfl <;> rfl)
    have hm1 : 0 + xs.length ≤ maxLen := by simp only [maxLen]; omega
    have hm2 : (0 + xs.length) * 8 ≤ 140737488355328 := by omega
    have hown := World.ownsRow_made (base := w.heap.size) (e := 3) (size := 1) w #[] 0 (Nat.le_refl _) (Nat.zero_le _) rfl
    go_enter Tryz.func59, Tryz.ntmps59
    go_wp2_with (at_builtin; go_must (refine wpList_append_own _ rfl _ _ 43 rfl w.heap.size 3 i0 _ 1 8 undInts hi hz0 hz1 hz2 rfl (by decide) _ 0 [] rfl hown ad xs.length cap (xs.flatMap eInt) rfl hl0 hn0 hone hm1 hm2 hb0.size ?_); intro v' w1 hown1 hgr1 hnn)
    simp only [Nat.zero_add, List.nil_append] at hown1
    have hbl : Below w.heap.size w w1 := hb0.grown hgr1 hb0.size (fun k hk => (hown.lt k hk).1)
    go_wp2
    go_ret
    exact ⟨⟨_, rfl, hown1⟩, hbl⟩
set_option maxHeartbeats 1000000 in
theorem cloneBool_any (xs : List Bool) (v : Value) (w : World) (hv : IsL eBool 1 w v xs) (hlen : xs.length ≤ 1000000) :
    Calls Tryz.prog 60 #[v] w fun e w' => (∃ v', e = .returned v' ∧ Own w.heap.size 4 eBool 1 w' v' xs) ∧ Below w.heap.size w w' := by
  obtain ⟨a, cap, rfl, hcap, hbig, hs⟩ := hv
  have hnil := fun (w : World) a n c => Lib.run_eql_slice_nil (P := Tryz.prog) w 52 4 a n c 0 0 undBools
  cases a with
  | none =>
    have h0 : xs = [] := by
      cases xs with
      | nil => rfl
      | cons x r => obtain ⟨b, off, e, _⟩ := hs 0 (by simp); cases e
    subst h0
    go_enter Tryz.func60, Tryz.ntmps60
    go_wp2
    go_ret
    exact ⟨⟨_, rfl, World.ownsRow_nil _ _ _ _⟩, Below.refl _ _⟩
  | some ad =>
    obtain ⟨i0, hi, hz0, hz1, hz2⟩ := info_parts infcloneBool
    have hb0 : Below w.heap.size w (w.alloc (.cells #[] 4)) := (Below.refl _ _).alloc (Nat.le_refl _) _
    have hs0 := hs.mono hb0
    have hn0 := IsC.newsK (enc := eBool) (k := 1) (fun _ => rfl) hs0
    have hl0 : (xs.flatMap eBool).length = xs.length * 1 := flat_len eBool 1 (fun _ => rfl) xs
    have hone : ∀ u ∈ xs.flatMap eBool, u.oneCell' = true := by
      intro u hu
      rw [List.mem_flatMap] at hu
      obtain ⟨x, _, hx⟩ := hu
      simp at hx
      first | (subst hx; rfl) | (rcases hx with rfl | rfl <;> rfl)
    have hm1 : 0 + xs.length ≤ maxLen := by simp only [maxLen]; omega
    have hm2 : (0 + xs.length) * 1 ≤ 140737488355328 := by omega
    have hown := World.ownsRow_made (base := w.heap.size) (e := 4) (size := 1) w #[] 0 (Nat.le_refl _) (Nat.zero_le _) rfl
    go_enter Tryz.func60, Tryz.ntmps60
    go_wp2_with (at_builtin; go_must (refine wpList_append_own _ rfl _ _ 52 rfl w.heap.size 4 i0 _ 1 1 undBools hi hz0 hz1 hz2 rfl (by decide) _ 0 [] rfl hown ad xs.length cap (xs.flatMap eBool) rfl hl0 hn0 hone hm1 hm2 hb0.size ?_); intro v' w1 hown1 hgr1 hnn)
    simp only [Nat.zero_add, List.nil_append] at hown1
    have hbl : Below w.heap.size w w1 := hb0.grown hgr1 hb0.size (fun k hk => (hown.lt k hk).1)
    go_wp2
    go_ret
    exact ⟨⟨_, rfl, hown1⟩, hbl⟩

end Go.Proofs.YtjgfgbiohbgcaaaGreat
