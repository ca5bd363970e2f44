/- What is reached: digraph.reach, Reach, Closure. Conditions: the edges read as data. -/
import Derived.Test.YtlcfnbnpkcjjlaaGreatMDw
import Derived.Deep.LoopGhost
namespace Go.Proofs.YtlcfnbnpkcjjlaaGreat
open Go.RowKit
set_option linter.unusedVariables false
set_option linter.unusedSimpArgs false

theorem Own.shrink {α : Type} {base : Nat} {e : TypeId} {enc : α → List Value} {k : Nat} (hk : ∀ x, (enc x).length = k) {w : World} {a : Option Addr} {n c : Nat} {xs : List α} {x : α} (h : Own base e enc k w (.slice a n c) (xs ++ [x])) : Own base e enc k w (.slice a xs.length c) xs := by
  rcases h.2 with ⟨_, h0⟩ | ⟨g, cap, cur, hv, hb, hg, hnc, hcm, hcs, htake⟩
  · simp at h0
  · simp only [Value.slice.injEq] at hv
    obtain ⟨rfl, _, rfl⟩ := hv
    rw [List.length_append, List.length_cons, List.length_nil] at hnc
    refine ⟨flat_len enc k hk xs, .inr ⟨g, c, cur, rfl, hb, hg, by omega, hcm, hcs, ?_⟩⟩
    have h2 := congrArg (List.take (xs.length * k)) htake
    rw [List.take_take, Nat.min_eq_left (by rw [List.length_append]; exact Nat.mul_le_mul_right _ (by omega)), List.flatMap_append] at h2
    rw [h2, List.take_append_of_le_length (by rw [flat_len enc k hk]; exact Nat.le_refl _), List.take_of_length_le (by rw [flat_len enc k hk]; exact Nat.le_refl _)]
theorem shrink_run (g n m c : Nat) (hm : m ≤ c) (W : World) : (Instr.sliceAt 26 (.slice (some ⟨g, 0, none⟩) n c) none (some (.int .i64 (m : Int))) none).run Tryz.prog W = .ok (.slice (some ⟨g, 0, none⟩) m c) W := by
  have hel : Tryz.prog.elem 26 = 3 := by kernel_rfl
  have ht : Tryz.prog.underlying 26 = some (.slice (Tryz.prog.elem 26)) := by rw [hel]; exact undInts
  have hsz : ∀ W, (sizeOf (Tryz.prog.elem 26)).run Tryz.prog W = .ok 1 W := by rw [hel]; exact Tryz.sizeOf3
  have e1 : (⟨g, 0, none⟩ : Addr).add 0 = ⟨g, 0, none⟩ := Addr.add_lit ..
  rw [run_sliceAt_slice _ _ _ _ _ _ ht, run_slice_h W 26 _ _ _ ht .i64 m (by omega) (by omega), hsz]
  simp [sliced, Result.andThen, e1]
theorem OwnR.rowAt {α : Type} {base : Nat} {et e : TypeId} {enc : α → List Value} {k : Nat} {w : World} {a : Option Addr} {n c : Nat} {vs : List Value} {xss : List (List α)} (h : OwnR base et e enc k w (.slice a n c) vs xss) (i : Nat) (hi : i < vs.length) :
    ∃ rg, a = some ⟨rg, 0, none⟩ ∧ w.cell? ⟨rg, i, none⟩ = some vs[i] := by
  obtain ⟨rg, rc, hv, _⟩ := h.out.place (by omega)
  simp only [Value.slice.injEq] at hv
  obtain ⟨rfl, _, _⟩ := hv
  exact ⟨rg, rfl, h.cellv i hi⟩
theorem unm_le (out : List Bool) : Gp.unm out ≤ out.length := List.countP_le_length

set_option maxRecDepth 100000 in
set_option maxHeartbeats 8000000 in
theorem reach0_any (n : Nat) (E : List (Nat × Nat)) (f : List Nat) (B0 : Nat) (u fv : Value) (vs : List Value) (w : World) (hR : OwnR B0 26 3 eNat 1 w u vs ((List.range n).map (Gp.nxt n E))) (hF : IsNats w fv f) (hv : Gp.vtx n E) (hn : n ≤ 300) (hf : ∀ s ∈ f, s < n) (hfl : f.length ≤ 1000000) :
    Calls Tryz.prog 88 #[u, fv] w fun e w' => (∃ v, e = .returned v ∧ Own w.heap.size 4 eBool 1 w' v (Gp.reachL n E f)) ∧ Below w.heap.size w w' := by
  have hvl : vs.length = n := by have := hR.len; simpa using this
  obtain ⟨ua, uc, hre⟩ := hR.out.isSlice
  have HVL := Lib.hid hvl
  rw [hvl] at hre
  subst hre
  have HR := Lib.hid hR
  have hll : n < 2147483648 := by omega
  clear hR hvl
  go_enter Tryz.func88, Tryz.ntmps88
  go_wp2_with (refine wpList_mk _ rfl _ _ 27 rfl w.heap.size 4 _ 1 undBools infBool eBool false rfl rfl _ _ n rfl rfl rfl rfl hll (by omega) (Nat.le_refl _) ?_; intro w1 hown1 hb1 hlt1)
  refine Calls.to (cloneInt_any (nzs f) fv w1 (isL_ints.2 (hF.mono hb1)) (by rw [ints_len]; exact hfl)) ?_
  rintro e w2 ⟨sv, rfl, hS⟩ hb2
  have hS2 := (own_ints.1 hS).base (base' := w.heap.size + 1) (by omega)
  have hO2 := hown1.below hb2
  have hbw2 := hb1.trans (hb2.mono hb1.size)
  have hlt2 : w.heap.size < w2.heap.size := by have := hb2.size; omega
  have hI0 := Lib.hid (Gp.DInv.start (E := E) hf)
  have hG0 : Hid (Gp.unm (List.replicate n false) * (n + 1) + f.length ≤ n * (n + 1) + f.length ∧ n * (n + 1) + f.length ≤ 1100000) := Lib.hid (by
    have h1 := unm_le (List.replicate n false)
    rw [List.length_replicate] at h1
    have h2 := Nat.mul_le_mul_right (n + 1) h1
    have h3 : n * (n + 1) ≤ 300 * 301 := Nat.mul_le_mul hn (by omega)
    omega)
  clear hown1 hb1 hlt1 hb2 hS
  go_wp2_with fail
  go_loopg [6] (n * (n + 1) + f.length) (fun gk s6 wr => ∃ (st : List Nat) (out : List Bool), Own (w.heap.size + 1) 3 eNat 1 wr s6 st ∧ Own w.heap.size 4 eBool 1 wr (.slice (some ⟨w.heap.size, 0, none⟩) n n) out ∧ Below w.heap.size w wr ∧ w.heap.size < wr.heap.size ∧ Hid (Gp.DInv n E f out st) ∧ Hid (Gp.unm out * (n + 1) + st.length ≤ gk ∧ gk ≤ 1100000))
  case atStart => exact ⟨f, List.replicate n false, hS2, hO2, hbw2, hlt2, hI0, hG0⟩
  clear hS2 hO2 hbw2 hlt2 hI0 hG0
  case round =>
    obtain ⟨st, out, HS, HO, hb, hlt, HI, HG⟩ := hrel
    by_cases hst : 0 < st.length
    · obtain ⟨sg, sc, rfl, hsb, hsl, hslc, _⟩ := HS.place hst
      obtain ⟨st', i, hsti⟩ : ∃ st' i, st = st' ++ [i] := by
        rcases List.eq_nil_or_concat st with h | ⟨a, b, h⟩
        · subst h; simp at hst
        · exact ⟨a, b, by rw [h, List.concat_eq_append]⟩
      have hN : st.length = st'.length + 1 := by rw [hsti]; simp
      have hsi : st'.length < st.length := by omega
      have e0 : st[st'.length] = i := by subst hsti; simp
      have c1 := Own.cellAt' (enc := eNat) (k := 1) (fun _ => rfl) HS st'.length 0 hsi Nat.zero_lt_one
      rw [e0, Nat.mul_one, Nat.add_zero] at c1
      have c1 : wr.cell? ⟨sg, st'.length, none⟩ = some (.int .i64 (i : Int)) := c1
      have HS1 : Own (w.heap.size + 1) 3 eNat 1 wr (.slice (some ⟨sg, 0, none⟩) st'.length sc) st' := Own.shrink (enc := eNat) (k := 1) (fun _ => rfl) (n := st.length) (x := i) (by rw [← hsti]; exact HS)
      have hrun := shrink_run sg st.length st'.length sc (by omega)
      have x1 : IntKind.i64.wrap ((st.length : Int) - 1) = st'.length := by rw [IntWalk.i64_in _ (by have := HG.out; omega)]; omega
      have i1 : (0 : Int) ≤ st'.length := by omega
      have i2 : (st'.length : Int) < st.length := by omega
      have i3 : decide (0 < st.length) = true := decide_eq_true hst
      have HIi : Gp.DInv n E f out (st' ++ [i]) := hsti ▸ HI.out
      have hin : i < n := (HIi.stk i (by simp)).1
      have hio : i < out.length := by rw [HIi.len]; exact hin
      have c2 := HO.boolAt i hio
      have f2 : wr.frozen? ⟨w.heap.size, i, none⟩ = false := Own.free HO _
      have hgd := getD_at hio false
      have HNN := Lib.hid hN
      clear e0 HS hsti hN
      cases hd : out[i]
      · rw [hd] at c2 hgd
        have hI2 := Lib.hid (HIi.take hv hgd)
        have hun := Lib.hid (Gp.unm_set hio hgd)
        have HO2 := HO.setb i hio true
        have HS2 := HS1.set' ⟨w.heap.size, i, none⟩ (.bool true) (fun e => by have := (HS1.lt _ e).1; simp only at this; omega)
        have hb2 := hb.setCell (p := ⟨w.heap.size, i, none⟩) (Nat.le_refl w.heap.size) (.bool true)
        have hs2 : w.heap.size + 1 ≤ (wr.setCell ⟨w.heap.size, i, none⟩ (.bool true)).heap.size := by simp [World.setCell]; omega
        have hiv : i < vs.length := by have := HVL.out; omega
        obtain ⟨rg, rfl, q3⟩ := (HR.out.below hb2).rowAt i hiv
        have hrow := (HR.out.below hb2).row i hiv (by simpa using hin)
        rw [List.getElem_map, List.getElem_range] at hrow
        obtain ⟨ka, kc, hke⟩ := hrow.isSlice
        rw [hke] at q3 hrow
        have hkC := hrow.isC
        have hkl : (Gp.nxt n E i).length ≤ n := Gp.nxt_len n E i
        have hkl2 : (Gp.nxt n E i).length < 1073741824 := by omega
        have hsl2 : st'.length < 1073741824 := by have := HG.out; have := HNN.out; omega
        have hout := Lib.hid (show (out.set i true).length = n by rw [List.length_set]; exact HIi.len)
        clear hrow hke HIi HI HO HS1 hb hgd
        generalize Gp.nxt n E i = ks at *
        go_wp2_with (at_builtin; go_must (refine wpList_appR rfl _ _ 26 rfl 3 _ 1 8 undInts infInt rfl (by decide) (fun _ => rfl) (by intro y u hu; simp at hu; subst hu; rfl) _ st' ks rfl HS2 ka kc rfl hkC hsl2 hkl2 (by decide) hs2 ?_); intro v5 w5 hR5)
        have HS5 := hR5.own
        have HO5 := hR5.other HO2 (fun g hg e => by simp only [Value.ownBlock, Option.some.injEq] at hg; have h2 := (HS2.lt g e).1; omega)
        have hb5 := hb2.trans ((hR5.below HS2 hs2).mono (by omega))
        have hl5 : w.heap.size < w5.heap.size := by have := hR5.grown.size; omega
        have hG5 : Hid (Gp.unm (out.set i true) * (n + 1) + (st' ++ ks).length ≤ gk - 1 ∧ gk - 1 ≤ 1100000 ∧ gk - 1 < gk) := Lib.hid (by
          have h1 := HG.out
          have h2 := hun.out
          have h3 := HNN.out
          rw [← h2, Nat.add_mul] at h1
          rw [List.length_append]
          generalize Gp.unm (out.set i true) * (n + 1) = X at *
          omega)
        clear hR5 HS2 HO2 hb2 hs2 q3 hkC c1 c2 f2
        go_wp2_with fail
        go_roundg (gk - 1)
        case measure => exact hG5.out.2.2
        case rel => exact ⟨st' ++ ks, out.set i true, HS5, HO5, hb5, hl5, hI2, Lib.hid ⟨hG5.out.1, hG5.out.2.1⟩⟩
      · rw [hd] at c2 hgd
        have hI2 := Lib.hid (HIi.skip hgd)
        have hG5 : Hid (Gp.unm out * (n + 1) + st'.length ≤ gk - 1 ∧ gk - 1 ≤ 1100000 ∧ gk - 1 < gk) := Lib.hid (by
          have h1 := HG.out
          have h3 := HNN.out
          generalize Gp.unm out * (n + 1) = X at *
          omega)
        clear HIi HI hgd
        go_wp2_with fail
        go_roundg (gk - 1)
        case measure => exact hG5.out.2.2
        case rel => exact ⟨st', out, HS1, HO, hb, hlt, hI2, Lib.hid ⟨hG5.out.1, hG5.out.2.1⟩⟩
    · obtain rfl : st = [] := List.eq_nil_of_length_eq_zero (by omega)
      have hfin := Lib.hid (HI.out.done hv hf)
      obtain ⟨sa, sc, rfl⟩ := HS.isSlice
      go_wp2_with fail
      go_ret
      exact ⟨⟨_, rfl, by rw [← hfin.out]; exact HO⟩, hb⟩

end Go.Proofs.YtlcfnbnpkcjjlaaGreat
