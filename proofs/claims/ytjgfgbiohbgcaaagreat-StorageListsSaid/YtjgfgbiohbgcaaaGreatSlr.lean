/- Levels of all nodes: the reference's Levels. Conditions: the arguments read as data, the network is right, there is a right volume for each node. -/
import Derived.Test.YtjgfgbiohbgcaaaGreatSnr
import Derived.Deep.RegionHeld3
import Derived.Test.YtjgfgbiohbgcaaaGreatLst
import Derived.Test.YtjgfgbiohbgcaaaGreatNz
namespace Go.Proofs.YtjgfgbiohbgcaaaGreat
open Go.RowKit
set_option linter.unusedVariables false
set_option linter.unusedSimpArgs false

section
variable {α : Type} {P : Program} {o : Oper} {a : Act} {Q : Exit → Act → World → Prop}
/-- 'step_push' where the new element's block was made behind other steps; cells outside the row stay. -/
theorem wp_pushK {K : Act → World → Prop} (s x : Operand) (t : TypeId)
    (hop : o.op = .call { callee := .builtin .append, args := #[s, x], argTypes := #[t, t] }) (e : TypeId) (z : Value) (size bytes : Nat) (ht : P.underlying t = some (.slice e))
    (hinfo : (P.info? e).map (fun i => (i.zero, i.size, i.bytes)) = some (some z, size, bytes)) (hzs : z.cells.size = size) (hsz : 0 < size)
    {w : World} {base : Nat} {enc : α → List Value} (y : α) (hk : ∀ x, (enc x).length = size) (h1 : ∀ u ∈ enc y, u.oneCell' = true) (v : Value) (xs : List α) (hs : a.eval s = v) (hown0 : Own base e enc size w v xs)
    (hx : a.eval x = .slice (some ⟨w.heap.size, 0, none⟩) 1 1) (hlen : xs.length < 2147483648) (hby : bytes ≤ 4096) (hbase0 : base ≤ w.heap.size) (cs : Array Value) (hcs : cs = (enc y).toArray)
    (h : ∀ g cap w', Own base e enc size w' (.slice (some ⟨g, 0, none⟩) (xs.length + 1) cap) (xs ++ [y]) → base ≤ g → g < w'.heap.size → Below base w w' → xs.length + 1 ≤ cap → cap ≤ 9223372036854775807 →
      (∀ (p : Addr) (u : Value), w.cell? p = some u → some p.block ≠ v.ownBlock → w'.cell? p = some u) → K (a.put o.dst (.slice (some ⟨g, 0, none⟩) (xs.length + 1) cap)) w') :
    Oper.wp P o a (w.alloc (.cells cs e)) K Q := by
  subst hcs
  obtain ⟨i, hi, hz0, hz1, hz2⟩ := info_parts hinfo
  have hb32 : (xs.length + 1) * bytes ≤ 2147483648 * 4096 := Nat.mul_le_mul (by omega) hby
  have hown := hown0.below ((Below.refl _ _).alloc (Nat.le_refl _) (.cells (enc y).toArray e))
  have hbase : base ≤ (w.alloc (.cells (enc y).toArray e)).heap.size := by simp; omega
  refine wp_append_own _ s x t hop base e i z size bytes ht hi hz0 hz1 hz2 hzs hsz v xs.length (xs.flatMap enc) hs hown ⟨w.heap.size, 0, none⟩ 1 1 (enc y) hx (by rw [hk]; omega) ?_ h1 (by simp only [maxLen]; omega) (by omega) hbase ?_
  · intro j u hu
    have hadd : (⟨w.heap.size, 0, none⟩ : Addr).add j = ⟨w.heap.size, j, none⟩ := by unfold Addr.add; split <;> simp_all
    rw [hadd]
    have hbk : (w.alloc (.cells (enc y).toArray e)).heap[w.heap.size]? = some (.cells (enc y).toArray e (0, 0)) := heap_alloc_new w _
    simp only [World.cell?, hbk]
    simpa using hu
  · intro v' w' hown' hgr _
    have hown2 : Own base e enc size w' v' (xs ++ [y]) := by
      unfold Own
      simpa using hown'
    obtain ⟨g, cap, rfl, hbg, hlt, hc1, hc2⟩ := hown2.place (by simp)
    have hbl : Below base w w' := ((Below.refl base w).alloc hbase0 _).grown hgr hbase fun k hk' => (hown.lt k hk').1
    simp only [List.length_append, List.length_cons, List.length_nil, Nat.zero_add] at hown2 hc1 ⊢
    refine h g cap w' hown2 hbg hlt hbl hc1 hc2 fun p u hp hne => hgr.cell ?_ hne
    exact (World.cell?_alloc_lt w _ p (World.block_lt_of_cell? w p hp)).trans hp
end

set_option maxRecDepth 100000 in
set_option maxHeartbeats 4000000 in
theorem r29levs_any (n : Net) (l : Sl Int) (w : World) (hg : gNet w n) (hl : gInts w l) (hn : netB n = true) (hlen : l.xs.length = n.Ns.xs.length) (hvol : ∀ v ∈ l.xs, volB v = true) :
    Calls Tryz.prog 24 #[vNet n, vSl l] w fun e w' => (∃ v, e = .returned v ∧ IsInts w' v (List.zipWith levV n.Ns.xs l.xs)) ∧ Below w.heap.size w w' := by
  have hND : ∀ k (h : k < n.Ns.xs.length), ndB n.Ns.xs[k] = true := fun k hk => (netB_nd hn k hk).1
  have hln : n.Ns.xs.length ≤ 300 := by simp [netB] at hn; omega
  obtain ⟨⟨na, nc, nxs⟩, ⟨la, lc, lxs⟩⟩ := n
  obtain ⟨va, vc, vs⟩ := l
  have hb0 : Below w.heap.size w (w.alloc (.cells #[.slice na nxs.length nc, .slice la lxs.length lc] 42)) := (Below.refl _ _).alloc (Nat.le_refl _) _
  have hV : IsC eInt 1 w va vs := hl.2.2.1
  have hN := hg.1.2.2
  simp only at hN hlen hvol hND hln ⊢
  have HE0 := Lib.hid (boxNet w · 42 ⟨⟨na, nc, nxs⟩, ⟨la, lc, lxs⟩⟩ _ rfl _ rfl)
  have HLN := Lib.hid hlen
  have HBD := Lib.hid hln
  clear hg hl hn hlen hln
  simp only [vNet, vSl]
  go_enter Tryz.func24, Tryz.ntmps24
  go_wp2_with fail
  go_loopw [5, 6] (fun s5 s6 wr => ∃ k : Nat, k ≤ nxs.length ∧ s6 = .int .i64 k ∧ Own (w.heap.size + 1) 3 eInt 1 wr s5 ((List.zipWith levV nxs vs).take k) ∧ Below (w.heap.size + 1) (w.alloc (.cells #[.slice na nxs.length nc, .slice la lxs.length lc] 42)) wr) (fun _ i _ => nxs.length - (intOf i).toNat)
  case atStart => exact ⟨0, Nat.zero_le _, rfl, by rw [List.take_zero]; exact World.ownsRow_nil _ _ _ _, Below.refl _ _⟩
  case round =>
    as_aux_lemma =>
    obtain ⟨k, hk, rfl, hown, hb⟩ := hrel
    have hbw : Below w.heap.size w wr := hb0.trans (hb.mono (by omega))
    obtain ⟨e0, e1⟩ := HE0.out wr hb
    simp only [vSl] at e0 e1
    have hol : ((List.zipWith levV nxs vs).take k).length = k := by rw [List.length_take, List.length_zipWith]; have := HLN.out; omega
    by_cases hlt : k < nxs.length
    · have kv : k < vs.length := by have := HLN.out; omega
      obtain ⟨b, off, rfl, d0, d1, d2, d3, d4, d5, d6, d7, d8⟩ := hN.1.nd k hlt
      obtain ⟨vb, vo, rfl, dv⟩ := hV.int k kv
      have gx := rdNd.mono (hN.2 _ (List.getElem_mem hlt)) hbw
      have hnk := hND k hlt
      have hvk := hvol _ (List.getElem_mem kv)
      have HT : Hid ((List.zipWith levV nxs vs).take (k + 1) = (List.zipWith levV nxs vs).take k ++ [levV nxs[k] vs[k]]) := by
        show _ = _
        rw [List.take_succ_eq_append_getElem (by rw [List.length_zipWith]; omega)]
        simp
      have i1 : (0 : Int) ≤ k := by omega
      have i2 : (k : Int) < vs.length := by omega
      have i3 : (k : Int) < nxs.length := by omega
      have x1 : IntKind.i64.wrap ((k : Int) + 1) = k + 1 := IntWalk.i64_in _ (by have := HBD.out; omega)
      have hdd := fun W (gW : gNd W (nxs[k]'hlt)) => r29lev_any (nxs[k]'hlt) (vs[k]'kv) W gW hnk hvk
      clear hN hV hND hvol hnk hvk
      generalize nxs[k] = x at *
      generalize vs[k] = v at *
      generalize (List.zipWith levV nxs vs).take k = ys at *
      obtain ⟨R, hR⟩ : ∃ R, levV x v = R := ⟨_, rfl⟩
      simp only [hR] at HT hdd
      clear hR
      have HOL := Lib.hid hol
      have hyl : ys.length < 2147483648 := by have h1 := HBD.out; omega
      clear hol
      have hkeep : ∀ W, Below (w.heap.size + 1) (w.alloc (.cells #[.slice (some ⟨b, off, none⟩) nxs.length nc, .slice la lxs.length lc] 42)) W → (Below (w.heap.size + 1) (w.alloc (.cells #[.slice (some ⟨b, off, none⟩) nxs.length nc, .slice la lxs.length lc] 42)) W ∧ W.cell? ⟨w.heap.size, 0, none⟩ = some (.slice (some ⟨b, off, none⟩) nxs.length nc) ∧ W.cell? ⟨vb, vo + k, none⟩ = some (.int .i64 v) ∧ W.cell? ⟨b, off + k * 9, none⟩ = some (.string x.Name) ∧ W.cell? ⟨b, off + k * 9 + 1, none⟩ = some (.int .i64 x.Kind) ∧ W.cell? ⟨b, off + k * 9 + 2, none⟩ = some (.int .i64 x.AX) ∧ W.cell? ⟨b, off + k * 9 + 3, none⟩ = some (.int .i64 x.AY) ∧ W.cell? ⟨b, off + k * 9 + 4, none⟩ = some (.int .i64 x.Inv) ∧ W.cell? ⟨b, off + k * 9 + 5, none⟩ = some (.int .i64 x.Gr) ∧ W.cell? ⟨b, off + k * 9 + 6, none⟩ = some (.slice x.Sh.a x.Sh.xs.length x.Sh.cap) ∧ W.cell? ⟨b, off + k * 9 + 7, none⟩ = some (.bool x.Pro) ∧ W.cell? ⟨b, off + k * 9 + 8, none⟩ = some (.int .i64 x.Res)) := fun W hW =>
        have h1 := hb0.trans (hW.mono (Nat.le_succ _))
        ⟨hW, (HE0.out W hW).1, box_lt dv h1, box_lt d0 h1, box_lt d1 h1, box_lt d2 h1, box_lt d3 h1, box_lt d4 h1, box_lt d5 h1, box_lt d6 h1, box_lt d7 h1, box_lt d8 h1⟩
      have hszz : ∀ W, Below (w.heap.size + 1) (w.alloc (.cells #[.slice (some ⟨b, off, none⟩) nxs.length nc, .slice la lxs.length lc] 42)) W → w.heap.size + 1 ≤ W.heap.size := fun W hW => by have h := hW.size; simpa using h
      obtain ⟨_, _, cv, c0, c1, c2, c3, c4, c5, c6, c7, c8⟩ := hkeep wr hb
      clear d0 d1 d2 d3 d4 d5 d6 d7 d8 dv
      obtain ⟨aO, cO, rfl⟩ := hown.isSlice
      go_wp2_with fail
      (go_region_held3 (fun w' => Below (w.heap.size + 1) (w.alloc (.cells #[.slice (some ⟨b, off, none⟩) nxs.length nc, .slice la lxs.length lc] 42)) w' ∧ w'.cell? ⟨w.heap.size, 0, none⟩ = some (.slice (some ⟨b, off, none⟩) nxs.length nc) ∧ w'.cell? ⟨vb, vo + k, none⟩ = some (.int .i64 v) ∧ w'.cell? ⟨b, off + k * 9, none⟩ = some (.string x.Name) ∧ w'.cell? ⟨b, off + k * 9 + 1, none⟩ = some (.int .i64 x.Kind) ∧ w'.cell? ⟨b, off + k * 9 + 2, none⟩ = some (.int .i64 x.AX) ∧ w'.cell? ⟨b, off + k * 9 + 3, none⟩ = some (.int .i64 x.AY) ∧ w'.cell? ⟨b, off + k * 9 + 4, none⟩ = some (.int .i64 x.Inv) ∧ w'.cell? ⟨b, off + k * 9 + 5, none⟩ = some (.int .i64 x.Gr) ∧ w'.cell? ⟨b, off + k * 9 + 6, none⟩ = some (.slice x.Sh.a x.Sh.xs.length x.Sh.cap) ∧ w'.cell? ⟨b, off + k * 9 + 7, none⟩ = some (.bool x.Pro) ∧ w'.cell? ⟨b, off + k * 9 + 8, none⟩ = some (.int .i64 x.Res))
        (first | ((try dsimp only at *); (try go_split_ands); refine hkeep _ ?_; repeat' (first | assumption | (refine Below.drew ?_) | (refine Below.alloc ?_ ?_ _) | (exact hszz _ (by assumption)) | (exact hbC.trans hb5) | (exact Below.trans (by assumption) hb5))) | fail "keep")
        ((first
          | (go_at_call 13; (try dsimp only at *); (try go_split_ands); refine (hdd _ (rdNd.mono gx (by first | exact Below.refl _ _ | exact Below.drew (Below.refl _ _)))).mono ?_; rintro e w1 ⟨rfl, hb1⟩; have hbr : Below wr.heap.size wr w1 := (by first | exact hb1 | exact Below.trans (Below.drew (Below.refl _ _)) hb1); have hbC := hb.trans (Below.mono hbr (hszz _ hb)))
          | ((try dsimp only at *); (try go_split_ands); rw [if_pos (by rfl)]; (refine wp_pushK _ _ 43 rfl 3 _ 1 8 undInts infInt rfl (by decide) R (fun _ => rfl) (by simp [Value.oneCell']) _ ys rfl (hown.below hbr) rfl hyl (by decide) (hszz _ hbC) _ rfl ?_); intro g3 cap3 w5 hown1 hbg1 hgl1 hb5 hc11 hc21 hk5))))
      all_goals
        have hbD := hbC.trans hb5
        go_wp2_with fail
        go_roundw
        case measure => simp [intOf]; omega
        case rel => exact ⟨k + 1, by omega, by go_num, by rw [HT.out]; exact hown1, hbD⟩
    · obtain rfl : k = nxs.length := by omega
      rw [List.take_of_length_le (by rw [List.length_zipWith]; omega)] at hown
      have is := hown.isL (fun _ => rfl)
      obtain ⟨aO, cO, rfl⟩ := hown.isSlice
      clear hol hown
      go_wp2_with fail
      go_ret
      exact ⟨⟨_, rfl, is⟩, hbw⟩

end Go.Proofs.YtjgfgbiohbgcaaaGreat
