/- edges and Edges of a network: the pairs of indices of all links. Conditions: the network reads as data. -/
import Derived.Test.YtlcfnbnpkcjjlaaGreatMCau
namespace Go.Proofs.YtlcfnbnpkcjjlaaGreat
open Go.RowKit
set_option linter.unusedVariables false
set_option linter.unusedSimpArgs false

section
variable {α : Type} {P : Program} {o : Oper} {a : Act} {Q : Exit → Act → World → Prop}
/-- 'step_push' where the new element's block was made behind other steps; cells outside the row stay. -/
theorem wp_pushK {K : Act → World → Prop} (s x : Operand) (t : TypeId)
    (hop : o.op = .call { callee := .builtin .append, args := #[s, x], argTypes := #[t, t] }) (e : TypeId) (z : Value) (size bytes : Nat) (ht : P.underlying t = some (.slice e))
    (hinfo : (P.info? e).map (fun i => (i.zero, i.size, i.bytes)) = some (some z, size, bytes)) (hzs : z.cells.size = size) (hsz : 0 < size)
    {w : World} {base : Nat} {enc : α → List Value} (y : α) (hk : ∀ x, (enc x).length = size) (h1 : ∀ u ∈ enc y, u.oneCell' = true) (v : Value) (xs : List α) (hs : a.eval s = v) (hown0 : Own base e enc size w v xs)
    (hx : a.eval x = .slice (some ⟨w.heap.size, 0, none⟩) 1 1) (hlen : xs.length < 2147483648) (hby : bytes ≤ 4096) (hbase0 : base ≤ w.heap.size) (cs : Array Value) (hcs : cs = (enc y).toArray)
    (h : ∀ g cap w', Own base e enc size w' (.slice (some ⟨g, 0, none⟩) (xs.length + 1) cap) (xs ++ [y]) → base ≤ g → g < w'.heap.size → Below base w w' → xs.length + 1 ≤ cap → cap ≤ 9223372036854775807 →
      (∀ (p : Addr) (u : Value), w.cell? p = some u → some p.block ≠ v.ownBlock → w'.cell? p = some u) → K (a.put o.dst (.slice (some ⟨g, 0, none⟩) (xs.length + 1) cap)) w') :
    Oper.wp P o a (w.alloc (.cells cs e)) K Q := by
  subst hcs
  obtain ⟨i, hi, hz0, hz1, hz2⟩ := info_parts hinfo
  have hb32 : (xs.length + 1) * bytes ≤ 2147483648 * 4096 := Nat.mul_le_mul (by omega) hby
  have hown := hown0.below ((Below.refl _ _).alloc (Nat.le_refl _) (.cells (enc y).toArray e))
  have hbase : base ≤ (w.alloc (.cells (enc y).toArray e)).heap.size := by simp; omega
  refine wp_append_own _ s x t hop base e i z size bytes ht hi hz0 hz1 hz2 hzs hsz v xs.length (xs.flatMap enc) hs hown ⟨w.heap.size, 0, none⟩ 1 1 (enc y) hx (by rw [hk]; omega) ?_ h1 (by simp only [maxLen]; omega) (by omega) hbase ?_
  · intro j u hu
    have hadd : (⟨w.heap.size, 0, none⟩ : Addr).add j = ⟨w.heap.size, j, none⟩ := by unfold Addr.add; split <;> simp_all
    rw [hadd]
    have hbk : (w.alloc (.cells (enc y).toArray e)).heap[w.heap.size]? = some (.cells (enc y).toArray e (0, 0)) := heap_alloc_new w _
    simp only [World.cell?, hbk]
    simpa using hu
  · intro v' w' hown' hgr _
    have hown2 : Own base e enc size w' v' (xs ++ [y]) := by
      unfold Own
      simpa using hown'
    obtain ⟨g, cap, rfl, hbg, hlt, hc1, hc2⟩ := hown2.place (by simp)
    have hbl : Below base w w' := ((Below.refl base w).alloc hbase0 _).grown hgr hbase fun k hk' => (hown.lt k hk').1
    simp only [List.length_append, List.length_cons, List.length_nil, Nat.zero_add] at hown2 hc1 ⊢
    refine h g cap w' hown2 hbg hlt hbl hc1 hc2 fun p u hp hne => hgr.cell ?_ hne
    exact (World.cell?_alloc_lt w _ p (World.block_lt_of_cell? w p hp)).trans hp
end

def causeP (n : Net) (s : St) (i : Int) : ByteArray × Int :=
  if (netB n && stB n s) = false then (⟨#[]⟩, 1) else if i < 0 ∨ (n.Ns.xs.length : Int) ≤ i then (⟨#[]⟩, 2) else if s.P.xs.getD i.toNat 0 = 0 then (⟨#[]⟩, 12)
  else (nmAt n.Ns.xs (causeM n.Ns.xs n.Ls.xs s.V.xs n.Ns.xs.length [i]).toNat, 0)

theorem edges_len (ns : List Nd) (ls : List Lk) : (edgesM ns ls).length = ls.length := by simp [edgesM]

set_option maxRecDepth 100000 in
set_option maxHeartbeats 8000000 in
theorem edges_any (n : Net) (w : World) (hg : gNet w n) (hlx : n.Ls.xs.length < 2147483648) : Calls Tryz.prog 35 #[vNet n] w fun e w' => (∃ v, e = .returned v ∧ IsPrs w' v (edgesM n.Ns.xs n.Ls.xs)) ∧ Below w.heap.size w w' := by
  obtain ⟨⟨na, nc, nxs⟩, ⟨la, lc, lxs⟩⟩ := n
  have hsL := hg.2.2.2.1
  have isN : IsNds w (vSl (⟨na, nc, nxs⟩ : Sl Nd)) nxs := hg.1.isL
  have hlc : lxs.length ≤ 9223372036854775807 := by
    have h1 : lxs.length ≤ lc := hg.2.1
    have h2 : lc ≤ 9223372036854775807 := hg.2.2.1
    omega
  simp only at hlx
  clear hg
  simp only at hsL
  simp only [vNet, vSl]
  have hb0 : Below w.heap.size w (w.alloc (.cells #[.slice na nxs.length nc, .slice la lxs.length lc] 25)) := (Below.refl _ _).alloc (Nat.le_refl _) _
  go_enter Tryz.func35, Tryz.ntmps35
  go_wp2_with fail
  go_loopw [3, 9] (fun s3 s9 wr => ∃ k : Nat, k ≤ lxs.length ∧ s9 = .int .i64 k ∧ Own (w.heap.size + 1) 73 ePr 2 wr s3 ((edgesM nxs lxs).take k) ∧ Below (w.heap.size + 1) (w.alloc (.cells #[.slice na nxs.length nc, .slice la lxs.length lc] 25)) wr) (fun _ i _ => lxs.length - (intOf i).toNat)
  case atStart => exact ⟨0, Nat.zero_le _, rfl, by rw [List.take_zero]; exact World.ownsRow_nil _ _ _ _, Below.refl _ _⟩
  case round =>
    obtain ⟨k, hk, rfl, hown, hb⟩ := hrel
    have hbw : Below w.heap.size w wr := hb0.trans (hb.mono (by omega))
    obtain ⟨e0, e1⟩ := boxNet w wr 25 ⟨⟨na, nc, nxs⟩, ⟨la, lc, lxs⟩⟩ _ rfl _ rfl hb
    simp only [vSl] at e0 e1
    have hol : ((edgesM nxs lxs).take k).length = k := by rw [List.length_take, edges_len]; omega
    by_cases hlt : k < lxs.length
    · obtain ⟨b, off, rfl, c0, c1, c2, c3, c4, c5, c6, c7, c8, c9, c10⟩ := (hsL.mono hbw).lk k hlt
      have HT : Hid ((edgesM nxs lxs).take (k + 1) = (edgesM nxs lxs).take k ++ [(findNd nxs lxs[k].From, findNd nxs lxs[k].To)]) := by
        show _ = _
        rw [List.take_succ_eq_append_getElem (by rw [edges_len]; exact hlt)]
        simp [edgesM]
      have isNr := isN.mono hbw
      have hlkr := hown.lt
      have HOL := Lib.hid hol
      clear hsL hol isNr
      generalize lxs[k] = x at *
      generalize (edgesM nxs lxs).take k = ys at *
      obtain ⟨aO, cO, rfl⟩ := hown.isSlice
      go_wp2_with fail
      obtain ⟨d0, d1, d2, _⟩ := boxLk wr (wr.alloc (.cells (eLk x).toArray 65)) 65 x _ rfl _ rfl (Below.refl _ _)
      have hbX : Below wr.heap.size wr (wr.alloc (.cells (eLk x).toArray 65)) := (Below.refl _ _).alloc (Nat.le_refl _) _
      have e0 := box_lt e0 hbX
      have e1 := box_lt e1 hbX
      have hown2 := hown.below hbX
      have hb2 := hb.trans (hbX.mono (by simpa using hb.size))
      have ne0 : some w.heap.size ≠ (Value.slice aO ys.length cO).ownBlock := fun h => by have := (hlkr _ h.symm).1; omega
      have neL : some wr.heap.size ≠ (Value.slice aO ys.length cO).ownBlock := fun h => by have := (hlkr _ h.symm).2; omega
      clear hbX c0 c1 c2 c3 c4 c5 c6 c7 c8 c9 c10 hown hlkr d0
      have hs1 : w.heap.size + 1 ≤ (wr.alloc (.cells (eLk x).toArray 65)).heap.size := by have h := hb.size; simp at h ⊢; omega
      have hlo : ys.length < 2147483648 := by have h := HOL.out; omega
      (go_region_held3 (fun w' => Below (w.heap.size + 1) (w.alloc (.cells #[.slice na nxs.length nc, .slice (some ⟨b, off, none⟩) lxs.length lc] 25)) w' ∧ w'.cell? ⟨w.heap.size, 0, none⟩ = some (.slice na nxs.length nc) ∧ w'.cell? ⟨w.heap.size, 1, none⟩ = some (.slice (some ⟨b, off, none⟩) lxs.length lc) ∧ w'.cell? ⟨wr.heap.size, 1, none⟩ = some (.string x.From) ∧ w'.cell? ⟨wr.heap.size, 2, none⟩ = some (.string x.To)) (first | ((try dsimp only at *); (try go_split_ands); (refine ⟨?_, ?_, ?_, ?_, ?_⟩ <;> (first | (exact (hb2.trans (hbX1.mono hs1)).trans hb5) | (exact hk5 _ _ (box_lt (by assumption) hbX1) (by assumption)) | (exact box_lt (by assumption) hb1) | (exact Below.drew (by assumption)) | (exact Below.alloc (by assumption) (Nat.le_trans hs1 hbX1.size) _) | (exact hb2.trans (hbX1.mono hs1)) | (simp [*, go_sem]; done)))) | go_keep) ((first | (go_at_call 33; (try dsimp only at *); (try go_split_ands); refine (node_any ⟨⟨na, nc, nxs⟩, ⟨some ⟨b, off, none⟩, lc, lxs⟩⟩ _ _ (isN.mono (hb0.trans (Below.mono (by assumption) (by omega))))).mono ?_; rintro e w1 ⟨rfl, hb1⟩; have hbX1 : Below (wr.alloc (.cells (eLk x).toArray 65)).heap.size (wr.alloc (.cells (eLk x).toArray 65)) w1 := (by first | exact Below.trans (by assumption) (hb1.mono (Below.size (by assumption))) | exact ((Below.refl _ _).drew).trans hb1)) | ((try dsimp only at *); (try go_split_ands); rw [if_pos (by rfl)]; (refine wp_pushK _ _ 67 rfl 73 _ 2 16 undPrs infPr rfl (by decide) (findNd nxs x.From, findNd nxs x.To) ePr_len (by simp [Value.oneCell']) _ ys rfl (hown2.below hbX1) rfl hlo (by decide) (Nat.le_trans hs1 hbX1.size) _ rfl ?_); intro g3 cap3 w5 hown5 hbg5 hgl5 hb5 hc51 hc52 hk5))))
      have hb5' := (hb2.trans (hbX1.mono hs1)).trans hb5
      have HK : Hid (k < 9223372036854775807) := by show _ < _; omega
      have hwk : IntKind.i64.wrap ((k : Int) + 1) = k + 1 := IntWalk.i64_in _ (by omega)
      go_wp2_with fail
      go_roundw
      case measure => simp [intOf]; omega
      case rel => exact ⟨k + 1, by omega, by go_num, by rw [HT.out]; exact hown5, hb5'⟩
    · obtain rfl : k = lxs.length := by omega
      rw [List.take_of_length_le (by rw [edges_len]; exact Nat.le_refl _)] at hown
      have is := hown.isL ePr_len
      obtain ⟨aO, cO, rfl⟩ := hown.isSlice
      clear hol hown
      go_wp2_with fail
      go_ret
      exact ⟨⟨_, rfl, is⟩, hbw⟩

set_option maxRecDepth 100000 in
set_option maxHeartbeats 4000000 in
theorem edgesX_any (n : Net) (w : World) (hg : gNet w n) (h : netB n = true) : Calls Tryz.prog 25 #[vNet n] w fun e w' => (∃ v, e = .returned (.tuple #[v, .int .i64 0]) ∧ IsPrs w' v (edgesM n.Ns.xs n.Ls.xs)) ∧ Below w.heap.size w w' := by
  have hb0 : Below w.heap.size w (w.alloc (.cells (eNet n).toArray 25)) := (Below.refl _ _).alloc (Nat.le_refl _) _
  go_enter Tryz.func25, Tryz.ntmps25
  go_wp2_with fail
  refine Calls.to (nvalid_any n _ (rdNet.mono hg hb0)) ?_
  rintro e w1 rfl hb1
  have hbw := hb0.trans (hb1.mono hb0.size)
  obtain ⟨e0, e1⟩ := boxNet w w1 25 n _ rfl _ rfl (hb1.mono (by simp))
  clear hb1
  rw [h]
  go_wp2_with fail
  refine Calls.to (edges_any n _ (rdNet.mono hg hbw) (by simp [netB] at h; omega)) ?_
  rintro e w2 ⟨v, rfl, hv⟩ hb2
  go_wp2_with fail
  go_ret2
  exact ⟨⟨v, rfl, hv⟩, hbw.trans (hb2.mono hbw.size)⟩

end Go.Proofs.YtlcfnbnpkcjjlaaGreat
