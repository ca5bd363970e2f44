/- The nodes next to each node: digraph.next. Conditions: the edges lie among the nodes. -/
import Derived.Test.YtlcfnbnpkcjjlaaGreatDgo
import Derived.WalkSpells
namespace Go.Proofs.YtlcfnbnpkcjjlaaGreat
open Go.RowKit
set_option linter.unusedVariables false
set_option linter.unusedSimpArgs false

theorem tgt_rows {n : Nat} {E : List (Nat × Nat)} {k : Nat} (hk : k < E.length) (ha : (E[k]).1 < n) :
    ((List.range n).map (tgt (E.take k))).set (E[k]).1 (tgt (E.take k) (E[k]).1 ++ [(E[k]).2]) = (List.range n).map (tgt (E.take (k + 1))) := by
  rw [List.take_succ_eq_append_getElem hk]
  apply List.ext_getElem
  · simp
  · intro i h1 h2
    have hi : i < n := by simpa using h2
    by_cases hia : (E[k]).1 = i
    · subst hia
      rw [List.getElem_set_self, List.getElem_map, List.getElem_range, tgt_snoc, if_pos rfl]
    · rw [List.getElem_set_ne hia, List.getElem_map, List.getElem_map, List.getElem_range, tgt_snoc, if_neg hia]
/-- Halfway through the second loop. -/
def halfR (n : Nat) (E : List (Nat × Nat)) (k : Nat) : List (List Nat) := (List.range n).map fun i => if i < k then Gp.nxt n E i else tgt E i
theorem halfR_zero (n : Nat) (E : List (Nat × Nat)) : halfR n E 0 = (List.range n).map (tgt E) := by simp [halfR]
theorem halfR_all (n : Nat) (E : List (Nat × Nat)) : halfR n E n = (List.range n).map (Gp.nxt n E) := by
  unfold halfR
  exact List.map_congr_left (fun i hi => by rw [if_pos (List.mem_range.1 hi)])
theorem halfR_len (n : Nat) (E : List (Nat × Nat)) (k : Nat) : (halfR n E k).length = n := by simp [halfR]
theorem halfR_at {n : Nat} {E : List (Nat × Nat)} {k : Nat} (hk : k < n) : (halfR n E k)[k]'(by rw [halfR_len]; exact hk) = tgt E k := by simp [halfR]
theorem halfR_set {n : Nat} {E : List (Nat × Nat)} {k : Nat} : (halfR n E k).set k (Gp.nxt n E k) = halfR n E (k + 1) := by
  unfold halfR
  apply List.ext_getElem
  · simp
  · intro i h1 h2
    have hi : i < n := by simpa using h2
    by_cases hik : k = i
    · subst hik
      rw [List.getElem_set_self]; simp
    · rw [List.getElem_set_ne hik]
      simp only [List.getElem_map, List.getElem_range]
      by_cases hlt : i < k
      · rw [if_pos hlt, if_pos (by omega)]
      · rw [if_neg hlt, if_neg (by omega)]

set_option maxRecDepth 100000 in
set_option maxHeartbeats 4000000 in
theorem next_any (n : Nat) (E : List (Nat × Nat)) (v : Value) (w : World) (hE : IsEds w v E) (hv : Gp.vtx n E) (hn : n ≤ 1000000) (hl : E.length ≤ 1000000) :
    Calls Tryz.prog 89 #[.int .i64 n, v] w fun e w' => (∃ u vs, e = .returned u ∧ OwnR w.heap.size 26 3 eNat 1 w' u vs ((List.range n).map (Gp.nxt n E))) ∧ Below w.heap.size w w' := by
  obtain ⟨a, cap, rfl, hcap, hbig, hs⟩ := hE
  have hll : n < 2147483648 := by omega
  go_enter Tryz.func89, Tryz.ntmps89
  go_wp2_with (refine wpList_mk _ rfl _ _ 112 rfl w.heap.size 26 _ 24 undRows infRow eV (.slice none 0 0) rfl rfl _ _ n rfl rfl rfl rfl hll (by omega) (Nat.le_refl _) ?_; intro w1 hown1 hb1 hlt1)
  have hR1 : OwnR w.heap.size 26 3 eNat 1 w1 (.slice (some ⟨w.heap.size, 0, none⟩) n n) (List.replicate n (.slice none 0 0)) ((List.range n).map (tgt (E.take 0))) := by
    have h := OwnR.start (α := Nat) (e := 3) (enc := eNat) (k := 1) hown1
    rw [show (List.range n).map (tgt (E.take 0)) = List.replicate n [] from by
      apply List.ext_getElem
      · simp
      · intro i h1 h2; simp [tgt]]
    exact h
  have HR1 := Lib.hid hR1
  clear hR1 hown1
  go_loopw [13] (fun s13 wr => ∃ (k : Nat) (vs : List Value), k ≤ E.length ∧ s13 = .int .i64 k ∧ Below w.heap.size w wr ∧ w.heap.size < wr.heap.size ∧ Hid (OwnR w.heap.size 26 3 eNat 1 wr (.slice (some ⟨w.heap.size, 0, none⟩) n n) vs ((List.range n).map (tgt (E.take k))))) (fun i _ => E.length - (intOf i).toNat)
  case atStart => exact ⟨0, _, Nat.zero_le _, rfl, hb1, hlt1, HR1⟩
  clear HR1 hb1 hlt1
  case round =>
    obtain ⟨k, vs, hk, rfl, hb, hlt, HR⟩ := hrel
    by_cases hkl : k < E.length
    · obtain ⟨b, off, rfl, c1, c2⟩ := (hs.mono hb).ed k hkl
      have ha : (E[k]).1 < n := (hv _ (List.getElem_mem hkl)).1
      have hvl : vs.length = n := by have := HR.out.len; simpa using this
      have hav : (E[k]).1 < vs.length := by omega
      have q3 := OwnR.cellv HR.out (E[k]).1 hav
      have hrow := HR.out.row (E[k]).1 hav (by simpa using ha)
      rw [List.getElem_map, List.getElem_range] at hrow
      have hfar : vs[(E[k]).1].ownBlock ≠ some w.heap.size := fun e => HR.out.off _ hav _ e rfl
      have hlo : ∀ g, vs[(E[k]).1].ownBlock = some g → g < wr.heap.size := fun g hg => (hrow.lt g hg).2
      have f3 : wr.frozen? ⟨w.heap.size, (E[k]).1, none⟩ = false := Own.free HR.out.out _
      have HT := Lib.hid (tgt_rows hkl ha)
      have htl : (tgt (E.take k) (E[k]).1).length < 2147483648 := by
        have := tgt_len (E.take k) (E[k]).1
        rw [List.length_take] at this
        omega
      have HRR := HR
      clear hs HR
      obtain ⟨u, hu⟩ : ∃ u, u = vs[(E[k]).1] := ⟨_, rfl⟩
      rw [← hu] at q3 hrow hfar hlo
      have HU := Lib.hid hu
      clear hu
      obtain ⟨⟨x, y⟩, hxy⟩ : ∃ e, E[k] = e := ⟨_, rfl⟩
      have hx1 : (E[k]).1 = x := by rw [hxy]
      have hy1 : (E[k]).2 = y := by rw [hxy]
      simp only [hx1, hy1] at *
      have hav2 : x < vs.length := by omega
      clear hxy hx1 hy1
      generalize tgt (E.take k) x = ts at *
      obtain ⟨ua, uc, rfl⟩ := hrow.isSlice
      go_wp2_with fail
      have n0 : (Value.slice ua ts.length uc).ownBlock ≠ some wr.heap.size := fun e => Nat.lt_irrefl _ (hlo _ e)
      have hX : Below wr.heap.size wr (wr.alloc (.cells #[.int .i64 (x : Int), .int .i64 (y : Int)] 73)) := alloc_below _ _
      have hsz : w.heap.size ≤ wr.heap.size := by omega
      have d0 : (wr.alloc (.cells #[.int .i64 (x : Int), .int .i64 (y : Int)] 73)).cell? ⟨wr.heap.size, 0, none⟩ = some (.int .i64 (x : Int)) := by simp [go_sem]
      have d1 : (wr.alloc (.cells #[.int .i64 (x : Int), .int .i64 (y : Int)] 73)).cell? ⟨wr.heap.size, 1, none⟩ = some (.int .i64 (y : Int)) := by simp [go_sem]
      have hXX : Below wr.heap.size wr ((wr.alloc (.cells #[.int .i64 (x : Int), .int .i64 (y : Int)] 73)).alloc (.cells #[.int .i64 (y : Int)] 3)).drew := by repeat' (first | exact Below.refl _ _ | assumption | refine Below.more ?_ ?_ _ | refine Below.alloc ?_ ?_ _ | refine Below.drew ?_ | refine below_drewN ?_ _ | refine Below.setCell ?_ ?_ _ | exact Below.size (by assumption) | (simp [go_sem, size_more]; done) | (simp [go_sem, size_more]; omega))
      go_region_law ((first | ((try dsimp only at *); (try go_split_ands); rw [if_pos (by rfl)]; go_must (refine wp_pushR _ _ 26 rfl 3 _ 1 8 undInts infInt rfl (by decide) y (fun _ => rfl) (by simp [Value.oneCell']) (.slice ua ts.length uc) ts rfl (hrow.below (by repeat' (first | exact Below.refl _ _ | assumption | refine Below.more ?_ ?_ _ | refine Below.alloc ?_ ?_ _ | refine Below.drew ?_ | refine below_drewN ?_ _ | refine Below.setCell ?_ ?_ _ | exact Below.size (by assumption) | (simp [go_sem, size_more]; done) | (simp [go_sem, size_more]; omega)))) _ rfl htl (by decide) (by simp; omega) (heap_new2 _ _ _) ?_); intro g5 c5 w5 hR5; have k0 : w5.cell? ⟨wr.heap.size, 0, none⟩ = some (.int .i64 (x : Int)) := hR5.cell (by simp [go_sem]) n0; have k1 : w5.cell? ⟨wr.heap.size, 1, none⟩ = some (.int .i64 (y : Int)) := hR5.cell (by simp [go_sem]) n0; have k3 : w5.cell? ⟨w.heap.size, x, none⟩ = some (.slice ua ts.length uc) := hR5.cell (by simp [go_sem, q3]) hfar; have k4 : w5.frozen? ⟨w.heap.size, x, none⟩ = false := (hR5.frozen (by simp; omega) hfar).trans ((Below.frozen (B := wr.heap.size) (w := wr) (by repeat' (first | exact Below.refl _ _ | assumption | refine Below.more ?_ ?_ _ | refine Below.alloc ?_ ?_ _ | refine Below.drew ?_ | refine below_drewN ?_ _ | refine Below.setCell ?_ ?_ _ | exact Below.size (by assumption) | (simp [go_sem, size_more]; done) | (simp [go_sem, size_more]; omega))) (p := ⟨w.heap.size, x, none⟩) (by omega)).trans f3))))
      all_goals
        have hR6 := hR5
        rw [HU.out] at hR6
        have hO := (HRR.out.below hXX).put x hav2 hR6 rfl
        rw [HT.out] at hO
        have hO := Lib.hid hO
        have hb5 := ((hb.trans (hXX.mono hsz)).trans (hR5.below (hrow.below hXX) (by simp; omega))).setCell (p := ⟨w.heap.size, x, none⟩) (Nat.le_refl w.heap.size) (.slice (some ⟨g5, 0, none⟩) (ts.length + 1) c5)
        have hl5 : w.heap.size < (w5.setCell ⟨w.heap.size, x, none⟩ (.slice (some ⟨g5, 0, none⟩) (ts.length + 1) c5)).heap.size := by
          have := (hR5.below (hrow.below hXX) (by simp; omega)).size
          simp [World.setCell] at this ⊢; omega
        have x9 : IntKind.i64.wrap ((k : Int) + 1) = k + 1 := IntWalk.i64_in _ (by omega)
        clear hR5 hR6 q3 f3 d0 d1 k0 k1 k3 k4
        go_wp2_with fail
        go_roundw
        case measure => simp [intOf]; omega
        case rel => exact ⟨k + 1, _, by omega, by go_num, hb5, hl5, hO⟩
    · obtain rfl : k = E.length := by omega
      have hR0 := HR.out
      rw [List.take_length, ← halfR_zero] at hR0
      have HR0 := Lib.hid hR0
      clear hR0 HR hs
      go_wp2_with fail
      go_loopw [33] (fun s33 wr => ∃ (j : Nat) (vs : List Value), j ≤ n ∧ s33 = .int .i64 j ∧ Below w.heap.size w wr ∧ w.heap.size < wr.heap.size ∧ Hid (OwnR w.heap.size 26 3 eNat 1 wr (.slice (some ⟨w.heap.size, 0, none⟩) n n) vs (halfR n E j))) (fun i _ => n - (intOf i).toNat)
      case atStart => exact ⟨0, _, Nat.zero_le _, rfl, hb, hlt, HR0⟩
      clear HR0 hb hlt
      case round =>
        obtain ⟨j, vs, hj, rfl, hb, hlt, HR⟩ := hrel
        have hvl : vs.length = n := by rw [HR.out.len, halfR_len]
        by_cases hjl : j < n
        · have hjv : j < vs.length := by omega
          have q3 := OwnR.cellv HR.out j hjv
          have hrow := HR.out.row j hjv (by rw [halfR_len]; exact hjl)
          rw [halfR_at hjl] at hrow
          obtain ⟨ua, uc, hu⟩ := hrow.isSlice
          have HU := Lib.hid hu
          rw [hu] at q3 hrow
          clear hu
          go_wp2_with fail
          refine (sortN_any _ _ _ _ hrow (by have := tgt_len E j; omega)).mono ?_
          rintro e w1 ⟨rfl, hg, ys, hp, hso, hy⟩
          have hR1 := HR.out.turn j hjv (by rw [HU.out]; exact hy) (by rw [HU.out]; exact hg)
          have hyl : ys.length = (tgt E j).length := hp.length_eq
          have hb1 : Below w.heap.size w w1 := hb.grown hg (by omega) (fun g hg' => (hrow.lt g hg').1)
          have hl1 : w.heap.size < w1.heap.size := by have := hg.size; omega
          have q3 := OwnR.cellv hR1 j hjv
          rw [HU.out] at q3
          have HR1 := Lib.hid hR1
          clear hR1 hrow hg HR
          have hytl : ys.length ≤ 1000000 := by have := tgt_len E j; omega
          clear hyl
          go_wp2_with fail
          refine (compactN_any ys _ w.heap.size _ hy hytl).mono ?_
          rintro e w2 ⟨v', zs, rfl, hz, hR2⟩
          obtain rfl := nxt_of hv hp hso hz
          obtain ⟨na, nc, rfl⟩ := hR2.own.isSlice
          have n0 : (Value.slice ua (tgt E j).length uc).ownBlock ≠ some w.heap.size := by
            rw [← HU.out]
            exact fun e => HR1.out.off j hjv _ e rfl
          have q4 := hR2.cell q3 n0
          have f4 : w2.frozen? ⟨w.heap.size, j, none⟩ = false := (hR2.frozen (by exact hl1) n0).trans (Own.free HR1.out.out _)
          have hR3 := hR2
          rw [← HU.out] at hR3
          have hO := HR1.out.put j hjv hR3 rfl
          rw [List.set_set, halfR_set] at hO
          have hO := Lib.hid hO
          have hb2 := (hb1.trans (hR2.below hy (by omega))).setCell (p := ⟨w.heap.size, j, none⟩) (Nat.le_refl w.heap.size) (.slice na (Gp.nxt n E j).length nc)
          have hl2 : w.heap.size < (w2.setCell ⟨w.heap.size, j, none⟩ (.slice na (Gp.nxt n E j).length nc)).heap.size := by
            have := hR2.grown.size
            simp [World.setCell] at this ⊢; omega
          have x9 : IntKind.i64.wrap ((j : Int) + 1) = j + 1 := IntWalk.i64_in _ (by omega)
          clear hR2 hR3 HR1 hy hp hso hz q3 hb1 hl1 hb hlt n0
          go_wp2_with fail
          go_roundw
          case measure => simp [intOf]; omega
          case rel => exact ⟨j + 1, _, by omega, by go_num, hb2, hl2, hO⟩
        · obtain rfl : j = n := by omega
          have hR := HR.out
          rw [halfR_all] at hR
          clear HR
          go_wp2_with fail
          go_ret
          exact ⟨⟨_, vs, rfl, hR⟩, hb⟩

end Go.Proofs.YtlcfnbnpkcjjlaaGreat
