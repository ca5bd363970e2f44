/- network.ways, Below and Order: the names of what is reached from the heads of the edges of a node; an error just if the network has a loop. Conditions: the network reads as data and is right. -/
import Derived.Test.YtlcfnbnpkcjjlaaGreatNtf
import Derived.Test.YtlcfnbnpkcjjlaaGreatNtl
import Derived.Test.YtlcfnbnpkcjjlaaGreatNea
import Derived.Test.YtlcfnbnpkcjjlaaGreatDgy
namespace Go.Proofs.YtlcfnbnpkcjjlaaGreat
open Go.RowKit
set_option linter.unusedVariables false
set_option linter.unusedSimpArgs false

theorem gE_edges {n : Net} (h : netB n = true) : edgesM n.Ns.xs n.Ls.xs = edI (gE n) := by
  unfold edgesM gE edI
  rw [List.map_map]
  refine List.map_congr_left fun l hl => ?_
  obtain ⟨j, hj, rfl⟩ := List.mem_iff_getElem.1 hl
  have := netB_lk h j hj
  simp only [Function.comp]
  rw [Prod.mk.injEq]
  omega
theorem netB_small {n : Net} (h : netB n = true) : n.Ns.xs.length ≤ 300 ∧ n.Ls.xs.length ≤ 400 := by
  simp [netB] at h; omega
theorem edges_ok (n : Net) (w : World) (hg : gNet w n) (h : netB n = true) : Calls Tryz.prog 35 #[vNet n] w fun e w' => (∃ v, e = .returned v ∧ IsEds w' v (gE n)) ∧ Below w.heap.size w w' := by
  have hs := netB_small h
  refine (edges_any n w hg (by omega)).mono ?_
  rintro e w' ⟨⟨v, rfl, hv⟩, hb⟩
  rw [gE_edges h] at hv
  exact ⟨⟨v, rfl, isL_edI.1 hv⟩, hb⟩

def firstL (G : List (Nat × Nat)) (i : Nat) : List Nat := (G.filter fun e => e.1 == i).map (·.2)
theorem firstL_step {G : List (Nat × Nat)} {i k : Nat} (hk : k < G.length) : firstL (G.take (k + 1)) i = firstL (G.take k) i ++ (if (G[k].1 == i) = true then [G[k].2] else []) := by
  unfold firstL
  rw [List.take_succ_eq_append_getElem hk, List.filter_append, List.map_append]
  congr 1
  cases h : (G[k].1 == i)
  · rw [List.filter_cons_of_neg (by rw [h]; simp)]; simp
  · rw [List.filter_cons_of_pos (by exact h)]; simp
theorem firstL_len (G : List (Nat × Nat)) (i : Nat) : (firstL G i).length ≤ G.length := by
  unfold firstL
  rw [List.length_map]
  exact List.length_filter_le _ _
theorem firstL_mem {G : List (Nat × Nat)} {i s : Nat} : s ∈ firstL G i ↔ Gp.inE G i s = true := by
  unfold firstL
  rw [Gp.inE_iff, List.mem_map]
  constructor
  · rintro ⟨⟨a, b⟩, h, rfl⟩
    rw [List.mem_filter] at h
    obtain rfl : a = i := by simpa using h.2
    exact h.1
  · intro h
    exact ⟨(i, s), List.mem_filter.2 ⟨h, by simp⟩, rfl⟩
def namesL (ns : List Nd) (r : List Bool) (k : Nat) : List ByteArray := ((List.range k).filter fun x => r.getD x false).map (nmAt ns)
theorem namesL_step (ns : List Nd) (r : List Bool) (k : Nat) : namesL ns r (k + 1) = namesL ns r k ++ (if r.getD k false then [nmAt ns k] else []) := by
  unfold namesL
  rw [List.range_succ, List.filter_append, List.map_append]
  congr 1
  cases h : r.getD k false
  · rw [List.filter_cons_of_neg (by rw [h]; simp)]; simp
  · rw [List.filter_cons_of_pos (by exact h)]; simp
theorem namesL_len (ns : List Nd) (r : List Bool) (k : Nat) : (namesL ns r k).length ≤ k := by
  unfold namesL
  rw [List.length_map]
  exact Nat.le_trans (List.length_filter_le _ _) (by simp)

set_option maxRecDepth 100000 in
set_option maxHeartbeats 8000000 in
theorem ways_ok (n : Net) (nm : ByteArray) (i : Nat) (G : List (Nat × Nat)) (lv : Value) (w : World) (hg : gNet w n) (hN : netB n = true) (hi : findNd n.Ns.xs nm = (i : Int)) (hE : IsEds w lv G) (hv : Gp.vtx n.Ns.xs.length G) (hl : G.length ≤ 1000) :
    Calls Tryz.prog 34 #[vNet n, .string nm, lv] w fun e w' => (∃ u, e = .returned (.tuple #[u, .int .i64 0]) ∧ IsStrs w' u (namesL n.Ns.xs (Gp.reachL n.Ns.xs.length G (firstL G i)) n.Ns.xs.length)) ∧ Below w.heap.size w w' := by
  have hsm := (netB_small hN).1
  obtain ⟨⟨na, nc, nxs⟩, ⟨qa, qc, lxs⟩⟩ := n
  simp only at hi hv hsm ⊢
  have hb0 : Below w.heap.size w (w.alloc (.cells #[.slice na nxs.length nc, .slice qa lxs.length qc] 25)) := (Below.refl _ _).alloc (Nat.le_refl _) _
  have hE0 := hE
  obtain ⟨la, lc, rfl, _, _, hEs⟩ := hE
  have hcS := hg.1.2.2.1
  have isN : IsNds w (.slice na nxs.length nc) nxs := hg.1.isL
  obtain ⟨W, hW⟩ : ∃ W, W = w.alloc (.cells #[.slice na nxs.length nc, .slice qa lxs.length qc] 25) := ⟨_, rfl⟩
  have e0 : W.cell? ⟨w.heap.size, 0, none⟩ = some (.slice na nxs.length nc) := by rw [hW]; simp [go_sem]
  have e1 : W.cell? ⟨w.heap.size, 1, none⟩ = some (.slice qa lxs.length qc) := by rw [hW]; simp [go_sem]
  rw [← hW] at hb0
  have hnl := fun x => node_lit (n := ⟨⟨na, nc, nxs⟩, ⟨qa, qc, lxs⟩⟩) hi (more W x) ((isN.mono hb0).mono (below_more _ _))
  have hfo := fun x => found_ok ⟨⟨na, nc, nxs⟩, ⟨qa, qc, lxs⟩⟩ i (more W x)
  have HNL := Lib.hid hnl
  have HFO := Lib.hid hfo
  simp only [vNet, vSl] at HNL HFO ⊢
  have HE0 := Lib.hid hE0
  clear hnl hfo hE0 hg hN
  have H0 := Lib.hid hb0
  have HE := Lib.hid hEs
  have HS := Lib.hid hcS
  clear hEs hcS
  go_enter Tryz.func34, Tryz.ntmps34
  go_wp2_with fail
  rw [← hW]
  clear hW
  refine wp_region_more_lit (by kernel_rfl) (by kernel_rfl) ?_
  repeat (go_big_quiet_step ((first | (go_at_call 33; exact Calls.more_of (HNL.out _)) | (go_at_call 32; exact Calls.more_of (HFO.out _)))))
  refine wpQuiet_nil ?_
  intro _ hwq
  obtain ⟨xq, hwq⟩ := hwq
  subst hwq
  have hbd := Below.more hb0 hb0.size xq
  have d0 : (more W xq).cell? ⟨w.heap.size, 0, none⟩ = some (.slice na nxs.length nc) := (cell_more _ _ _ (by rw [e0]; rfl)).trans e0
  obtain ⟨V, hV⟩ : ∃ V, V = more W xq := ⟨_, rfl⟩
  rw [← hV] at hbd d0 ⊢
  clear hV e0 e1 hb0
  have HD := Lib.hid hbd
  have HD0 := Lib.hid d0
  go_wp2_with fail
  go_loopw [10, 30] (fun s10 s30 wr => ∃ k : Nat, k ≤ G.length ∧ s30 = .int .i64 k ∧ Below V.heap.size V wr ∧ Own V.heap.size 3 eNat 1 wr s10 (firstL (G.take k) i)) (fun _ i _ => G.length - (intOf i).toNat)
  case atStart => exact ⟨0, Nat.zero_le _, rfl, Below.refl _ _, by rw [List.take_zero]; exact World.ownsRow_nil _ _ _ _⟩
  case round =>
    obtain ⟨k, hk, rfl, hb, hown⟩ := hrel
    by_cases hkl : k < G.length
    · have hbw : Below w.heap.size w wr := HD.out.trans (hb.mono HD.out.size)
      obtain ⟨b, off, rfl, c1, c2⟩ := (HE.out.mono hbw).ed k hkl
      have hX : Below V.heap.size V (wr.alloc (.cells #[.int .i64 ((G[k]).1 : Int), .int .i64 ((G[k]).2 : Int)] 73)) := hb.alloc hb.size _
      have hownX := hown.below (w' := wr.alloc (.cells #[.int .i64 ((G[k]).1 : Int), .int .i64 ((G[k]).2 : Int)] 73)) (alloc_below _ _)
      have hstep := Lib.hid (firstL_step (i := i) hkl)
      have hrl : (firstL (G.take k) i).length < 2147483648 := by have := firstL_len (G.take k) i; rw [List.length_take] at this; omega
      clear hown hb d0 hbd
      obtain ⟨x, hx⟩ : ∃ x, x = (G[k]).1 := ⟨_, rfl⟩
      obtain ⟨y, hy⟩ : ∃ y, y = (G[k]).2 := ⟨_, rfl⟩
      rw [← hx] at c1 hX hownX hstep
      rw [← hy] at c2 hX hownX hstep
      clear hx hy
      generalize firstL (G.take k) i = rs at *
      obtain ⟨ra, rc, rfl⟩ := hownX.isSlice
      have d0 : (wr.alloc (.cells #[.int .i64 (x : Int), .int .i64 (y : Int)] 73)).cell? ⟨wr.heap.size, 0, none⟩ = some (.int .i64 (x : Int)) := by simp [go_sem]
      have d1 : (wr.alloc (.cells #[.int .i64 (x : Int), .int .i64 (y : Int)] 73)).cell? ⟨wr.heap.size, 1, none⟩ = some (.int .i64 (y : Int)) := by simp [go_sem]
      have HG := Lib.hid hl
      clear hl
      by_cases hxi : x = i
      · have i1 : decide ((x : Int) = (i : Int)) = true := decide_eq_true (by omega)
        have i2 : decide (x = i) = true := decide_eq_true hxi
        have hst : firstL (G.take (k + 1)) i = rs ++ [y] := by rw [hstep.out, if_pos (by simp [hxi])]
        have i3 : (x == i) = true := by simp [hxi]
        have i5 : ((x : Int) == (i : Int)) = true := by simp [hxi]
        clear hxi
        have h1c : ∀ u ∈ eNat y, u.oneCell' = true := by simp [Value.oneCell']
        have hBs : (wr.alloc (.cells #[.int .i64 (x : Int), .int .i64 (y : Int)] 73)).heap.size = wr.heap.size + 1 := by simp
        go_wp2_with (at_builtin; go_must (refine wpList_pushB rfl _ _ 26 rfl 3 _ 1 8 undInts infInt rfl (by decide) y (fun _ => rfl) h1c _ rs rfl hownX (wr.heap.size + 1) rfl (by exact hBs) hrl (by decide) hX.size _ rfl ?_); intro g3 cap3 w1 hown1 hbg1 hgl1 hb1 hc11 hc21)
        have hO := hown1
        have hbb := hX.trans hb1
        go_wp2_with fail
        go_roundw
        case measure => simp [intOf]; omega
        case rel => exact ⟨k + 1, by omega, by go_num, hbb, by rw [hst]; exact hO⟩
      · have i1 : decide ((x : Int) = (i : Int)) = false := decide_eq_false (by omega)
        have i2 : decide (x = i) = false := decide_eq_false hxi
        have hst : firstL (G.take (k + 1)) i = rs := by rw [hstep.out, if_neg (by simp [hxi]), List.append_nil]
        go_wp2_with fail
        go_roundw
        case measure => simp [intOf]; omega
        case rel => exact ⟨k + 1, by omega, by go_num, hX, by rw [hst]; exact hownX⟩
    · have hk' : G.take k = G := List.take_of_length_le (by omega)
      rw [hk'] at hown
      have hbw : Below w.heap.size w wr := HD.out.trans (hb.mono HD.out.size)
      have c0 := box_lt d0 hb
      have hfl := firstL_len G i
      have hF : IsNats wr _ (firstL G i) := hown.isL (fun _ => rfl)
      have hfs : ∀ s ∈ firstL G i, s < nxs.length := fun s hs => (hv _ (Gp.inE_iff.1 (firstL_mem.1 hs))).2
      have hreach := reach_ok nxs.length G (firstL G i) _ _ wr (HE0.out.mono hbw) hv hsm hl hF (by omega) hfs
      obtain ⟨fa, fc, rfl⟩ := hown.isSlice
      have hRl : (Gp.reachL nxs.length G (firstL G i)).length = nxs.length := Gp.reachL_len _ _ _
      obtain ⟨R, hR⟩ : ∃ R, R = Gp.reachL nxs.length G (firstL G i) := ⟨_, rfl⟩
      rw [← hR] at hreach hRl
      have HR := Lib.hid hR
      have i1 : decide (k < G.length) = false := decide_eq_false hkl
      obtain rfl : k = G.length := by omega
      have HRL := Lib.hid hRl
      have HFL := Lib.hid hfl
      clear hR hfs hF hown hfl hRl hbd d0 HD HD0 hk'
      obtain ⟨f, hf⟩ : ∃ f, f = firstL G i := ⟨_, rfl⟩
      rw [← hf] at hreach HFL ⊢
      clear hf
      go_wp2_with fail
      refine Calls.to hreach ?_
      rintro e w2 ⟨u, rfl, hO⟩ hb2
      have hbw2 := hbw.trans (hb2.mono hbw.size)
      have c0 := box_lt c0 hb2
      have hlO := hO.lt
      obtain ⟨ua, uc, hue⟩ := hO.isSlice
      rw [HRL.out] at hue
      subst hue
      have HO := Lib.hid hO
      have HB := Lib.hid hbw2
      clear hreach hb2 hO hbw hb hlO
      go_wp2_with fail
      go_loopw [14, 59] (fun s14 s59 wr2 => ∃ k : Nat, k ≤ nxs.length ∧ s59 = .int .i64 k ∧ Below w2.heap.size w2 wr2 ∧ Own w2.heap.size 9 eStr 1 wr2 s14 (namesL nxs R k)) (fun _ i _ => nxs.length - (intOf i).toNat)
      case atStart => exact ⟨0, Nat.zero_le _, rfl, Below.refl _ _, World.ownsRow_nil _ _ _ _⟩
      case round =>
        obtain ⟨k, hk, rfl, hb, hown⟩ := hrel
        by_cases hkl : k < nxs.length
        · have hbw : Below w.heap.size w wr := HB.out.trans (hb.mono HB.out.size)
          obtain ⟨b, off, rfl, c1, c2, c3, c4, c5, c6, c7, c8, c9⟩ := (HS.out.mono hbw).nd k hkl
          have hkR : k < R.length := by rw [HRL.out]; exact hkl
          have hX : Below w2.heap.size w2 (wr.alloc (.cells (eNd nxs[k]).toArray 45)) := hb.alloc hb.size _
          have hownX := hown.below (w' := wr.alloc (.cells (eNd nxs[k]).toArray 45)) (alloc_below _ _)
          obtain ⟨ug, rfl, _, _, _, _⟩ := (HO.out.below hX).placeA (by rw [HRL.out]; omega)
          have cR := (HO.out.below hX).boolAt k hkR
          have hstep := Lib.hid (namesL_step nxs R k)
          rw [show nmAt nxs k = nxs[k].Name from nmAt_at hkl, List.getD, List.getElem?_eq_getElem hkR, Option.getD_some] at hstep
          have hrl : (namesL nxs R k).length < 2147483648 := by have := namesL_len nxs R k; omega
          have hsz := hb.size
          clear hown hb hbw HB HO
          obtain ⟨x, hx⟩ : ∃ x, x = nxs[k] := ⟨_, rfl⟩
          obtain ⟨q, hq⟩ : ∃ q, q = R[k] := ⟨_, rfl⟩
          obtain ⟨ys, hys⟩ : ∃ ys, ys = namesL nxs R k := ⟨_, rfl⟩
          rw [← hx] at c1 c2 c3 c4 c5 c6 c7 c8 c9 hX hownX cR hstep
          rw [← hq] at cR hstep
          rw [← hys] at hownX hstep hrl
          clear hx hq hys
          obtain ⟨za, zc, rfl⟩ := hownX.isSlice
          have d0 : (wr.alloc (.cells (eNd x).toArray 45)).cell? ⟨wr.heap.size, 0, none⟩ = some (.string x.Name) := by simp [go_sem]
          have i3 : decide (k < nxs.length) = true := decide_eq_true hkl
          have i4 : decide ((k : Int) < nxs.length) = true := decide_eq_true (by omega)
          cases q
          · have hst : namesL nxs R (k + 1) = ys := by rw [hstep.out]; simp
            go_wp2_with fail
            go_roundw
            case measure => simp [intOf]; omega
            case rel => exact ⟨k + 1, by omega, by go_num, hX, by rw [hst]; exact hownX⟩
          · have hst : namesL nxs R (k + 1) = ys ++ [x.Name] := by rw [hstep.out]; simp
            have h1c : ∀ u ∈ eStr x.Name, u.oneCell' = true := by simp [Value.oneCell']
            have hBs : (wr.alloc (.cells (eNd x).toArray 45)).heap.size = wr.heap.size + 1 := by simp
            go_wp2_with (at_builtin; go_must (refine wpList_pushB rfl _ _ 37 rfl 9 _ 1 16 undStrs infStr rfl (by decide) x.Name (fun _ => rfl) h1c _ ys rfl hownX (wr.heap.size + 1) rfl (by exact hBs) hrl (by decide) hX.size _ rfl ?_); intro g3 cap3 w1 hown1 hbg1 hgl1 hb1 hc11 hc21)
            have hbb := hX.trans hb1
            go_wp2_with fail
            go_roundw
            case measure => simp [intOf]; omega
            case rel => exact ⟨k + 1, by omega, by go_num, hbb, by rw [hst]; exact hown1⟩
        · obtain rfl : k = nxs.length := by omega
          have hbw : Below w.heap.size w wr := HB.out.trans (hb.mono HB.out.size)
          have hS := hown.isL (fun _ => rfl)
          go_wp2_with fail
          go_ret2
          exact ⟨⟨_, rfl, by have h := HR.out; rw [h] at hS; exact hS⟩, hbw⟩

end Go.Proofs.YtlcfnbnpkcjjlaaGreat
