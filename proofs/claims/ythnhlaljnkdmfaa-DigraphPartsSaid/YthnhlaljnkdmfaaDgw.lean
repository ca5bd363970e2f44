/- The least path by the distances: digraph.walk. Conditions: the distances are the shortest lengths. -/
import Derived.Test.YthnhlaljnkdmfaaDgq
namespace Go.Proofs.Ythnhlaljnkdmfaa
open Go.RowKit
set_option linter.unusedVariables false
set_option linter.unusedSimpArgs false

theorem idxFrom_at {α : Type} (p : α → Bool) : ∀ (xs : List α) (i q : Nat) (hq : q < xs.length), p xs[q] = true → (∀ (j : Nat) (_ : j < q) (hj : j < xs.length), p xs[j] = false) → idxFrom p xs i = ((i + q : Nat) : Int)
  | x :: r, i, 0, _, hp, _ => by
    simp only [List.getElem_cons_zero] at hp
    simp [idxFrom, hp]
  | x :: r, i, q + 1, hq, hp, hn => by
    have h0 := hn 0 (by omega) (by simp)
    simp only [List.getElem_cons_zero] at h0
    have := idxFrom_at p r (i + 1) q (by simpa using hq) (by simpa using hp) (fun j hj hjl => by
      have h1 := hn (j + 1) (by omega) (by simpa using hjl)
      rw [List.getElem_cons_succ] at h1
      exact h1)
    simp only [idxFrom, h0]
    rw [show i + (q + 1) = i + 1 + q by omega]
    simpa using this

set_option maxHeartbeats 1000000 in
theorem walk1_any (D : List Int) (b low : Nat) (left : Int) (k : Nat) (hk : k < D.length) (LB BB DB FB : Nat) (dv : Value) (w : World) (h1 : w.cell? ⟨LB, 0, none⟩ = some (.int .i64 (low : Int))) (h2 : w.cell? ⟨BB, 0, none⟩ = some (.int .i64 (b : Int))) (h3 : w.cell? ⟨DB, 0, none⟩ = some dv) (h4 : w.cell? ⟨FB, 0, none⟩ = some (.int .i64 left)) (hD : IsInts w dv D) :
    Calls Try.prog 64 #[.int .i64 (k : Int), .pointer (some ⟨LB, 0, none⟩), .pointer (some ⟨BB, 0, none⟩), .pointer (some ⟨DB, 0, none⟩), .pointer (some ⟨FB, 0, none⟩)] w fun e w' => e = .returned (.bool (Gp.goP D b low left k)) ∧ Below w.heap.size w w' := by
  obtain ⟨da, dc, rfl, hcap, hbig, hs⟩ := hD
  obtain ⟨db, dof, rfl, c1⟩ := hs.int k hk
  have hg : Gp.goP D b low left k = (decide (low ≤ k) && !(k == b) && (D[k] == left)) := by
    unfold Gp.goP; rw [getD_at hk]
  rw [hg]
  clear hg hs
  generalize D[k] = x at *
  cases c5 : decide (low ≤ k)
  · have c5' : decide ((low : Int) ≤ k) = false := by simp at c5 ⊢; exact c5
    go_enter Try.func64, Try.ntmps64
    go_wp2_with fail
    go_quiet (fail)
    go_wp2_with fail
    go_ret
    exact ⟨rfl, by repeat' (first | exact Below.refl _ _ | assumption | refine Below.more ?_ ?_ _ | refine Below.alloc ?_ ?_ _ | refine Below.drew ?_ | refine below_drewN ?_ _ | refine Below.setCell ?_ ?_ _ | exact Below.size (by assumption) | (simp [go_sem, size_more]; done) | (simp [go_sem, size_more]; omega))⟩
  · have c5' : decide ((low : Int) ≤ k) = true := by simp at c5 ⊢; exact c5
    by_cases c6 : k = b
    · subst c6
      have c7 : (k == k) = true := by simp
      go_enter Try.func64, Try.ntmps64
      go_wp2_with fail
      go_quiet (fail)
      go_wp2_with fail
      go_ret
      exact ⟨ret_bool (by simp), by repeat' (first | exact Below.refl _ _ | assumption | refine Below.more ?_ ?_ _ | refine Below.alloc ?_ ?_ _ | refine Below.drew ?_ | refine below_drewN ?_ _ | refine Below.setCell ?_ ?_ _ | exact Below.size (by assumption) | (simp [go_sem, size_more]; done) | (simp [go_sem, size_more]; omega))⟩
    · have c7 : (k == b) = false := by simpa using c6
      have c8 : ((k : Int) == (b : Int)) = false := by rw [beq_eq_false_iff_ne]; omega
      have c9 : ((k : Int) != (b : Int)) = true := by rw [bne_iff_ne]; omega
      by_cases c10 : x = left
      · subst c10
        go_enter Try.func64, Try.ntmps64
        go_wp2_with fail
        go_quiet (fail)
        go_wp2_with fail
        go_ret
        exact ⟨ret_bool (by simp [c7]), by repeat' (first | exact Below.refl _ _ | assumption | refine Below.more ?_ ?_ _ | refine Below.alloc ?_ ?_ _ | refine Below.drew ?_ | refine below_drewN ?_ _ | refine Below.setCell ?_ ?_ _ | exact Below.size (by assumption) | (simp [go_sem, size_more]; done) | (simp [go_sem, size_more]; omega))⟩
      · have c11 : (x == left) = false := by simpa using c10
        go_enter Try.func64, Try.ntmps64
        go_wp2_with fail
        go_quiet (fail)
        go_wp2_with fail
        go_ret
        exact ⟨ret_bool (by simp [c7, c11]), by repeat' (first | exact Below.refl _ _ | assumption | refine Below.more ?_ ?_ _ | refine Below.alloc ?_ ?_ _ | refine Below.drew ?_ | refine below_drewN ?_ _ | refine Below.setCell ?_ ?_ _ | exact Below.size (by assumption) | (simp [go_sem, size_more]; done) | (simp [go_sem, size_more]; omega))⟩

theorem Wk_small {n : Nat} {E : Gp.Gr} {low b : Nat} {rd : Bool} {k x : Nat} (hv : Gp.vtx n E) (hb : b < n) (h : Gp.Dk E low b rd x k) : k ≤ n := by
  cases rd with
  | false => exact Nat.le_of_lt (h.small hv hb)
  | true =>
    by_cases hx : x = b
    · subst hx
      cases k with
      | zero => omega
      | succ k =>
        obtain ⟨y, h1, h2, h3, h4, h5⟩ := h.next
        rcases h5 with rfl | h5
        · omega
        · have hy : y ≠ x := fun e => by
            subst e
            exact h.2 k (by omega) h5.1
          have := ((Gp.dk_away hy).1 h5).small hv hb
          omega
    · exact Nat.le_of_lt (((Gp.dk_away hx).1 h).small hv hb)

set_option maxRecDepth 100000 in
set_option maxHeartbeats 8000000 in
theorem walk_any (n : Nat) (E : List (Nat × Nat)) (D : List Int) (a b low m : Nat) (rd : Bool) (B0 : Nat) (u dv : Value) (vs : List Value) (w : World) (hR : OwnR B0 25 3 eNat 1 w u vs ((List.range n).map (Gp.nxt n E))) (hD : IsInts w dv D)
    (hv : Gp.vtx n E) (hI : Gp.IsD n E low b rd D) (hn : n ≤ 1000000) (ha : a < n) (hb : b < n) (hm : D.getD a (-1) = ((m + 1 : Nat) : Int)) :
    Calls Try.prog 51 #[u, dv, .int .i64 (a : Int), .int .i64 (b : Int), .int .i64 (low : Int)] w fun e w' => (∃ v, e = .returned v ∧ Own w.heap.size 3 eNat 1 w' v (a :: Gp.wlkG n E D b low m a)) ∧ Below w.heap.size w w' := by
  have hvl : vs.length = n := by have := hR.len; simpa using this
  obtain ⟨rg, rc, rfl, _, hrg, _, _⟩ := hR.out.place (by omega)
  have HVL := Lib.hid hvl
  have HR := Lib.hid hR
  have hmn : m + 1 ≤ n := Wk_small hv hb (hI.of_get ha hm)
  have hD0 := hD
  obtain ⟨da, dc, rfl, hcap, hbig, hs⟩ := hD
  have hDl := Lib.hid hI.len
  have hal : a < D.length := by rw [hI.len]; exact ha
  obtain ⟨db, dof, rfl, c1⟩ := hs.int a hal
  have hda : D[a] = ((m + 1 : Nat) : Int) := by rw [← getD_at hal (-1)]; exact hm
  rw [hda] at c1
  have x9 : IntKind.i64.wrap (((m + 1 : Nat) : Int) - 1) = m := by rw [IntWalk.i64_in _ (by omega)]; omega
  have hmI : Hid (Gp.IsD n E low b rd D) := Lib.hid hI
  obtain ⟨M, hM⟩ : ∃ M, M = m + 1 := ⟨_, rfl⟩
  rw [← hM] at c1 x9 hmn hm
  have HMM := Lib.hid hM
  clear hs hda hM
  obtain ⟨w3, hw3⟩ : ∃ w3, w3 = ((w.alloc (.cells #[.slice (some ⟨db, dof, none⟩) D.length dc] 25)).alloc (.cells #[.int .i64 (b : Int)] 3)).alloc (.cells #[.int .i64 (low : Int)] 3) := ⟨_, rfl⟩
  have hsz3 : w3.heap.size = w.heap.size + 3 := by rw [hw3]; simp
  have hbw3 : Below w.heap.size w w3 := by rw [hw3]; repeat' (first | exact Below.refl _ _ | assumption | refine Below.more ?_ ?_ _ | refine Below.alloc ?_ ?_ _ | refine Below.drew ?_ | refine below_drewN ?_ _ | refine Below.setCell ?_ ?_ _ | exact Below.size (by assumption) | (simp [go_sem, size_more]; done) | (simp [go_sem, size_more]; omega))
  have e1 : w3.cell? ⟨w.heap.size, 0, none⟩ = some (.slice (some ⟨db, dof, none⟩) D.length dc) := by rw [hw3]; simp [go_sem]
  have e2 : w3.cell? ⟨w.heap.size + 1, 0, none⟩ = some (.int .i64 (b : Int)) := by rw [hw3]; simp [go_sem]
  have e3 : w3.cell? ⟨w.heap.size + 1 + 1, 0, none⟩ = some (.int .i64 (low : Int)) := by rw [hw3]; simp [go_sem]
  have HW3 := Lib.hid hw3
  have hO1 := (Own.fresh (enc := eNat) (k := 1) (fun _ => rfl) w3 (w.heap.size + 3) (by omega) 3 a #[.int .i64 a] rfl).below (w' := (w3.alloc (.cells #[.int .i64 (a : Int)] 3)).alloc (.cells #[.int .i64 (m : Int)] 3)) (alloc_below _ _)
  have hb5 : Below (w.heap.size + 3) w3 ((w3.alloc (.cells #[.int .i64 (a : Int)] 3)).alloc (.cells #[.int .i64 (m : Int)] 3)) := by
    have h1 := (alloc_below w3 (.cells #[.int .i64 (a : Int)] 3)).trans ((alloc_below (w3.alloc (.cells #[.int .i64 (a : Int)] 3)) (.cells #[.int .i64 (m : Int)] 3)).mono (by simp))
    rw [hsz3] at h1; exact h1
  have hF5 : ((w3.alloc (.cells #[.int .i64 (a : Int)] 3)).alloc (.cells #[.int .i64 (m : Int)] 3)).heap[w.heap.size + 1 + 1 + 1 + 1]? = some (.cells #[.int .i64 (m : Int)] 3 (0, 0)) := by
    have h1 := heap_alloc_new (w3.alloc (.cells #[.int .i64 (a : Int)] 3)) (.cells #[.int .i64 (m : Int)] 3)
    rw [show (w3.alloc (.cells #[.int .i64 (a : Int)] 3)).heap.size = w.heap.size + 1 + 1 + 1 + 1 by simp [hsz3]] at h1
    exact h1
  have hl5 : w.heap.size + 1 + 1 + 1 + 1 < ((w3.alloc (.cells #[.int .i64 (a : Int)] 3)).alloc (.cells #[.int .i64 (m : Int)] 3)).heap.size := by simp [hsz3]
  rw [hsz3] at hO1
  have c1x : (w3.alloc (.cells #[.int .i64 (a : Int)] 3)).cell? ⟨db, dof + a, none⟩ = some (.int .i64 (M : Int)) := cell_lt c1 (hbw3.trans ((alloc_below w3 _).mono (by omega)))
  rw [hw3] at hO1 hb5 hF5 hl5 c1x
  clear hw3 hR hvl
  go_enter Try.func51, Try.ntmps51
  go_wp2_with fail
  go_loopw [2, 11, 12] (fun s2 s11 s12 wr => ∃ (mm cur FB : Nat) (out : List Nat), s2 = .int .i64 cur ∧ s12 = .pointer (some ⟨FB, 0, none⟩) ∧ cur < n ∧ w.heap.size + 3 ≤ FB ∧ FB < wr.heap.size ∧ wr.heap[FB]? = some (.cells #[.int .i64 (mm : Int)] 3 (0, 0)) ∧ Below (w.heap.size + 3) w3 wr ∧ Own (w.heap.size + 3) 3 eNat 1 wr s11 out ∧ (∀ g, s11.ownBlock = some g → g ≠ FB) ∧ Hid (out.length + mm = M) ∧ Hid (D.getD cur (-1) = ((mm + 1 : Nat) : Int)) ∧ Hid (out ++ Gp.wlkG n E D b low mm cur = a :: Gp.wlkG n E D b low m a)) (fun _ s11 _ _ => M + 1 - vLen s11)
  case atStart => exact ⟨m, a, w.heap.size + 1 + 1 + 1 + 1, [a], rfl, rfl, ha, by omega, hl5, hF5, by rw [HW3.out]; exact hb5, hO1, fun g hg => by simp only [Value.ownBlock, Option.some.injEq] at hg; omega, Lib.hid (by simp; have := HMM.out; omega), Lib.hid (by rw [hm, HMM.out]), Lib.hid rfl⟩
  clear hO1 hb5 hF5 hl5 hm c1 x9 c1x
  case round =>
    obtain ⟨mm, cur, FB, out, rfl, rfl, hcn, hFB, hFl, hF, hb, HU, hsep, HLm, HDc, HT⟩ := hrel
    obtain ⟨oa, oc, rfl⟩ := HU.isSlice
    have cF : wr.cell? ⟨FB, 0, none⟩ = some (.int .i64 (mm : Int)) := by rw [blk_cell hF]; rfl
    have hbw : Below w.heap.size w wr := hbw3.trans (hb.mono (by omega))
    by_cases hmm : 0 < mm
    · obtain ⟨m', hm'⟩ : ∃ m', mm = m' + 1 := ⟨mm - 1, by omega⟩
      have hg1 : decide (0 < mm) = true := decide_eq_true hmm
      have hg2 : decide ((0 : Int) < mm) = true := decide_eq_true (by omega)
      have hcD : D.getD cur (-1) = ((m' + 2 : Nat) : Int) := by rw [HDc.out, hm']
      obtain ⟨g1, g2, g3, g4, g5⟩ := Gp.goN_is hv hmI.out hcn hcD
      obtain ⟨q, hq, hqk, hqp, hqn⟩ := Gp.find_at g1
      have hTn : Hid ((out ++ [Gp.goN n E D b low ((m' + 1 : Nat) : Int) cur]) ++ Gp.wlkG n E D b low m' (Gp.goN n E D b low ((m' + 1 : Nat) : Int) cur) = a :: Gp.wlkG n E D b low m a) := Lib.hid (by
        rw [← HT.out, hm', List.append_assoc]; rfl)
      have hkn := (Gp.mem_nxt.1 g2).1
      have hcv : cur < vs.length := by have := HVL.out; omega
      have q3 := fun W (hW : Below w.heap.size w W) => OwnR.cellv (HR.out.below hW) cur hcv
      have hrow := fun W (hW : Below w.heap.size w W) => (HR.out.below hW).row cur hcv (by simpa using hcn)
      simp only [List.getElem_map, List.getElem_range] at hrow
      obtain ⟨ka, kc, hke⟩ := (hrow w (Below.refl _ _)).isSlice
      simp only [hke] at q3 hrow
      clear hke
      have hidx : idxFrom (fun z : Int => Gp.goP D b low ((m' + 1 : Nat) : Int) z.toNat) (nzs (Gp.nxt n E cur)) 0 = (q : Int) := by
        have := idxFrom_at (fun z : Int => Gp.goP D b low ((m' + 1 : Nat) : Int) z.toNat) (nzs (Gp.nxt n E cur)) 0 q (by rw [ints_len]; exact hq) (by simpa [nzs] using hqp) (fun j hj hjl => by simpa [nzs] using hqn j hj (by rw [ints_len] at hjl; exact hjl))
        rw [this]; simp
      have hks : ∀ k ∈ Gp.nxt n E cur, k < n := fun k hk => (Gp.mem_nxt.1 hk).1
      generalize Gp.nxt n E cur = ks at *
      generalize Gp.goN n E D b low ((m' + 1 : Nat) : Int) cur = k2 at *
      have hcall := indexI 64 #[.pointer (some ⟨w.heap.size + 1 + 1, 0, none⟩), .pointer (some ⟨w.heap.size + 1, 0, none⟩), .pointer (some ⟨w.heap.size, 0, none⟩), .pointer (some ⟨FB, 0, none⟩)] (fun _ _ => by kernel_rfl) (fun z : Int => Gp.goP D b low ((m' + 1 : Nat) : Int) z.toNat) (nzs ks) (.slice ka ks.length kc) wr (isL_ints.2 ((hrow wr hbw).isL (fun _ => rfl))) (fun W hW x hx => by
        obtain ⟨k, hk, rfl⟩ := List.mem_map.1 hx
        have hbW := hb.trans (hW.mono (by have := hb.size; omega))
        have hbwW : Below w.heap.size w W := hbw3.trans (hbW.mono (by omega))
        exact walk1_any D b low ((m' + 1 : Nat) : Int) k (by have := hDl.out; have := hks k hk; omega) _ _ _ _ _ W ((hbW.cell (p := ⟨w.heap.size + 1 + 1, 0, none⟩) (by show w.heap.size + 1 + 1 < w.heap.size + 3; omega)).trans e3) ((hbW.cell (p := ⟨w.heap.size + 1, 0, none⟩) (by show w.heap.size + 1 < w.heap.size + 3; omega)).trans e2) ((hbW.cell (p := ⟨w.heap.size, 0, none⟩) (by show w.heap.size < w.heap.size + 3; omega)).trans e1) ((hW.cell (p := ⟨FB, 0, none⟩) hFl).trans (by rw [cF, hm'])) (hD0.mono hbwW))
      rw [hidx] at hcall
      have q3r := q3 wr hbw
      have x9 : IntKind.i64.wrap ((mm : Int) - 1) = m' := by rw [IntWalk.i64_in _ (by have := HLm.out; omega)]; omega
      have HM' := Lib.hid hm'
      clear hm' g1 g2 g3 g4 hidx hqp hqn hcD
      go_wp2_with fail
      refine Calls.to hcall ?_
      rintro e w6 rfl hb6
      have hb66 := hb.trans (hb6.mono (by have := hb.size; omega))
      have hbw6 : Below w.heap.size w w6 := hbw3.trans (hb66.mono (by omega))
      have q6 := q3 w6 hbw6
      obtain ⟨kb, ko, rfl, c6⟩ := (hrow w6 hbw6).isC.nat q hq
      rw [hqk] at c6
      have HU6 := HU.below hb6
      have hF6 : w6.heap[FB]? = some (.cells #[.int .i64 (mm : Int)] 3 (0, 0)) := (hb6.block FB hFl).trans hF
      have hFl6 : FB < w6.heap.size := by have := hb6.size; omega
      have hs6 : w.heap.size + 3 ≤ w6.heap.size := by omega
      have hol : out.length < 2147483648 := by have := HLm.out; omega
      have hqi : (0 : Int) ≤ q := by omega
      have hqi2 : (q : Int) < ks.length := by omega
      clear hcall q3 hrow q3r HU hF hb hb6 cF hbw hqk
      go_wp2_with (at_builtin; go_must (refine wpList_pushR rfl _ _ 25 rfl 3 _ 1 8 undInts infInt rfl (by decide) k2 (fun _ => rfl) (by simp [Value.oneCell']) _ out rfl HU6 w6.heap.size rfl rfl hol (by decide) hs6 _ rfl ?_); intro g7 cap7 w7 hR7; have hF7 : w7.heap[FB]? = some (.cells #[.int .i64 (mm : Int)] 3 (0, 0)) := (hR7.grown.block FB hFl6 (fun e => hsep FB e.symm rfl)).trans hF6; have cF7 : w7.cell? ⟨FB, 0, none⟩ = some (.int .i64 (mm : Int)) := by (rw [blk_cell hF7]; rfl))
      have hb7 := hb66.trans (hR7.below HU6 hs6)
      have HU7 := hR7.own
      have hs7 : w.heap.size + 3 ≤ w7.heap.size := by have := hR7.grown.size; omega
      have HU8 := HU7.below (alloc_below w7 (.cells #[.int .i64 (m' : Int)] 3))
      have hb8 := hb7.trans ((alloc_below w7 (.cells #[.int .i64 (m' : Int)] 3)).mono hs7)
      have hF8 := heap_alloc_new w7 (.cells #[.int .i64 (m' : Int)] 3)
      have hsep8 : ∀ g, (Value.slice (some ⟨g7, 0, none⟩) (out.length + 1) cap7).ownBlock = some g → g ≠ w7.heap.size := fun g hg => by
        have := (HU7.lt g hg).2; omega
      clear hR7 HU6 hF6 hF7 cF7 HU7 hb7 hsep
      go_roundw
      case measure =>
        have := HLm.out
        simp [vLen]; omega
      case rel =>
        refine ⟨m', k2, w7.heap.size, out ++ [k2], by go_num, rfl, hkn, hs7, by simp, hF8, hb8, ?_, hsep8, Lib.hid (by have := HLm.out; have := HM'.out; simp; omega), Lib.hid g5, hTn⟩
        exact HU8
    · obtain rfl : mm = 0 := by omega
      have hfin : out = a :: Gp.wlkG n E D b low m a := by
        rw [← HT.out]; simp [Gp.wlkG]
      have HFn := Lib.hid hfin
      clear hfin
      go_wp2_with fail
      go_ret
      exact ⟨⟨_, rfl, by rw [← HFn.out]; exact HU.base (by omega)⟩, hbw⟩

end Go.Proofs.Ythnhlaljnkdmfaa
