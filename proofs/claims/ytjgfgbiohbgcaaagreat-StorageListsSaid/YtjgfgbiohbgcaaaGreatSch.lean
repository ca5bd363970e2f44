/- A function for each node and its number: storage.each, for any two functions that are called so. Conditions: the arguments read as data. -/
import Derived.Test.YtjgfgbiohbgcaaaGreatNw
import Derived.Test.YtjgfgbiohbgcaaaGreatLst
import Derived.Test.YtjgfgbiohbgcaaaGreatTpi
namespace Go.Proofs.YtjgfgbiohbgcaaaGreat
open Go.RowKit
set_option linter.unusedVariables false
set_option linter.unusedSimpArgs false

def fitGo (fit : Nd → Int → Bool) : List Nd → List Int → Bool
  | x :: xs, v :: vs => fit x v && fitGo fit xs vs
  | _, _ => true
def eachM (fit : Nd → Int → Bool) (val : Nd → Int → Int) (n : Net) (l : List Int) : List Int × Int :=
  if netB n = false then ([], 1) else if ¬ l.length = n.Ns.xs.length then ([], 3) else if fitGo fit n.Ns.xs l = false then ([], 2) else (List.zipWith val n.Ns.xs l, 0)
theorem fitGo_at {fit : Nd → Int → Bool} : ∀ {ns : List Nd} {l : List Int}, fitGo fit ns l = true → ∀ k (h1 : k < ns.length) (h2 : k < l.length), fit ns[k] l[k] = true
  | x :: xs, v :: vs, h, 0, _, _ => by simp [fitGo] at h; exact h.1
  | x :: xs, v :: vs, h, k + 1, h1, h2 => by
    simp [fitGo] at h
    simpa using fitGo_at h.2 k (by simpa using h1) (by simpa using h2)
  | [], _, _, k, h1, _ => by simp at h1
  | _ :: _, [], _, k, _, h2 => by simp at h2

/-- A function of the program that is called with a node and a number. -/
structure NdFun (g : Nat) (w : World) (res : Nd → Int → Value) (ok : Nd → Int → Prop) : Prop where
  ent : ∀ args w, (callFunc g args).run Tryz.prog w = .ok (.enter g args) w
  run : ∀ W, Below w.heap.size w W → ∀ x v, gNd W x → ok x v → Calls Tryz.prog g #[vNd x, .int .i64 v] W fun e w' => e = .returned (res x v) ∧ Below W.heap.size W w'

set_option maxRecDepth 100000 in
set_option maxHeartbeats 8000000 in
theorem each_any (g1 g2 : Nat) (n : Net) (l : Sl Int) (fit : Nd → Int → Bool) (val : Nd → Int → Int) (w : World) (hg : gNet w n) (hl : gInts w l)
    (hf : NdFun g1 w (fun x v => .bool (fit x v)) (fun x _ => ndB x = true)) (hd : NdFun g2 w (fun x v => .tuple #[.int .i64 (val x v), .int .i64 0]) (fun x v => ndB x = true ∧ fit x v = true)) :
    Calls Tryz.prog 52 #[vNet n, vSl l, .func (.func g1) #[] #[], .func (.func g2) #[] #[]] w fun e w' =>
      (∃ v, e = .returned (.tuple #[v, .int .i64 (eachM fit val n l.xs).2]) ∧ IsInts w' v (eachM fit val n l.xs).1) ∧ Below w.heap.size w w' := by
  obtain ⟨⟨na, nc, nxs⟩, ⟨la, lc, lxs⟩⟩ := n
  obtain ⟨va, vc, vs⟩ := l
  have hb0 : Below w.heap.size w (w.alloc (.cells #[.slice na nxs.length nc, .slice la lxs.length lc] 42)) := (Below.refl _ _).alloc (Nat.le_refl _) _
  have hva := nvalid_any ⟨⟨na, nc, nxs⟩, ⟨la, lc, lxs⟩⟩ _ (rdNet.mono hg hb0)
  obtain ⟨⟨R, E⟩, hres⟩ : ∃ r, eachM fit val ⟨⟨na, nc, nxs⟩, ⟨la, lc, lxs⟩⟩ vs = r := ⟨_, rfl⟩
  simp only at hres ⊢
  rw [hres]
  obtain ⟨vb, hvb⟩ : ∃ vb, netB ⟨⟨na, nc, nxs⟩, ⟨la, lc, lxs⟩⟩ = vb := ⟨_, rfl⟩
  rw [hvb] at hva
  have HR : Hid ((R, E) = if vb = false then ([], 1) else if ¬ vs.length = nxs.length then ([], 3) else if fitGo fit nxs vs = false then ([], 2) else (List.zipWith val nxs vs, 0)) := Lib.hid (hres.symm.trans (by unfold eachM; rw [hvb]))
  have HND : Hid (vb = true → ∀ k (h : k < nxs.length), ndB nxs[k] = true) := Lib.hid (fun h k hk => (netB_nd (hvb.trans h) k hk).1)
  have HLB : Hid (vb = true → nxs.length ≤ 300) := Lib.hid (fun h => by have := hvb.trans h; simp [netB] at this; omega)
  have hV : IsC eInt 1 w va vs := hl.2.2.1
  have HBV : Hid (vs.length ≤ 9223372036854775807) := Lib.hid (Nat.le_trans hl.1 hl.2.1)
  have hN := hg.1.2.2
  simp only at hN
  have HE0 := Lib.hid (boxNet w · 42 ⟨⟨na, nc, nxs⟩, ⟨la, lc, lxs⟩⟩ _ rfl _ rfl)
  clear hres hvb hg hl
  simp only [vNet, vSl] at hva ⊢
  have ent1 := hf.ent
  have ent2 := hd.ent
  cases vb
  · have h2 := HR.out
    rw [if_pos rfl] at h2
    simp only [Prod.mk.injEq] at h2
    obtain ⟨rfl, rfl⟩ := h2
    clear HR hV hN
    go_enter Tryz.func52, Tryz.ntmps52
    go_wp2_with fail
    refine Calls.go hb0 hva ?_
    rintro e w1 rfl _ hb1
    go_wp2_with fail
    go_ret2
    exact ⟨⟨_, rfl, IsL.nil _ _ _⟩, hb1⟩
  by_cases hlen : vs.length = nxs.length
  rotate_left
  · have h2 := HR.out
    rw [if_neg (by simp), if_pos hlen] at h2
    simp only [Prod.mk.injEq] at h2
    obtain ⟨rfl, rfl⟩ := h2
    have q := bneT (a := (vs.length : Int)) (b := (nxs.length : Int)) (by omega)
    have q' : (vs.length != nxs.length) = true := by simpa using hlen
    clear HR hV hN hlen
    go_enter Tryz.func52, Tryz.ntmps52
    go_wp2_with fail
    refine Calls.go hb0 hva ?_
    rintro e w1 rfl hb1' hb1
    obtain ⟨e0, e1⟩ := HE0.out w1 (hb1'.mono (by simp))
    simp only [vSl] at e0 e1
    clear hb1'
    go_wp2_with fail
    go_ret2
    exact ⟨⟨_, rfl, IsL.nil _ _ _⟩, hb1⟩
  have q := bneF (a := (vs.length : Int)) (b := (nxs.length : Int)) (by omega)
  have q' : (vs.length != nxs.length) = false := by simpa using hlen
  have h2 := HR.out
  rw [if_neg (by simp), if_neg (by simpa using hlen)] at h2
  have HR := Lib.hid h2
  have HLN := Lib.hid hlen
  have hND := HND.out rfl
  clear h2 hlen HND
  go_enter Tryz.func52, Tryz.ntmps52
  go_wp2_with fail
  refine Calls.go hb0 hva ?_
  rintro e w1 rfl hb1' hb1
  have hbN : Below (w.heap.size + 1) (w.alloc (.cells #[.slice na nxs.length nc, .slice la lxs.length lc] 42)) w1 := hb1'.mono (by simp)
  obtain ⟨e0, e1⟩ := HE0.out w1 hbN
  simp only [vSl] at e0 e1
  clear hb1' hva
  go_wp2_with fail
  go_loopw [10, 11, 31] (fun _ _ s31 wr => ∃ k : Nat, k ≤ nxs.length ∧ s31 = .int .i64 k ∧ Below (w.heap.size + 1) (w.alloc (.cells #[.slice na nxs.length nc, .slice la lxs.length lc] 42)) wr ∧ Hid (fitGo fit nxs vs = fitGo fit (nxs.drop k) (vs.drop k))) (fun _ _ i _ => nxs.length - (intOf i).toNat)
  case atStart => exact ⟨0, Nat.zero_le _, rfl, hbN, rfl⟩
  clear hb1 hbN e0 e1
  case round =>
    as_aux_lemma =>
    obtain ⟨k, hk, rfl, hb, hm⟩ := hrel
    have hbw : Below w.heap.size w wr := hb0.trans (hb.mono (by omega))
    obtain ⟨e0, e1⟩ := HE0.out wr hb
    simp only [vSl] at e0 e1
    by_cases hlt : k < nxs.length
    · have kv : k < vs.length := by have := HLN.out; omega
      obtain ⟨b, off, rfl, c0, c1, c2, c3, c4, c5, c6, c7, c8⟩ := (hN.1.mono hbw).nd k hlt
      obtain ⟨vb, vo, rfl, cv⟩ := (hV.mono hbw).int k kv
      have gx := rdNd.mono (hN.2 _ (List.getElem_mem hlt)) hbw
      have hnk := hND k hlt
      have hstep : Hid (fitGo fit (nxs.drop k) (vs.drop k) = (fit nxs[k] vs[k] && fitGo fit (nxs.drop (k + 1)) (vs.drop (k + 1)))) := by
        rw [List.drop_eq_getElem_cons hlt, List.drop_eq_getElem_cons kv]; rfl
      have i1 : (0 : Int) ≤ k := by omega
      have i2 : (k : Int) < vs.length := by omega
      have x1 : IntKind.i64.wrap ((k : Int) + 1) = k + 1 := IntWalk.i64_in _ (by have := HBV.out; omega)
      have hff := fun W (hW : Below w.heap.size w W) (gW : gNd W (nxs[k]'hlt)) => hf.run W hW (nxs[k]'hlt) (vs[k]'kv) gW hnk
      clear hN hV hND hf hd
      generalize nxs[k] = x at *
      generalize vs[k] = v at *
      obtain ⟨fb, hfb⟩ : ∃ fb, fit x v = fb := ⟨_, rfl⟩
      simp only [hfb] at hstep hff
      clear hfb
      have hbA := hbw.alloc hbw.size (.cells #[.string x.Name, .int .i64 x.Kind, .int .i64 x.AX, .int .i64 x.AY, .int .i64 x.Inv, .int .i64 x.Gr, .slice x.Sh.a x.Sh.xs.length x.Sh.cap, .bool x.Pro, .int .i64 x.Res] 27)
      have gx1 := rdNd.mono gx (alloc_below wr (.cells #[.string x.Name, .int .i64 x.Kind, .int .i64 x.AX, .int .i64 x.AY, .int .i64 x.Inv, .int .i64 x.Gr, .slice x.Sh.a x.Sh.xs.length x.Sh.cap, .bool x.Pro, .int .i64 x.Res] 27))
      have hbB := hb.alloc (by simpa using hb.size) (.cells #[.string x.Name, .int .i64 x.Kind, .int .i64 x.AX, .int .i64 x.AY, .int .i64 x.Inv, .int .i64 x.Gr, .slice x.Sh.a x.Sh.xs.length x.Sh.cap, .bool x.Pro, .int .i64 x.Res] 27)
      cases fb
      · have h2 := HR.out
        rw [if_pos (by rw [hm.out, hstep.out]; rfl)] at h2
        simp only [Prod.mk.injEq] at h2
        obtain ⟨rfl, rfl⟩ := h2
        clear HR hm hstep
        go_wp2_with fail
        refine wp_region_more_lit (by kernel_rfl) (by kernel_rfl) ?_
        repeat (go_big_quiet_step ((exact Calls.more_of (hff _ (hbA.trans ((below_more _ _).mono hbA.size)) (rdNd.mono gx1 (below_more _ _))))))
        refine wpQuiet_nil ?_
        intro _ hwq
        obtain ⟨xq, hwq⟩ := hwq
        subst hwq
        go_wp2_with fail
        go_ret2
        exact ⟨⟨_, rfl, IsL.nil _ _ _⟩, Below.more hbA hbA.size xq⟩
      · have HM := Lib.hid (hm.out.trans (hstep.out.trans (Bool.true_and _)))
        clear hm hstep HR
        go_wp2_with fail
        refine wp_region_more_lit (by kernel_rfl) (by kernel_rfl) ?_
        repeat (go_big_quiet_step ((exact Calls.more_of (hff _ (hbA.trans ((below_more _ _).mono hbA.size)) (rdNd.mono gx1 (below_more _ _))))))
        refine wpQuiet_nil ?_
        intro _ hwq
        obtain ⟨xq, hwq⟩ := hwq
        subst hwq
        have hbC := Below.more hbB (by have h := hbB.size; simp at h ⊢; omega) xq
        go_wp2_with fail
        go_roundw
        case measure => simp [intOf]; omega
        case rel => exact ⟨k + 1, by omega, by go_num, hbC, HM.out⟩
    · have HFT : Hid (fitGo fit nxs vs = true) := by
        refine Lib.hid (hm.out.trans ?_)
        rw [List.drop_eq_nil_of_le (by omega : nxs.length ≤ k)]
        cases vs.drop k <;> rfl
      have h2 := HR.out
      rw [if_neg (by rw [HFT.out]; simp)] at h2
      simp only [Prod.mk.injEq] at h2
      obtain ⟨rfl, rfl⟩ := h2
      clear HR hm hf
      go_wp2_with fail
      go_loopw [12, 48] (fun s12 s48 wr => ∃ k : Nat, k ≤ nxs.length ∧ s48 = .int .i64 k ∧ Own (w.heap.size + 1) 3 eInt 1 wr s12 ((List.zipWith val nxs vs).take k) ∧ Below (w.heap.size + 1) (w.alloc (.cells #[.slice na nxs.length nc, .slice la lxs.length lc] 42)) wr) (fun _ i _ => nxs.length - (intOf i).toNat)
      case atStart => exact ⟨0, Nat.zero_le _, rfl, by rw [List.take_zero]; exact World.ownsRow_nil _ _ _ _, hb⟩
      clear hb hbw e0 e1
      case round =>
        as_aux_lemma =>
        obtain ⟨k, hk, rfl, hown, hb⟩ := hrel
        have hbw : Below w.heap.size w wr := hb0.trans (hb.mono (by omega))
        obtain ⟨e0, e1⟩ := HE0.out wr hb
        simp only [vSl] at e0 e1
        have hol : ((List.zipWith val nxs vs).take k).length = k := by rw [List.length_take, List.length_zipWith]; have := HLN.out; omega
        by_cases hlt : k < nxs.length
        · have kv : k < vs.length := by have := HLN.out; omega
          obtain ⟨b, off, rfl, c0, c1, c2, c3, c4, c5, c6, c7, c8⟩ := (hN.1.mono hbw).nd k hlt
          obtain ⟨vb, vo, rfl, cv⟩ := (hV.mono hbw).int k kv
          have gx := rdNd.mono (hN.2 _ (List.getElem_mem hlt)) hbw
          have hnk := hND k hlt
          have HT : Hid ((List.zipWith val nxs vs).take (k + 1) = (List.zipWith val nxs vs).take k ++ [val nxs[k] vs[k]]) := by
            show _ = _
            rw [List.take_succ_eq_append_getElem (by rw [List.length_zipWith]; omega)]
            simp
          have i1 : (0 : Int) ≤ k := by omega
          have i2 : (k : Int) < vs.length := by omega
          have x1 : IntKind.i64.wrap ((k : Int) + 1) = k + 1 := IntWalk.i64_in _ (by have := HBV.out; omega)
          have hdd := fun W (hW : Below w.heap.size w W) (gW : gNd W (nxs[k]'hlt)) => hd.run W hW (nxs[k]'hlt) (vs[k]'kv) gW ⟨hnk, fitGo_at HFT.out k hlt kv⟩
          have HBN := Lib.hid (show k < 9223372036854775807 from by have := HBV.out; omega)
          clear hN hV hND hd HFT
          generalize nxs[k] = x at *
          generalize vs[k] = v at *
          generalize (List.zipWith val nxs vs).take k = ys at *
          obtain ⟨R, hR⟩ : ∃ R, val x v = R := ⟨_, rfl⟩
          simp only [hR] at HT hdd
          clear hR
          have hbA := hbw.alloc hbw.size (.cells #[.string x.Name, .int .i64 x.Kind, .int .i64 x.AX, .int .i64 x.AY, .int .i64 x.Inv, .int .i64 x.Gr, .slice x.Sh.a x.Sh.xs.length x.Sh.cap, .bool x.Pro, .int .i64 x.Res] 27)
          have gx1 := rdNd.mono gx (alloc_below wr (.cells #[.string x.Name, .int .i64 x.Kind, .int .i64 x.AX, .int .i64 x.AY, .int .i64 x.Inv, .int .i64 x.Gr, .slice x.Sh.a x.Sh.xs.length x.Sh.cap, .bool x.Pro, .int .i64 x.Res] 27))
          have hbB := hb.alloc (by simpa using hb.size) (.cells #[.string x.Name, .int .i64 x.Kind, .int .i64 x.AX, .int .i64 x.AY, .int .i64 x.Inv, .int .i64 x.Gr, .slice x.Sh.a x.Sh.xs.length x.Sh.cap, .bool x.Pro, .int .i64 x.Res] 27)
          have hownA := hown.below (alloc_below wr (.cells #[.string x.Name, .int .i64 x.Kind, .int .i64 x.AX, .int .i64 x.AY, .int .i64 x.Inv, .int .i64 x.Gr, .slice x.Sh.a x.Sh.xs.length x.Sh.cap, .bool x.Pro, .int .i64 x.Res] 27))
          have HOL := Lib.hid hol
          clear hol hown
          go_wp2_with fail
          refine wp_region_more_lit (by kernel_rfl) (by kernel_rfl) ?_
          repeat (go_big_quiet_step ((exact Calls.more_of (hdd _ (hbA.trans ((below_more _ _).mono hbA.size)) (rdNd.mono gx1 (below_more _ _))))))
          refine wpQuiet_nil ?_
          intro _ hwq
          obtain ⟨xq, hwq⟩ := hwq
          subst hwq
          have hbC := Below.more hbB (by have h := hbB.size; simp at h ⊢; omega) xq
          have hownC := hownA.below (below_more _ xq)
          have hsz : w.heap.size + 1 ≤ (more (wr.alloc (.cells #[.string x.Name, .int .i64 x.Kind, .int .i64 x.AX, .int .i64 x.AY, .int .i64 x.Inv, .int .i64 x.Gr, .slice x.Sh.a x.Sh.xs.length x.Sh.cap, .bool x.Pro, .int .i64 x.Res] 27)) xq).heap.size := by have h := hbC.size; simp at h ⊢; omega
          have hyl : ys.length < 2147483648 := by have h1 := HOL.out; have h2 := HLB.out trivial; omega
          clear hbA gx1 gx hbB hownA hdd c0 c1 c2 c3 c4 c5 c6 c7 c8 cv
          generalize more (wr.alloc (.cells #[.string x.Name, .int .i64 x.Kind, .int .i64 x.AX, .int .i64 x.AY, .int .i64 x.Inv, .int .i64 x.Gr, .slice x.Sh.a x.Sh.xs.length x.Sh.cap, .bool x.Pro, .int .i64 x.Res] 27)) xq = W2 at *
          go_wp2_with (at_builtin; go_must (refine wpList_pushB rfl _ _ 43 rfl 3 _ 1 8 undInts infInt rfl (by decide) R (fun _ => rfl) (by simp [Value.oneCell']) _ ys rfl hownC _ rfl rfl hyl (by decide) hsz _ rfl ?_); intro g3 cap3 w1 hown1 hbg1 hgl1 hb1 hc11 hc21)
          go_roundw
          case measure => simp [intOf]; omega
          case rel => exact ⟨k + 1, by omega, by go_num, by rw [HT.out]; exact hown1, hbC.trans hb1⟩
        · obtain rfl : k = nxs.length := by omega
          rw [List.take_of_length_le (by rw [List.length_zipWith]; omega)] at hown
          have is := hown.isL (fun _ => rfl)
          obtain ⟨aO, cO, rfl⟩ := hown.isSlice
          clear hol hown
          go_wp2_with fail
          go_ret2
          exact ⟨⟨_, rfl, is⟩, hbw⟩

end Go.Proofs.YtjgfgbiohbgcaaaGreat
