/- planner's Values and certificate.Make. Conditions: the plan reads as data. -/
import Derived.Test.YtoiakijmbghhlaaGreatYpg
namespace Go.Proofs.YtoiakijmbghhlaaGreat
open Go.RowKit
set_option linter.unusedVariables false
set_option linter.unusedSimpArgs false

section
variable {P : Program} {o : Oper} {a : Act} {Q : Exit → Act → World → Prop}
theorem wp_push2 {K : Act → World → Prop} (s x : Operand) (t : TypeId)
    (hop : o.op = .call { callee := .builtin .append, args := #[s, x], argTypes := #[t, t] }) (e : TypeId) (ht : P.underlying t = some (.slice e))
    (hinfo : (P.info? e).map (fun i => (i.zero, i.size, i.bytes)) = some (some (.int .i64 0), 1, 8))
    {w : World} {base : Nat} (y1 y2 : Int) (v : Value) (xs : List Int) (hs : a.eval s = v) (hown : Own base e eInt 1 w v xs)
    (B : Nat) (hx : a.eval x = .slice (some ⟨B, 0, none⟩) 2 2) (hlen : xs.length < 2147483648) (hbase : base ≤ w.heap.size) (hbox : w.heap[B]? = some (.cells #[.int .i64 y1, .int .i64 y2] e (0, 0)))
    (h : ∀ g cap w', RowStep base e eInt 1 w w' v (.slice (some ⟨g, 0, none⟩) (xs.length + 2) cap) (xs ++ [y1, y2]) → K (a.put o.dst (.slice (some ⟨g, 0, none⟩) (xs.length + 2) cap)) w') : o.wp P a w K Q := by
  obtain ⟨i, hi, hz0, hz1, hz2⟩ := info_parts hinfo
  obtain ⟨v', w', hr, h2, h3, h4, h5⟩ := run_append_own_at (P := P) w base t o.type e i (.int .i64 0) 1 8 ht hi hz0 hz1 hz2 rfl (by decide) v xs.length (xs.flatMap eInt) hown ⟨B, 0, none⟩ 2 2 [.int .i64 y1, .int .i64 y2] (by simp) (by
    intro j u hu
    have hadd : (⟨B, 0, none⟩ : Addr).add j = ⟨B, j, none⟩ := by unfold Addr.add; split <;> simp_all
    rw [hadd]
    simp only [World.cell?, hbox]
    simpa using hu) (by intro u hu; simp at hu; rcases hu with rfl | rfl <;> rfl) (by simp only [maxLen]; omega) (by omega) hbase
  have hown2 : Own base e eInt 1 w' v' (xs ++ [y1, y2]) := by
    unfold Own
    simpa using h2
  obtain ⟨g, cap, rfl, hbg, hlt, hc1, hc2⟩ := hown2.place (by simp)
  simp only [List.length_append, List.length_cons, List.length_nil, Nat.zero_add, Nat.reduceAdd] at hown2 hr h5
  unfold Oper.wp execOp
  simp only [hop, resolve, invoke, builtin, Sem.run_bind, Sem.run_pure, Result.andThen_ok, List.map_toArray, List.map_cons, List.map_nil, hs, hx, hr]
  refine h g cap w' ⟨hown2, h3, fun g' hg' => ?_⟩
  rcases h5 with h5 | h5
  · left; rw [← h5]; exact hg'
  · right
    rw [h5] at hg'
    simp only [Option.some.injEq] at hg'
    omega
theorem wpList_push2 {ops : Array Oper} {rest : List Oper} (hg : o.guard = none) (s x : Operand) (t : TypeId)
    (hop : o.op = .call { callee := .builtin .append, args := #[s, x], argTypes := #[t, t] }) (e : TypeId) (ht : P.underlying t = some (.slice e))
    (hinfo : (P.info? e).map (fun i => (i.zero, i.size, i.bytes)) = some (some (.int .i64 0), 1, 8))
    {w : World} {base : Nat} (y1 y2 : Int) (v : Value) (xs : List Int) (hs : a.eval s = v) (hown : Own base e eInt 1 w v xs)
    (B : Nat) (hx : a.eval x = .slice (some ⟨B, 0, none⟩) 2 2) (hB : w.heap.size = B) (hlen : xs.length < 2147483648) (hbase : base ≤ w.heap.size)
    (h : ∀ g cap w', RowStep base e eInt 1 w w' v (.slice (some ⟨g, 0, none⟩) (xs.length + 2) cap) (xs ++ [y1, y2]) → wpList P ops Q rest (a.put o.dst (.slice (some ⟨g, 0, none⟩) (xs.length + 2) cap)) w') :
    wpList P ops Q (o :: rest) a (w.alloc (.cells #[.int .i64 y1, .int .i64 y2] e)) := by
  subst hB
  refine wpList_plain hg fun K hK => wp_push2 s x t hop e ht hinfo y1 y2 v xs hs (hown.below ((Below.refl _ _).alloc (Nat.le_refl _) _)) w.heap.size hx hlen (by simp; omega) (heap_alloc_new w _) ?_
  intro g cap w' hR
  exact hK _ _ (h g cap w' hR.alloc)
end

/-- A row of a certificate, as the program lays it out. -/
noncomputable def rowC (p : PlD) (i : Nat) (row : List Int) : List Int := row.flatMap fun v => [v, (Pn.V (plOf p) (p.I.xs.drop i) v).getD (-1)]
theorem rowC_snoc (p : PlD) (i : Nat) (row : List Int) (v : Int) : rowC p i (row ++ [v]) = rowC p i row ++ [v, (Pn.V (plOf p) (p.I.xs.drop i) v).getD (-1)] := by
  simp [rowC]
theorem rowC_len (p : PlD) (i : Nat) (row : List Int) : (rowC p i row).length = 2 * row.length := by
  induction row with
  | nil => rfl
  | cons v r ih => simp only [rowC, List.flatMap_cons, List.length_append, List.length_cons, List.length_nil] at ih ⊢; omega
noncomputable def certI (p : PlD) (R : List (List Int)) (k : Nat) : List (List Int) := (List.range k).map fun i => rowC p i (R.getD i [])
theorem certI_succ (p : PlD) (R : List (List Int)) (k : Nat) : certI p R (k + 1) = certI p R k ++ [rowC p k (R.getD k [])] := by
  simp [certI, List.range_succ]
theorem certI_len (p : PlD) (R : List (List Int)) (k : Nat) : (certI p R k).length = k := by simp [certI]
inductive ValsR (p : PlD) (B : Nat) (w : World) : Value → Prop
  | bad : planB p = false → ValsR p B w (.tuple #[.slice none 0 0, .int .i64 1])
  | limit : planB p = true → ¬ Fits p → ValsR p B w (.tuple #[.slice none 0 0, .int .i64 6])
  | ok (R : List (List Int)) (u : Value) (us : List Value) : planB p = true → ChainI p R → R.length = p.I.xs.length + 1 → OwnR B 28 3 eInt 1 w u us (certI p R R.length) → ValsR p B w (.tuple #[u, .int .i64 0])

set_option maxRecDepth 100000 in
set_option maxHeartbeats 16000000 in
theorem pvals_any (p : PlD) (w : World) (hg : gPl w p) : Calls Tryz.prog 74 #[vPl p] w fun e w' => (∃ v, e = .returned v ∧ ValsR p w.heap.size w' v) ∧ Below w.heap.size w w' := by
  have hb0 : Below w.heap.size w (w.alloc (.cells (ePl p).toArray 68)) := (Below.refl _ _).alloc (Nat.le_refl _) _
  cases hP : planB p
  · have ht := tankOf_bad p _ (rdPl.mono hg hb0) hP
    have HP := Lib.hid hP
    clear hP
    go_enter Tryz.func74, Tryz.ntmps74
    go_wp2_with fail
    refine Calls.to ht ?_
    rintro e w1 rfl hb1
    have hbw := hb0.trans (hb1.mono hb0.size)
    go_wp2_with fail
    go_ret2
    exact ⟨⟨_, rfl, .bad HP.out⟩, hbw⟩
  have hp := planB_ok hP
  have ht := tankOf_ok p _ (rdPl.mono hg hb0) hP hp.tab hp.ll.2
  have HP := Lib.hid hP
  clear hP hg
  go_enter Tryz.func74, Tryz.ntmps74
  go_wp2_with fail
  refine Calls.to ht ?_
  rintro e w1 ⟨g, rfl, hT⟩ hb1
  have hbw := hb0.trans (hb1.mono hb0.size)
  obtain ⟨c0, _, _, _, _, _, _⟩ := boxPl w w1 68 p _ rfl _ rfl (hb1.mono (by simp))
  clear hb1 hb0 ht
  go_wp2_with fail
  refine Calls.to (preach_any p g w1 hT hp) ?_
  rintro e w2 h hb2
  have hbw2 := hbw.trans (hb2.mono hbw.size)
  have hT2 := hT.mono hb2
  clear hb2 hT c0
  rcases h with ⟨u, us, R, rfl, hR, hC, hRl⟩ | ⟨rfl, hnf⟩
  rotate_left
  · go_wp2_with fail
    go_ret2
    exact ⟨⟨_, rfl, .limit HP.out hnf⟩, hbw2⟩
  go_wp2_with fail
  refine Calls.to (pvalues_any p g _ u us R w2 hT2 hp hR hC hRl) ?_
  rintro e w3 ⟨bs, rfl, hVR⟩ hb3
  have hbw3 := hbw2.trans (hb3.mono hbw2.size)
  have hR3 := hR.below hb3
  have hbl : bs.length = R.length := by have := hVR.len; omega
  obtain ⟨m, hm⟩ : ∃ m, m = R.length := ⟨_, rfl⟩
  rw [← hm]
  obtain ⟨oa, oc, hoe⟩ := hR3.out.isSlice
  rw [show us.length = m from by rw [hm]; exact hR3.len] at hoe
  subst hoe
  have hm201 : m ≤ 201 := by have := hp.il; omega
  have HVR := Lib.hid hVR
  have HC := Lib.hid hC
  have HR := Lib.hid hR3
  have HRL := Lib.hid hRl
  have HM := Lib.hid hm
  have HBL := Lib.hid hbl
  clear hVR hm hR hC hRl hT2 hb3 hbl hR3
  go_wp2_with fail
  go_loopw [8, 37] (fun s8 s37 wr => ∃ (i : Nat) (us' : List Value), i ≤ m ∧ s37 = .int .i64 i ∧ Below w3.heap.size w3 wr ∧ OwnR w3.heap.size 28 3 eInt 1 wr s8 us' (certI p R i)) (fun _ s37 _ => m - (RowKit.intOf s37).toNat)
  case atStart => exact ⟨0, [], Nat.zero_le _, rfl, Below.refl _ _, OwnR.nil _ _ _ _ _ _⟩
  case round =>
    obtain ⟨i, us', hi, rfl, hb, hO⟩ := hrel
    obtain ⟨wo, hwo⟩ : ∃ wo, wo = wr := ⟨_, rfl⟩
    subst hwo
    have hbr := hbw3.trans (hb.mono hbw3.size)
    obtain ⟨pa, pc, hpe⟩ := hO.out.isSlice
    obtain ⟨pl, hpl⟩ : ∃ pl, pl = us'.length := ⟨_, rfl⟩
    rw [← hpl] at hpe
    subst hpe
    have HPL := Lib.hid hpl
    have HO := Lib.hid hO
    have hul : us'.length = i := by rw [hO.len, certI_len]
    have HUL := Lib.hid hul
    clear hpl hO hul
    by_cases him : i < m
    · have hiR : i < R.length := by rw [← HM.out]; exact him
      have hib : i < bs.length := by rw [HBL.out]; exact hiR
      have hrg := HR.out.out.place (by have := HR.out.len; omega)
      obtain ⟨rg, rc, hv, _⟩ := hrg
      simp only [Value.slice.injEq] at hv
      obtain ⟨rfl, -, -⟩ := hv
      obtain ⟨la, lc, hrow⟩ := rowsAt HR.out i hiR
      have cR := (hrow wo hb).1
      obtain ⟨row, hrw⟩ : ∃ row, row = R.getD i [] := ⟨_, rfl⟩
      have hsh := HC.out.short _ (getD_mem hiR)
      have hbd := HC.out.bd _ (getD_mem hiR)
      rw [← hrw] at hrow cR hsh hbd
      have HRW := Lib.hid hrw
      have HBD := Lib.hid hbd
      have HROW := Lib.hid hrow
      have i1 : decide (i < m) = true := decide_eq_true him
      have x8 : IntKind.i64.wrap ((i : Int) + 1) = i + 1 := IntWalk.i64_in _ (by omega)
      have i2 : (0 : Int) ≤ i := by omega
      have i3 : (i : Int) < m := by omega
      clear hrw hbd hrow
      go_wp2_with fail
      clear cR i1
      go_loopw [11, 44] (fun s11 s44 wx => ∃ j : Nat, j ≤ row.length ∧ s44 = .int .i64 j ∧ Below wo.heap.size wo wx ∧ Own wo.heap.size 3 eInt 1 wx s11 (rowC p i (row.take j))) (fun _ s44 _ => row.length - (RowKit.intOf s44).toNat)
      case atStart => exact ⟨0, Nat.zero_le _, rfl, Below.refl _ _, by rw [List.take_zero]; exact World.ownsRow_nil _ _ _ _⟩
      case round =>
        obtain ⟨j, hj, rfl, hbx, hown⟩ := hrel
        obtain ⟨wx, hwx⟩ : ∃ wx, wx = wr := ⟨_, rfl⟩
        subst hwx
        have hb3x := hb.trans (hbx.mono hb.size)
        by_cases hjl : j < row.length
        · obtain ⟨rb, ro, rfl, dv⟩ := (HROW.out wx hb3x).2.int j hjl
          have hvb := HBD.out _ (List.getElem_mem hjl)
          have hst : row.take (j + 1) = row.take j ++ [row[j]] := List.take_succ_eq_append_getElem hjl
          have hvin : row[j] ∈ R.getD i [] := by rw [← HRW.out]; exact List.getElem_mem hjl
          obtain ⟨v, hvv⟩ : ∃ v, v = row[j] := ⟨_, rfl⟩
          rw [← hvv] at dv hvb hst hvin
          have HST := Lib.hid hst
          have hmp := (HVR.out.maps i hib).below hb3x
          have cM := cel_lt (maps_cell HVR.out.out hib) hb3x
          rw [Nat.zero_add] at hmp cM
          have hlk := hmp.look (wfI (k := v) (by have := hp.cp; have := hp.rs; omega))
          rw [show valF p i (R.getD i []) v = Pn.V (plOf p) (p.I.xs.drop i) v from by unfold valF; rw [if_pos hvin]] at hlk
          obtain ⟨mb, hmb⟩ : ∃ mb, mb = bs[i]'hib := ⟨_, rfl⟩
          rw [← hmb] at hlk cM
          have hyl : (rowC p i (row.take j)).length < 2147483648 := by rw [rowC_len, List.length_take]; omega
          have hstC := rowC_snoc p i (row.take j) v
          rw [← hst] at hstC
          obtain ⟨ys, hys⟩ : ∃ ys, ys = rowC p i (row.take j) := ⟨_, rfl⟩
          rw [← hys] at hown hyl hstC
          obtain ⟨sa, sc, rfl⟩ := hown.isSlice
          have HSTC := Lib.hid hstC
          have i4 : decide (j < row.length) = true := decide_eq_true hjl
          have x7 : IntKind.i64.wrap ((j : Int) + 1) = j + 1 := IntWalk.i64_in _ (by omega)
          have hsx : wo.heap.size ≤ wx.heap.size := hbx.size
          clear hvv hst hmp hmb hys hstC hvin
          cases hV : Pn.V (plOf p) (p.I.xs.drop i) v with
          | none =>
            rw [hV] at hlk
            simp only [Option.getD_none, Option.isSome_none] at hlk
            have hs2 := HSTC.out
            rw [hV, Option.getD_none] at hs2
            have HS2 := Lib.hid hs2
            clear hV hs2
            go_wp2_with (at_builtin; go_must (refine wpList_push2 rfl _ _ 28 rfl 3 undInts infInt v (-1) _ ys rfl hown wx.heap.size rfl rfl hyl hsx ?_); intro g5 k5 w5 hR5)
            have hb5 := hbx.trans (hR5.below hown hsx)
            have hown5 := hR5.own
            clear hR5 hlk cM dv hown
            go_wp2_with fail
            go_roundw
            case measure => simp [RowKit.intOf, x7]; omega
            case rel => exact ⟨j + 1, by omega, by go_num, hb5, by rw [HS2.out]; exact hown5⟩
          | some y =>
            rw [hV] at hlk
            simp only [Option.getD_some, Option.isSome_some] at hlk
            have hs2 := HSTC.out
            rw [hV, Option.getD_some] at hs2
            have HS2 := Lib.hid hs2
            clear hV hs2
            go_wp2_with (at_builtin; go_must (refine wpList_push2 rfl _ _ 28 rfl 3 undInts infInt v y _ ys rfl hown wx.heap.size rfl rfl hyl hsx ?_); intro g5 k5 w5 hR5)
            have hb5 := hbx.trans (hR5.below hown hsx)
            have hown5 := hR5.own
            clear hR5 hlk cM dv hown
            go_wp2_with fail
            go_roundw
            case measure => simp [RowKit.intOf, x7]; omega
            case rel => exact ⟨j + 1, by omega, by go_num, hb5, by rw [HS2.out]; exact hown5⟩
        · have i4 : decide (j < row.length) = false := decide_eq_false hjl
          have hjj : row.take j = row := List.take_of_length_le (by omega)
          rw [hjj] at hown
          obtain ⟨sa, sc, hse⟩ := hown.isSlice
          obtain ⟨xl, hxl⟩ : ∃ xl, xl = (rowC p i row).length := ⟨_, rfl⟩
          rw [← hxl] at hse
          subst hse
          have HOx := Lib.hid (HO.out.below hbx)
          have hfar : ∀ g, (Value.slice sa xl sc).ownBlock = some g → (Value.slice pa pl pc).ownBlock ≠ some g ∧ ∀ (q : Nat) (hq : q < us'.length), us'[q].ownBlock ≠ some g := fun g hg => by
            have h1 := (hown.lt g hg).1
            refine ⟨fun e => ?_, fun q hq e => ?_⟩
            · have := (HO.out.out.lt g e).2; omega
            · have := ((HO.out.row q hq (by rw [← HO.out.len]; exact hq)).lt g e).2; omega
          have HOW := Lib.hid (hown.base (base' := w3.heap.size) hb.size)
          have HFAR := Lib.hid hfar
          have hone : ∀ u ∈ eV (Value.slice sa xl sc), u.oneCell' = true := by
            intro u hu; rw [List.mem_singleton] at hu; subst hu; rfl
          have hul : us'.length < 2147483648 := by rw [HUL.out]; omega
          have hs2 : w3.heap.size ≤ wx.heap.size := hb3x.size
          have HO2 := HOx.out.out
          rw [HPL.out] at HO2
          have HPE := HPL.out
          clear hjj hxl hfar hown
          have HO3 : Own w3.heap.size 28 eV 1 wx (.slice pa pl pc) us' := by rw [HPE]; exact HO2
          clear HO2 HPE
          go_wp2_with (at_builtin; go_must (refine wpList_pushR rfl _ _ 70 rfl 28 _ 1 24 undRws infRw rfl (by decide) (.slice sa xl sc) (fun _ => rfl) hone _ us' rfl HO3 wx.heap.size rfl rfl hul (by decide) hs2 _ rfl ?_); intro g7 cap7 w7 hR7)
          have HC7 := HOx.out.push HOW.out HFAR.out hR7
          have hb7 := hb3x.trans (hR7.below HO3 hs2)
          clear HO3 hR7
          go_wp2_with fail
          go_roundw
          case measure => simp [RowKit.intOf, x8]; omega
          case rel => exact ⟨i + 1, _, by omega, by go_num, hb7, by rw [certI_succ, ← HRW.out]; exact HC7⟩
    · have i1 : decide (i < m) = false := decide_eq_false him
      have hie : i = R.length := by have := HM.out; omega
      have hok : OwnR w.heap.size 28 3 eInt 1 wo (.slice pa pl pc) us' (certI p R R.length) := by
        have := HO.out; rw [hie] at this; exact this.base' hbw3.size
      have HOK := Lib.hid hok
      clear hok hie
      go_wp2_with fail
      go_ret2
      exact ⟨⟨_, rfl, .ok R _ us' HP.out HC.out HRL.out HOK.out⟩, hbr⟩

set_option maxRecDepth 100000 in
set_option maxHeartbeats 1000000 in
theorem cmake_any (p : PlD) (w : World) (hg : gPl w p) : Calls Tryz.prog 20 #[vPl p] w fun e w' => (∃ v, e = .returned v ∧ ValsR p w.heap.size w' v) ∧ Below w.heap.size w w' := by
  have hb0 : Below w.heap.size w (w.alloc (.cells (ePl p).toArray 68)) := (Below.refl _ _).alloc (Nat.le_refl _) _
  have hv := pvals_any p _ (rdPl.mono hg hb0)
  go_enter Tryz.func20, Tryz.ntmps20
  go_wp2_with fail
  refine Calls.to hv ?_
  rintro e w1 ⟨v, rfl, hV⟩ hb1
  have hbw := hb0.trans (hb1.mono hb0.size)
  cases hV with
  | bad h =>
    go_wp2_with fail
    go_ret2
    exact ⟨⟨_, rfl, .bad h⟩, hbw⟩
  | limit h1 h2 =>
    go_wp2_with fail
    go_ret2
    exact ⟨⟨_, rfl, .limit h1 h2⟩, hbw⟩
  | ok R u us h1 h2 h3 h4 =>
    have H4 := Lib.hid (h4.base' hb0.size)
    clear h4
    go_wp2_with fail
    go_ret2
    exact ⟨⟨_, rfl, .ok R u us h1 h2 h3 H4.out⟩, hbw⟩

end Go.Proofs.YtoiakijmbghhlaaGreat
