/- Dry on both sides; equality of two lists of spans. Conditions: the record reads as data. -/
import Derived.Test.YtdlaghjijfgncaaEvo
namespace Go.Proofs.Ytdlaghjijfgncaa
open Go.RowKit
set_option linter.unusedVariables false
set_option linter.unusedSimpArgs false

theorem beqT {a b : Int} (h : a = b) : (a == b) = true := beq_iff_eq.2 h
theorem beqF {a b : Int} (h : ¬ a = b) : (a == b) = false := beq_eq_false_iff_ne.2 h

abbrev ePr (p : Int × Int) : List Value := [.int .i64 p.1, .int .i64 p.2]
theorem ePr_len (p : Int × Int) : (ePr p).length = 2 := rfl
abbrev IsPrs (w : World) (v : Value) (xs : List (Int × Int)) : Prop := IsL ePr 2 w v xs
theorem undSps : Try.prog.underlying 62 = some (.slice 69) := by kernel_rfl
theorem infSp : (Try.prog.info? 69).map (fun i => (i.zero, i.size, i.bytes)) = some (some (.agg #[.int .i64 0, .int .i64 0]), 2, 16) := by kernel_rfl

/-- One dry step more. -/
def addDry (k : Nat) (out : List (Int × Int)) : List (Int × Int) :=
  let x := out.getD (out.length - 1) (0, 0)
  if 0 < out.length ∧ x.2 = (k : Int) - 1 then out.set (out.length - 1) (x.1, k) else out ++ [((k : Int), (k : Int))]
def dryGo : List Int → Nat → List (Int × Int) → List (Int × Int)
  | [], _, out => out
  | d :: r, k, out => if 0 < d then dryGo r (k + 1) out else dryGo r (k + 1) (addDry k out)

theorem dryGo_wet {d : Int} {r : List Int} {k : Nat} {out : List (Int × Int)} (h : 0 < d) : dryGo (d :: r) k out = dryGo r (k + 1) out := by simp only [dryGo, if_pos h]
theorem dryGo_dry {d : Int} {r : List Int} {k : Nat} {out : List (Int × Int)} (h : ¬ 0 < d) : dryGo (d :: r) k out = dryGo r (k + 1) (addDry k out) := by simp only [dryGo, if_neg h]
theorem addDry_nil {k : Nat} : addDry k [] = [((k : Int), (k : Int))] := by simp [addDry]
theorem addDry_set {k n : Nat} {out : List (Int × Int)} {E : Int × Int} (hn : out.length = n + 1) (hE : out[n]'(by omega) = E) (h : E.2 = (k : Int) - 1) : addDry k out = out.set n (E.1, k) := by
  simp only [addDry, hn, Nat.add_sub_cancel, List.getD, List.getElem?_eq_getElem (show n < out.length by omega), Option.getD_some, hE]
  rw [if_pos ⟨by omega, h⟩]
theorem addDry_far {k n : Nat} {out : List (Int × Int)} {E : Int × Int} (hn : out.length = n + 1) (hE : out[n]'(by omega) = E) (h : ¬ E.2 = (k : Int) - 1) : addDry k out = out ++ [((k : Int), (k : Int))] := by
  simp only [addDry, hn, Nat.add_sub_cancel, List.getD, List.getElem?_eq_getElem (show n < out.length by omega), Option.getD_some, hE]
  rw [if_neg (fun hh => h hh.2)]
/-- Spans met before place k. -/
structure SpsOk (k : Nat) (out : List (Int × Int)) : Prop where
  len : out.length ≤ k
  lt : ∀ p ∈ out, 0 ≤ p.1 ∧ p.1 ≤ p.2 ∧ p.2 < k
theorem SpsOk.succ {k : Nat} {out : List (Int × Int)} (h : SpsOk k out) : SpsOk (k + 1) out := ⟨by have := h.len; omega, fun p hp => by have := h.lt p hp; omega⟩
theorem SpsOk.set {k : Nat} {out : List (Int × Int)} (h : SpsOk k out) (n : Nat) (a : Int) (ha : 0 ≤ a) (hk : a ≤ k) : SpsOk (k + 1) (out.set n (a, k)) := by
  refine ⟨by have := h.len; simp; omega, fun p hp => ?_⟩
  rcases List.mem_or_eq_of_mem_set hp with h1 | rfl
  · have := h.lt p h1; omega
  · simp; omega
theorem SpsOk.push {k : Nat} {out : List (Int × Int)} (h : SpsOk k out) : SpsOk (k + 1) (out ++ [((k : Int), (k : Int))]) := by
  refine ⟨by have := h.len; simp; omega, fun p hp => ?_⟩
  rcases List.mem_append.1 hp with h1 | h1
  · have := h.lt p h1; omega
  · simp at h1; subst h1; simp; omega

set_option maxRecDepth 100000 in
set_option maxHeartbeats 4000000 in
theorem r21dry_any (ds : List Int) (v : Value) (w : World) (hv : IsInts w v ds) (hlen : ds.length ≤ 1000000) :
    Calls Try.prog 36 #[v] w fun e w' => (∃ v', e = .returned v' ∧ Own w.heap.size 69 ePr 2 w' v' (dryGo ds 0 [])) ∧ Below w.heap.size w w' := by
  obtain ⟨a, cap, rfl, hcap, hbig, hs⟩ := hv
  go_enter Try.func36, Try.ntmps36
  go_wp2_with fail
  go_loopw [3, 4] (fun s3 s4 wr => ∃ (k : Nat) (out : List (Int × Int)), k ≤ ds.length ∧ s4 = .int .i64 k ∧ SpsOk k out ∧
      Own w.heap.size 69 ePr 2 wr s3 out ∧ Below w.heap.size w wr ∧ Hid (dryGo ds 0 [] = dryGo (ds.drop k) k out)) (fun _ i _ => ds.length - (intOf i).toNat)
  case atStart => exact ⟨0, [], Nat.zero_le _, rfl, ⟨by simp, by simp⟩, World.ownsRow_nil _ _ _ _, Below.refl _ _, rfl⟩
  case round =>
    as_aux_lemma =>
    obtain ⟨k, out, hk, rfl, hok, hown, hb, hm⟩ := hrel
    by_cases hlt : k < ds.length
    · obtain ⟨b, off, rfl, hc⟩ := (hs.mono hb).int k hlt
      clear hs
      have hdrop : Hid (ds.drop k = ds[k] :: ds.drop (k + 1)) := List.drop_eq_getElem_cons hlt
      generalize ds[k] = y at *
      have x1 : IntKind.i64.wrap ((k : Int) + 1) = k + 1 := IntWalk.i64_in _ (by omega)
      have x3 : IntKind.i64.wrap ((k : Int) - 1) = (k : Int) - 1 := IntWalk.i64_in _ (by omega)
      by_cases hy : 0 < y
      · have q := decide_eq_true hy
        have HS : Hid (dryGo ds 0 [] = dryGo (ds.drop (k + 1)) (k + 1) out) := hm.out.trans (by rw [hdrop.out, dryGo_wet hy])
        go_wp2_with fail
        go_roundw
        case rel => exact ⟨k + 1, out, by omega, by go_num, hok.succ, hown, hb, HS⟩
        case measure => simp [intOf]; omega
      have q := decide_eq_false hy
      have HS : Hid (dryGo ds 0 [] = dryGo (ds.drop (k + 1)) (k + 1) (addDry k out)) := hm.out.trans (by rw [hdrop.out, dryGo_dry hy])
      clear hm hdrop
      have hol := hok.len
      by_cases hne : 0 < out.length
      · obtain ⟨n, hn⟩ : ∃ n, out.length = n + 1 := ⟨out.length - 1, by omega⟩
        obtain ⟨g, cap2, rfl, hbg, hgl, hc1, hc2⟩ := hown.place hne
        have hnl : n < out.length := by omega
        obtain ⟨E, hE⟩ : ∃ E, Hid (out[n]'hnl = E) := ⟨out[n]'hnl, rfl⟩
        have hEo := hok.lt _ (List.getElem_mem hnl)
        rw [hE.out] at hEo
        have c0 := hown.cellAt' ePr_len n 0 (by omega) (by omega)
        have c1 := hown.cellAt' ePr_len n 1 (by omega) (by omega)
        rw [hE.out] at c0 c1
        have f0 := hown.free (n * 2)
        have f1 := hown.free (n * 2 + 1)
        simp at c0 c1
        rw [hn] at hown hc1 ⊢
        have Hn : Hid (out.length = n + 1) := hn
        have hnk : n + 1 ≤ k := by omega
        clear hn hol hne
        by_cases hd : E.2 = (k : Int) - 1
        · have hq := beqT hd
          have HA := Lib.hid (addDry_set Hn.out hE.out hd)
          have HD := Lib.hid hd
          clear hd
          go_wp2_with fail
          go_roundw
          case measure => simp [intOf]; omega
          case rel =>
            refine ⟨k + 1, _, by omega, by go_num, hok.set n E.1 hEo.1 (by omega), ?_, ?_, HS.out.trans (by rw [HA.out])⟩
            · have h4 := (hown.store ePr_len n 0 (by have := Hn.out; omega) (by omega) (.int .i64 E.1) (E.1, E.2) (by rw [hE.out]; simp)).store ePr_len n 1 (by simp; have := Hn.out; omega) (by omega) (.int .i64 k) (E.1, k) (by simp)
              simpa using h4
            · repeat' (first | exact Below.refl _ _ | assumption | refine Below.more ?_ ?_ _ | refine Below.alloc ?_ ?_ _ | refine Below.drew ?_ | refine below_drewN ?_ _ | refine Below.setCell ?_ ?_ _ | exact Below.size (by assumption) | (simp [go_sem, size_more]; done) | (simp [go_sem, size_more]; omega))
        · have hq := beqF hd
          have HA := Lib.hid (addDry_far Hn.out hE.out hd)
          clear c0 f0 f1
          go_wp2_with (at_builtin; go_must (refine wpList_pushB rfl _ _ 62 rfl 69 _ 2 16 undSps infSp rfl (by decide) ((k : Int), (k : Int)) ePr_len (by simp [Value.oneCell']) _ out rfl hown _ rfl rfl (by have := Hn.out; omega) (by decide) hb.size _ rfl ?_); intro g3 cap3 w1 hown1 hbg1 hgl1 hb1 hc11 hc21)
          go_roundw
          case measure => simp [intOf]; omega
          case rel => exact ⟨k + 1, _, by omega, by go_num, hok.push, hown1, hb.trans hb1, HS.out.trans (by rw [HA.out])⟩
      · obtain rfl : out = [] := List.eq_nil_of_length_eq_zero (by omega)
        obtain ⟨a5, c5, rfl⟩ := hown.isSlice
        go_wp2_with (at_builtin; go_must (refine wpList_pushB rfl _ _ 62 rfl 69 _ 2 16 undSps infSp rfl (by decide) ((k : Int), (k : Int)) ePr_len (by simp [Value.oneCell']) _ [] rfl hown _ rfl rfl (by simp) (by decide) hb.size _ rfl ?_); intro g3 cap3 w1 hown1 hbg1 hgl1 hb1 hc11 hc21)
        go_roundw
        case measure => simp [intOf]; omega
        case rel => exact ⟨k + 1, _, by omega, by go_num, hok.push, hown1, hb.trans hb1, HS.out.trans (by rw [addDry_nil]; rfl)⟩
    · go_wp2_with fail
      go_ret
      refine ⟨⟨_, rfl, ?_⟩, hb⟩
      rw [hm.out, List.drop_eq_nil_of_le (by omega)]; exact hown

def dryM (s : Ser) : List (Int × Int) × Int := if serB s.From s.Step s.Ds.xs = false then ([], 1) else (dryGo s.Ds.xs 0 [], 0)

set_option maxRecDepth 100000 in
set_option maxHeartbeats 4000000 in
theorem dry_any (s : Ser) (w : World) (hv : IsInts w (vSl s.Ds) s.Ds.xs) :
    Calls Try.prog 31 #[vSer s] w fun e w' => (∃ v', e = .returned (.tuple #[v', .int .i64 (dryM s).2]) ∧ Own w.heap.size 69 ePr 2 w' v' (dryM s).1) ∧ Below w.heap.size w w' := by
  have hb0 : Below w.heap.size w (w.alloc (.cells (eSer s).toArray 24)) := (Below.refl _ _).alloc (Nat.le_refl _) _
  cases hr : serB s.From s.Step s.Ds.xs
  · rw [show dryM s = ([], 1) from by simp only [dryM, hr, if_true]]
    have HX := Lib.hid hr
    go_enter Try.func31, Try.ntmps31
    go_wp2_with fail
    refine Calls.to (gvalid_any s _ (hv.mono hb0)) ?_
    rintro e w1 rfl hb1
    have hbw := hb0.trans (hb1.mono hb0.size)
    have hb1' : Below (w.heap.size + 1) (w.alloc (.cells (eSer s).toArray 24)) w1 := by simpa using hb1
    obtain ⟨e0, e1, e2⟩ := boxSer w w1 24 s _ rfl _ rfl hb1'
    rw [HX.out]
    clear hb1
    go_wp2_with fail
    go_ret2
    exact ⟨⟨_, rfl, World.ownsRow_nil _ _ _ _⟩, hbw⟩
  have HX := Lib.hid hr
  rw [show dryM s = (dryGo s.Ds.xs 0 [], 0) from by simp only [dryM, hr]; simp]
  have hlen := serB_len' hr
  have hs : IsC eInt 1 w s.Ds.a s.Ds.xs := by
    obtain ⟨a0, c0, ea, _, _, h⟩ := hv
    simp only [vSl, Value.slice.injEq] at ea
    rw [ea.1]; exact h
  clear hr
  go_enter Try.func31, Try.ntmps31
  go_wp2_with fail
  refine Calls.to (gvalid_any s _ (hv.mono hb0)) ?_
  rintro e w1 rfl hb1
  have hbw := hb0.trans (hb1.mono hb0.size)
  have hb1' : Below (w.heap.size + 1) (w.alloc (.cells (eSer s).toArray 24)) w1 := by simpa using hb1
  obtain ⟨e0, e1, e2⟩ := boxSer w w1 24 s _ rfl _ rfl hb1'
  rw [HX.out]
  clear hb1
  clear hv e0 e1
  go_wp2_with fail
  go_loopw [4, 5, 14] (fun s4 s5 s14 wr => ∃ (k : Nat) (out : List (Int × Int)) (op : Bool), k ≤ s.Ds.xs.length ∧ s14 = .int .i64 k ∧ s5 = .bool op ∧ SpsOk k out ∧ Hid (op = true ↔ 0 < out.length ∧ (out.getD (out.length - 1) (0, 0)).2 = (k : Int) - 1) ∧
      Own (w.heap.size + 1) 69 ePr 2 wr s4 out ∧ Below (w.heap.size + 1) (w.alloc (.cells (eSer s).toArray 24)) wr ∧ Hid (dryGo s.Ds.xs 0 [] = dryGo (s.Ds.xs.drop k) k out)) (fun _ _ i _ => s.Ds.xs.length - (intOf i).toNat)
  case atStart => exact ⟨0, [], false, Nat.zero_le _, rfl, rfl, ⟨by simp, by simp⟩, by show _ ↔ _; simp, World.ownsRow_nil _ _ _ _, hb1', rfl⟩
  case round =>
    as_aux_lemma =>
    obtain ⟨k, out, op, hk, rfl, rfl, hok, hop, hown, hb, hm⟩ := hrel
    have hbw : Below w.heap.size w wr := hb0.trans (hb.mono (by omega))
    have hz1 : w.heap.size + 1 ≤ wr.heap.size := by have h := hb.size; simp at h; omega
    by_cases hlt : k < s.Ds.xs.length
    · obtain ⟨b, off, ea, hc⟩ := (hs.mono hbw).int k hlt
      clear hs
      rw [ea]
      have hdrop : Hid (s.Ds.xs.drop k = s.Ds.xs[k] :: s.Ds.xs.drop (k + 1)) := List.drop_eq_getElem_cons hlt
      generalize s.Ds.xs[k] = y at *
      have x1 : IntKind.i64.wrap ((k : Int) + 1) = k + 1 := IntWalk.i64_in _ (by omega)
      have hlast : ∀ (o : List (Int × Int)), SpsOk k o → 0 < o.length → (o.getD (o.length - 1) (0, 0)).2 < k := by
        intro o ho h0
        have hl : o.length - 1 < o.length := by omega
        have := ho.lt _ (List.getElem_mem hl)
        simp only [List.getD, List.getElem?_eq_getElem hl, Option.getD_some]
        omega
      by_cases hy : 0 < y
      · have q := decide_eq_true hy
        have HS : Hid (dryGo s.Ds.xs 0 [] = dryGo (s.Ds.xs.drop (k + 1)) (k + 1) out) := hm.out.trans (by rw [hdrop.out, dryGo_wet hy])
        have HO : Hid (false = true ↔ 0 < out.length ∧ (out.getD (out.length - 1) (0, 0)).2 = ((k + 1 : Nat) : Int) - 1) := by
          show _ ↔ _
          simp only [Bool.false_eq_true, false_iff]
          rintro ⟨h1, h2⟩
          have := hlast out hok h1
          omega
        clear hlast hop
        go_wp2_with fail
        go_roundw
        case rel => exact ⟨k + 1, out, false, by omega, by go_num, rfl, hok.succ, HO, hown, hb, HS⟩
        case measure => simp [intOf]; omega
      have q := decide_eq_false hy
      have HS : Hid (dryGo s.Ds.xs 0 [] = dryGo (s.Ds.xs.drop (k + 1)) (k + 1) (addDry k out)) := hm.out.trans (by rw [hdrop.out, dryGo_dry hy])
      have hol := hok.len
      clear hm hdrop hlast
      cases op
      · have HA : Hid (addDry k out = out ++ [((k : Int), (k : Int))]) := by
          show _ = _
          unfold addDry
          exact if_neg (fun h => absurd (hop.out.2 h) (by simp))
        have HO : Hid (true = true ↔ 0 < (out ++ [((k : Int), (k : Int))]).length ∧ ((out ++ [((k : Int), (k : Int))]).getD ((out ++ [((k : Int), (k : Int))]).length - 1) (0, 0)).2 = ((k + 1 : Nat) : Int) - 1) := by
          show _ ↔ _
          simp [List.getD]
        obtain ⟨a5, c5, rfl⟩ := hown.isSlice
        clear hop
        go_wp2_with (at_builtin; go_must (refine wpList_pushB rfl _ _ 62 rfl 69 _ 2 16 undSps infSp rfl (by decide) ((k : Int), (k : Int)) ePr_len (by simp [Value.oneCell']) _ out rfl hown _ rfl rfl (by omega) (by decide) hz1 _ rfl ?_); intro g3 cap3 w1 hown1 hbg1 hgl1 hb1 hc11 hc21)
        go_roundw
        case measure => simp [intOf]; omega
        case rel => exact ⟨k + 1, _, true, by omega, by go_num, rfl, hok.push, HO, hown1, hb.trans hb1, HS.out.trans (by rw [HA.out])⟩
      · obtain ⟨hne, hlz⟩ := hop.out.1 rfl
        obtain ⟨n, hn⟩ : ∃ n, out.length = n + 1 := ⟨out.length - 1, by omega⟩
        obtain ⟨g, cap2, rfl, hbg, hgl, hc1, hc2⟩ := hown.place hne
        have hnl : n < out.length := by omega
        obtain ⟨E, hE⟩ : ∃ E, Hid (out[n]'hnl = E) := ⟨out[n]'hnl, rfl⟩
        have hEo := hok.lt _ (List.getElem_mem hnl)
        rw [hE.out] at hEo
        have hE2 : E.2 = (k : Int) - 1 := by
          rw [← hE.out]
          simpa [hn, List.getD, List.getElem?_eq_getElem hnl] using hlz
        have HA := Lib.hid (addDry_set hn hE.out hE2)
        have c1 := hown.cellAt' ePr_len n 1 (by omega) (by omega)
        rw [hE.out] at c1
        have f1 := hown.free (n * 2 + 1)
        simp at c1
        have HO : Hid (true = true ↔ 0 < (out.set n (E.1, (k : Int))).length ∧ ((out.set n (E.1, (k : Int))).getD ((out.set n (E.1, (k : Int))).length - 1) (0, 0)).2 = ((k + 1 : Nat) : Int) - 1) := by
          show _ ↔ _
          simp [List.getD, hn]
        rw [hn] at hown hc1 ⊢
        have Hn : Hid (out.length = n + 1) := hn
        have hnk : n + 1 ≤ k := by omega
        clear hn hol hne hop hlz hE2
        go_wp2_with fail
        go_roundw
        case measure => simp [intOf]; omega
        case rel =>
          refine ⟨k + 1, _, true, by omega, by go_num, rfl, hok.set n E.1 hEo.1 (by omega), HO, ?_, ?_, HS.out.trans (by rw [HA.out])⟩
          · exact hown.store ePr_len n 1 (by have := Hn.out; omega) (by omega) (.int .i64 k) (E.1, k) (by rw [hE.out]; simp)
          · repeat' (first | exact Below.refl _ _ | assumption | refine Below.more ?_ ?_ _ | refine Below.alloc ?_ ?_ _ | refine Below.drew ?_ | refine below_drewN ?_ _ | refine Below.setCell ?_ ?_ _ | exact Below.size (by assumption) | (simp [go_sem, size_more]; done) | (simp [go_sem, size_more]; omega))
    · have is := hown.base (base' := w.heap.size) (by omega)
      go_wp2_with fail
      go_ret2
      refine ⟨⟨_, rfl, ?_⟩, hbw⟩
      rw [hm.out, List.drop_eq_nil_of_le (by omega)]; exact is

abbrev vPr (p : Int × Int) : Value := .agg #[.int .i64 p.1, .int .i64 p.2]
theorem neqPr (a b : Int × Int) (w : World) : (binOp .neq 69 (vPr a) (vPr b)).run Try.prog w = .ok (.bool (!decide (a = b))) w := by
  obtain ⟨a1, a2⟩ := a
  obtain ⟨b1, b2⟩ := b
  simp [go_sem]
  by_cases h1 : a1 = b1 <;> by_cases h2 : a2 = b2 <;> simp [h1, h2]

theorem IsC.prs {w : World} {a : Option Addr} {xs : List (Int × Int)} (h : IsC ePr 2 w a xs) (i : Nat) (hi : i < xs.length) :
    ∃ b off, a = some ⟨b, off, none⟩ ∧ w.cell? ⟨b, off + i * 2, none⟩ = some (.int .i64 xs[i].1) ∧ w.cell? ⟨b, off + i * 2 + 1, none⟩ = some (.int .i64 xs[i].2) := by
  obtain ⟨b, off, e, hc⟩ := h i hi
  refine ⟨b, off, e, ?_, ?_⟩
  · simpa using hc 0 (by omega)
  · simpa using hc 1 (by omega)

set_option maxHeartbeats 1000000 in
theorem eqSps (xs ys : List (Int × Int)) (v v2 : Value) (w : World) (hv : IsL ePr 2 w v xs) (hv2 : IsL ePr 2 w v2 ys) :
    Calls Try.prog 35 #[v, v2] w fun e w' => e = .returned (.bool (decide (xs = ys))) ∧ Below w.heap.size w w' := by
  obtain ⟨a, cap, rfl, hcap, hbig, hs⟩ := hv
  obtain ⟨a2, cap2, rfl, hcap2, hbig2, hs2⟩ := hv2
  by_cases hl : xs.length = ys.length
  · rw [← eqGo_iff xs ys hl]
    have Hl : Hid (xs.length = ys.length) := hl
    rw [← hl]
    clear hl
    have hneq := neqPr
    go_enter Try.func35, Try.ntmps35
    go_wp2_with fail
    go_loopw [13] (fun s6 wr => ∃ k : Nat, k ≤ xs.length ∧ s6 = .int .i64 k ∧ Below w.heap.size w wr ∧ Hid (eqGo xs ys = eqGo (xs.drop k) (ys.drop k))) (fun i _ => xs.length - (intOf i).toNat)
    case atStart => exact ⟨0, Nat.zero_le _, rfl, Below.refl _ _, rfl⟩
    case round =>
      obtain ⟨k, hk, rfl, hb, hm⟩ := hrel
      by_cases hlt : k < xs.length
      · have hlt2 : k < ys.length := by have := Hl.out; omega
        obtain ⟨b, off, rfl, c1, c2⟩ := (hs.mono hb).prs k hlt
        obtain ⟨b', off', rfl, d1, d2⟩ := (hs2.mono hb).prs k hlt2
        have hstep : Hid (eqGo (xs.drop k) (ys.drop k) = (decide (xs[k] = ys[k]) && eqGo (xs.drop (k + 1)) (ys.drop (k + 1)))) := by
          rw [List.drop_eq_getElem_cons hlt, List.drop_eq_getElem_cons hlt2]; rfl
        clear hs hs2
        generalize xs[k] = x at *
        generalize ys[k] = y at *
        have i1 : (0 : Int) ≤ k := by omega
        have i2 : (k : Int) < xs.length := by omega
        by_cases hxy : x = y
        · subst hxy
          go_wp2_with fail
          go_quiet (fail)
          go_wp2_with fail
          go_roundw
          case rel => exact ⟨k + 1, by omega, by go_num, by repeat' (first | exact Below.refl _ _ | assumption | refine Below.more ?_ ?_ _ | refine Below.alloc ?_ ?_ _ | refine Below.drew ?_ | refine below_drewN ?_ _ | refine Below.setCell ?_ ?_ _ | exact Below.size (by assumption) | (simp [go_sem, size_more]; done) | (simp [go_sem, size_more]; omega)), hm.out.trans (hstep.out.trans (by simp))⟩
          case measure => simp [intOf]; omega
        · go_wp2_with fail
          go_quiet (fail)
          go_wp2_with fail
          go_ret
          exact ⟨ret_bool (hm.out.trans (hstep.out.trans (by simp [hxy]))).symm, by repeat' (first | exact Below.refl _ _ | assumption | refine Below.more ?_ ?_ _ | refine Below.alloc ?_ ?_ _ | refine Below.drew ?_ | refine below_drewN ?_ _ | refine Below.setCell ?_ ?_ _ | exact Below.size (by assumption) | (simp [go_sem, size_more]; done) | (simp [go_sem, size_more]; omega))⟩
      · go_wp2_with fail
        go_ret
        refine ⟨ret_bool ?_, hb⟩
        rw [hm.out, List.drop_eq_nil_of_le (by omega)]; rfl
  · have hd : decide (xs = ys) = false := by
      simp; intro h; exact hl (by rw [h])
    rw [hd]
    clear hd
    have hlb : ((xs.length : Int) != ys.length) = true := by rw [bne_iff_ne]; omega
    go_enter Try.func35, Try.ntmps35
    go_wp2_with fail
    go_ret
    exact ⟨rfl, Below.refl _ _⟩

end Go.Proofs.Ytdlaghjijfgncaa
