/- The loop of Split: the events of a record for a number of dry steps, on both sides. Conditions: the record is right. -/
import Derived.Test.YtdlaghjijfgncaaEva
namespace Go.Proofs.Ytdlaghjijfgncaa
open Go.RowKit
set_option linter.unusedVariables false
set_option linter.unusedSimpArgs false

/-- One wet step more. -/
def addEv (dry : Int) (k : Nat) (d : Int) (out : List Ev) : List Ev :=
  let x := out.getD (out.length - 1) default
  if 0 < out.length ∧ (k : Int) - x.To < dry then out.set (out.length - 1) ⟨x.From, k + 1, x.Total + d, if x.Peak < d then d else x.Peak⟩
  else out ++ [⟨k, k + 1, d, d⟩]
/-- The events, from place k on. -/
def splitGo (dry : Int) : List Int → Nat → List Ev → List Ev
  | [], _, out => out
  | d :: r, k, out => if d ≤ 0 then splitGo dry r (k + 1) out else splitGo dry r (k + 1) (addEv dry k d out)

structure EvOk (k : Nat) (e : Ev) : Prop where
  f0 : 0 ≤ e.From
  ft : e.From < e.To
  tk : e.To ≤ k
  p1 : 1 ≤ e.Peak
  p2 : e.Peak ≤ 4194304
  pt : e.Peak ≤ e.Total
  tt : e.Total ≤ 4194304 * (k : Int)
def EvsOk (k : Nat) (out : List Ev) : Prop := out.length ≤ k ∧ ∀ e ∈ out, EvOk k e

theorem EvOk.succ {k : Nat} {e : Ev} (h : EvOk k e) : EvOk (k + 1) e := ⟨h.f0, h.ft, by have := h.tk; omega, h.p1, h.p2, h.pt, by have := h.tt; omega⟩
theorem EvsOk.succ {k : Nat} {out : List Ev} (h : EvsOk k out) : EvsOk (k + 1) out := ⟨by have := h.1; omega, fun e he => (h.2 e he).succ⟩
theorem EvsOk.set {k : Nat} {out : List Ev} (h : EvsOk k out) (n : Nat) (y : Ev) (hy : EvOk (k + 1) y) : EvsOk (k + 1) (out.set n y) := by
  refine ⟨by have := h.1; simp; omega, fun e he => ?_⟩
  rcases List.mem_or_eq_of_mem_set he with h1 | rfl
  · exact (h.2 e h1).succ
  · exact hy
theorem EvsOk.push {k : Nat} {out : List Ev} (h : EvsOk k out) (y : Ev) (hy : EvOk (k + 1) y) : EvsOk (k + 1) (out ++ [y]) := by
  refine ⟨by have := h.1; simp; omega, fun e he => ?_⟩
  rcases List.mem_append.1 he with h1 | h1
  · exact (h.2 e h1).succ
  · simp at h1; subst h1; exact hy

theorem addEv_set {dry : Int} {k n : Nat} {d : Int} {out : List Ev} {E : Ev} (hn : out.length = n + 1) (hE : out[n]'(by omega) = E) (h : (k : Int) - E.To < dry) :
    addEv dry k d out = out.set n ⟨E.From, k + 1, E.Total + d, if E.Peak < d then d else E.Peak⟩ := by
  simp only [addEv, hn, Nat.add_sub_cancel, List.getD, List.getElem?_eq_getElem (show n < out.length by omega), Option.getD_some, hE]
  rw [if_pos ⟨by omega, h⟩]
theorem addEv_far {dry : Int} {k n : Nat} {d : Int} {out : List Ev} {E : Ev} (hn : out.length = n + 1) (hE : out[n]'(by omega) = E) (h : ¬ (k : Int) - E.To < dry) :
    addEv dry k d out = out ++ [⟨k, k + 1, d, d⟩] := by
  simp only [addEv, hn, Nat.add_sub_cancel, List.getD, List.getElem?_eq_getElem (show n < out.length by omega), Option.getD_some, hE]
  rw [if_neg (fun hh => h hh.2)]
theorem addEv_nil {dry : Int} {k : Nat} {d : Int} : addEv dry k d [] = [⟨k, k + 1, d, d⟩] := by simp [addEv]
theorem splitGo_wet {dry d : Int} {r : List Int} {k : Nat} {out : List Ev} (h : ¬ d ≤ 0) : splitGo dry (d :: r) k out = splitGo dry r (k + 1) (addEv dry k d out) := by simp only [splitGo, if_neg h]
theorem splitGo_dry {dry d : Int} {r : List Int} {k : Nat} {out : List Ev} (h : d ≤ 0) : splitGo dry (d :: r) k out = splitGo dry r (k + 1) out := by simp only [splitGo, if_pos h]

/-- A whole element is stored. -/
theorem Own.store4 {base : Nat} {e : TypeId} {w : World} {g n cap : Nat} {xs : List Ev} (h : Own base e eEv 4 w (.slice (some ⟨g, 0, none⟩) n cap) xs) (i : Nat) (hi : i < xs.length) (y : Ev) :
    Own base e eEv 4 ((((w.setCell ⟨g, i * 4, none⟩ (.int .i64 y.From)).setCell ⟨g, i * 4 + 1, none⟩ (.int .i64 y.To)).setCell ⟨g, i * 4 + 2, none⟩ (.int .i64 y.Total)).setCell ⟨g, i * 4 + 3, none⟩ (.int .i64 y.Peak)) (.slice (some ⟨g, 0, none⟩) n cap) (xs.set i y) := by
  have h1 := h.store eEv_len i 0 hi (by omega) (.int .i64 y.From) ⟨y.From, xs[i].To, xs[i].Total, xs[i].Peak⟩ (by simp)
  have h2 := h1.store eEv_len i 1 (by simpa using hi) (by omega) (.int .i64 y.To) ⟨y.From, y.To, xs[i].Total, xs[i].Peak⟩ (by simp)
  have h3 := h2.store eEv_len i 2 (by simpa using hi) (by omega) (.int .i64 y.Total) ⟨y.From, y.To, y.Total, xs[i].Peak⟩ (by simp)
  have h4 := h3.store eEv_len i 3 (by simpa using hi) (by omega) (.int .i64 y.Peak) y (by simp)
  simpa using h4

set_option maxRecDepth 100000 in
set_option maxHeartbeats 4000000 in
theorem r21events_any (ds : List Int) (v : Value) (dry least : Int) (w : World) (hv : IsInts w v ds) (hlen : ds.length ≤ 10000) (hdb : ∀ i (h : i < ds.length), ds[i] ≤ 4194304) :
    Calls Try.prog 34 #[v, .int .i64 dry, .int .i64 least] w fun e w' => (∃ v', e = .returned v' ∧ Own w.heap.size 34 eEv 4 w' v' ((splitGo dry ds 0 []).filter fun x => decide (least ≤ x.Total))) ∧ Below w.heap.size w w' := by
  obtain ⟨a, cap, rfl, hcap, hbig, hs⟩ := hv
  go_enter Try.func34, Try.ntmps34
  go_wp2_with fail
  go_loopw [7, 8] (fun s7 s8 wr => ∃ (k : Nat) (out : List Ev), k ≤ ds.length ∧ s8 = .int .i64 k ∧ EvsOk k out ∧
      Own w.heap.size 34 eEv 4 wr s7 out ∧ Below w.heap.size w wr ∧ Hid (splitGo dry ds 0 [] = splitGo dry (ds.drop k) k out)) (fun _ i _ => ds.length - (intOf i).toNat)
  case atStart => exact ⟨0, [], Nat.zero_le _, rfl, ⟨by simp, by simp⟩, World.ownsRow_nil _ _ _ _, Below.refl _ _, rfl⟩
  case round =>
    as_aux_lemma =>
    obtain ⟨k, out, hk, rfl, hok, hown, hb, hm⟩ := hrel
    by_cases hlt : k < ds.length
    · obtain ⟨b, off, rfl, hc⟩ := (hs.mono hb).int k hlt
      have hd4 := hdb k hlt
      clear hs hdb
      have hdrop : Hid (ds.drop k = ds[k] :: ds.drop (k + 1)) := List.drop_eq_getElem_cons hlt
      generalize ds[k] = y at *
      by_cases hy : y ≤ 0
      · have q : decide (y ≤ 0) = true := decide_eq_true hy
        have HS : Hid (splitGo dry ds 0 [] = splitGo dry (ds.drop (k + 1)) (k + 1) out) := hm.out.trans (by rw [hdrop.out, splitGo_dry hy])
        go_wp2_with fail
        go_roundw
        case rel => exact ⟨k + 1, out, by omega, by go_num, hok.succ, hown, hb, HS⟩
        case measure => simp [intOf]; omega
      have q : decide (y ≤ 0) = false := decide_eq_false hy
      have HS : Hid (splitGo dry ds 0 [] = splitGo dry (ds.drop (k + 1)) (k + 1) (addEv dry k y out)) := hm.out.trans (by rw [hdrop.out, splitGo_wet hy])
      clear hm hdrop
      have hol := hok.1
      have hlo : out.length < 2147483648 := by omega
      have hwk : IntKind.i64.wrap ((k : Int) + 1) = k + 1 := IntWalk.i64_in _ (by omega)
      by_cases hne : 0 < out.length
      · obtain ⟨n, hn⟩ : ∃ n, out.length = n + 1 := ⟨out.length - 1, by omega⟩
        obtain ⟨g, cap2, rfl, hbg, hgl, hc1, hc2⟩ := hown.place hne
        have hnl : n < out.length := by omega
        obtain ⟨E, hE⟩ : ∃ E, Hid (out[n]'hnl = E) := ⟨out[n]'hnl, rfl⟩
        have hEo : EvOk k E := by rw [← hE.out]; exact hok.2 _ (List.getElem_mem hnl)
        have c0 := hown.cellAt' eEv_len n 0 (by omega) (by omega)
        have c1 := hown.cellAt' eEv_len n 1 (by omega) (by omega)
        have c2 := hown.cellAt' eEv_len n 2 (by omega) (by omega)
        have c3 := hown.cellAt' eEv_len n 3 (by omega) (by omega)
        rw [hE.out] at c0 c1 c2 c3
        have f0 := hown.free (n * 4)
        have f1 := hown.free (n * 4 + 1)
        have f2 := hown.free (n * 4 + 2)
        have f3 := hown.free (n * 4 + 3)
        simp at c0 c1 c2 c3
        obtain ⟨z1, z2, z3, z4, z5, z6, z7⟩ := hEo
        have x1 : IntKind.i64.wrap ((k : Int) - E.To) = k - E.To := IntWalk.i64_in _ (by omega)
        have x2 : IntKind.i64.wrap (E.Total + y) = E.Total + y := IntWalk.i64_in _ (by omega)
        rw [hn] at hown hc1 hlo ⊢
        have Hn : Hid (out.length = n + 1) := hn
        clear hn hol hne
        by_cases hd : (k : Int) - E.To < dry
        · have hq : decide ((k : Int) - E.To < dry) = true := decide_eq_true hd
          have HA := Lib.hid (addEv_set (d := y) Hn.out hE.out hd)
          by_cases hp : E.Peak < y
          · rw [if_pos hp] at HA
            go_wp2_with fail
            go_region
            go_wp2_with fail
            go_roundw
            case measure => simp [intOf]; omega
            case rel =>
              refine ⟨k + 1, _, by omega, by go_num, hok.set n ⟨E.From, k + 1, E.Total + y, y⟩ ⟨z1, by show E.From < (k : Int) + 1; omega, by show (k : Int) + 1 ≤ _; omega, by show 1 ≤ y; omega, hd4, by show y ≤ E.Total + y; omega, by show E.Total + y ≤ _; omega⟩, ?_, ?_, HS.out.trans (by rw [HA.out])⟩
              · have h4 := hown.store4 n (by omega) ⟨E.From, k + 1, E.Total + y, y⟩
                exact h4.below ((Below.refl _ _).drew)
              · repeat' (first | exact Below.refl _ _ | assumption | refine Below.more ?_ ?_ _ | refine Below.alloc ?_ ?_ _ | refine Below.drew ?_ | refine below_drewN ?_ _ | refine Below.setCell ?_ ?_ _ | exact Below.size (by assumption) | (simp [go_sem, size_more]; done) | (simp [go_sem, size_more]; omega))
          · rw [if_neg hp] at HA
            go_wp2_with fail
            go_region
            go_wp2_with fail
            go_roundw
            case measure => simp [intOf]; omega
            case rel =>
              refine ⟨k + 1, _, by omega, by go_num, hok.set n ⟨E.From, k + 1, E.Total + y, E.Peak⟩ ⟨z1, by show E.From < (k : Int) + 1; omega, by show (k : Int) + 1 ≤ _; omega, by show 1 ≤ E.Peak; omega, z5, by show E.Peak ≤ E.Total + y; omega, by show E.Total + y ≤ _; omega⟩, ?_, ?_, HS.out.trans (by rw [HA.out])⟩
              · have h4 := hown.store4 n (by omega) ⟨E.From, k + 1, E.Total + y, E.Peak⟩
                exact h4.below ((Below.refl _ _).drew)
              · repeat' (first | exact Below.refl _ _ | assumption | refine Below.more ?_ ?_ _ | refine Below.alloc ?_ ?_ _ | refine Below.drew ?_ | refine below_drewN ?_ _ | refine Below.setCell ?_ ?_ _ | exact Below.size (by assumption) | (simp [go_sem, size_more]; done) | (simp [go_sem, size_more]; omega))
        · have hq : decide ((k : Int) - E.To < dry) = false := decide_eq_false hd
          have HA := Lib.hid (addEv_far (d := y) Hn.out hE.out hd)
          clear c0 c2 c3 f0 f1 f2 f3
          go_wp2_with (at_builtin; go_must (refine wpList_pushB rfl _ _ 27 rfl 34 _ 4 32 undEvs infEv rfl (by decide) ⟨k, k + 1, y, y⟩ eEv_len (by simp [Value.oneCell']) _ out rfl hown _ rfl rfl (by have := Hn.out; omega) (by decide) hb.size _ rfl ?_); intro g3 cap3 w1 hown1 hbg1 hgl1 hb1 hc11 hc21)
          go_roundw
          case measure => simp [intOf]; omega
          case rel => exact ⟨k + 1, _, by omega, by go_num, hok.push _ ⟨by show (0 : Int) ≤ k; omega, by show (k : Int) < (k : Int) + 1; omega, by show (k : Int) + 1 ≤ _; omega, by show 1 ≤ y; omega, hd4, by show y ≤ y; omega, by show y ≤ _; omega⟩, hown1, hb.trans hb1, HS.out.trans (by rw [HA.out])⟩
      · obtain rfl : out = [] := List.eq_nil_of_length_eq_zero (by omega)
        obtain ⟨a5, c5, rfl⟩ := hown.isSlice
        go_wp2_with (at_builtin; go_must (refine wpList_pushB rfl _ _ 27 rfl 34 _ 4 32 undEvs infEv rfl (by decide) ⟨k, k + 1, y, y⟩ eEv_len (by simp [Value.oneCell']) _ [] rfl hown _ rfl rfl (by simp) (by decide) hb.size _ rfl ?_); intro g3 cap3 w1 hown1 hbg1 hgl1 hb1 hc11 hc21)
        go_roundw
        case measure => simp [intOf]; omega
        case rel => exact ⟨k + 1, _, by omega, by go_num, hok.push _ ⟨by show (0 : Int) ≤ k; omega, by show (k : Int) < (k : Int) + 1; omega, by show (k : Int) + 1 ≤ _; omega, by show 1 ≤ y; omega, hd4, by show y ≤ y; omega, by show y ≤ _; omega⟩, hown1, hb.trans hb1, HS.out.trans (by rw [addEv_nil]; rfl)⟩
    · obtain rfl : k = ds.length := by omega
      rw [List.drop_eq_nil_of_le (Nat.le_refl _)] at hm
      have HM : Hid (splitGo dry ds 0 [] = out) := hm.out
      have isO := hown.isL eEv_len
      have hol := hok.1
      clear hm hs hdb
      obtain ⟨aO, cO, rfl⟩ := hown.isSlice
      obtain ⟨a1, c1, e1, ho1, ho2, hO⟩ := isO
      simp only [Value.slice.injEq] at e1
      obtain ⟨rfl, _, rfl⟩ := e1
      clear hown
      generalize wr = W1 at *
      go_wp2_with fail
      go_loopw [11, 12] (fun s11 s12 wr => ∃ j : Nat, j ≤ out.length ∧ s12 = .int .i64 j ∧ Own W1.heap.size 34 eEv 4 wr s11 ((out.take j).filter fun x => decide (least ≤ x.Total)) ∧ Below W1.heap.size W1 wr) (fun _ i _ => out.length - (intOf i).toNat)
      case atStart => exact ⟨0, Nat.zero_le _, rfl, by rw [List.take_zero]; exact World.ownsRow_nil _ _ _ _, Below.refl _ _⟩
      case round =>
        as_aux_lemma =>
        obtain ⟨j, hj, rfl, hown, hb2⟩ := hrel
        by_cases hlt : j < out.length
        · obtain ⟨b, off, rfl, c0, c1, c2, c3⟩ := (hO.mono hb2).ev j hlt
          have HT : Hid ((out.take (j + 1)).filter (fun x => decide (least ≤ x.Total)) = (out.take j).filter (fun x => decide (least ≤ x.Total)) ++ (if decide (least ≤ out[j].Total) = true then [out[j]] else [])) := by
            show _ = _
            rw [List.take_succ_eq_append_getElem hlt, List.filter_append]
            congr 1
            by_cases hh : least ≤ out[j].Total <;> simp [hh]
          have hal : ((out.take j).filter fun x => decide (least ≤ x.Total)).length ≤ j := Nat.le_trans (List.length_filter_le _ _) (by simp; omega)
          clear hO
          generalize (out.take j).filter (fun x => decide (least ≤ x.Total)) = acc at *
          generalize out[j] = x at *
          by_cases hp : least ≤ x.Total
          · have u := decide_eq_true hp
            rw [u] at HT
            simp only [if_true] at HT
            go_wp2_with (at_builtin; go_must (refine wpList_pushB rfl _ _ 27 rfl 34 _ 4 32 undEvs infEv rfl (by decide) x eEv_len (by simp [Value.oneCell']) _ acc rfl hown _ rfl rfl (by omega) (by decide) hb2.size _ rfl ?_); intro g3 cap3 w1 hown1 hbg1 hgl1 hb1 hc11 hc21)
            go_roundw
            case measure => simp [intOf]; omega
            case rel => exact ⟨j + 1, by omega, by go_num, by rw [HT.out]; exact hown1, hb2.trans hb1⟩
          · have u := decide_eq_false hp
            rw [u] at HT
            simp only [Bool.false_eq_true, if_false, List.append_nil] at HT
            go_wp2_with fail
            go_roundw
            case measure => simp [intOf]; omega
            case rel => exact ⟨j + 1, by omega, by go_num, by rw [HT.out]; exact hown, hb2⟩
        · rw [List.take_of_length_le (by omega)] at hown
          go_wp2_with fail
          go_ret
          exact ⟨⟨_, rfl, by rw [HM.out]; exact hown.base hb.size⟩, hb.trans (hb2.mono hb.size)⟩

end Go.Proofs.Ytdlaghjijfgncaa
