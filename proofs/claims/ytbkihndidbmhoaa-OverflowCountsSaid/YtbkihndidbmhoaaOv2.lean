/- What the reference's functions under Spills compute, and Spills itself on both sides. Conditions: at most 10000 volumes (Runs). -/
import Derived.Test.YtbkihndidbmhoaaOv1
import Derived.Deep.RegionHeld3
import Derived.Deep.DeepMust
namespace Go.Proofs.Ytbkihndidbmhoaa
open Go.RowKit
set_option linter.unusedVariables false
set_option linter.unusedSimpArgs false

def volOk (v : Int) : Bool := decide (0 ≤ v) && decide (v ≤ 1125899906842624)

set_option maxHeartbeats 400000 in
theorem rvol_any (v : Int) (w : World) : Calls Try.prog 41 #[.int .i64 v] w fun e w' => e = .returned (.bool (volOk v)) ∧ Below w.heap.size w w' := by
  go_enter Try.func41, Try.ntmps41
  unfold volOk
  by_cases h : 0 ≤ v
  all_goals
    go_wp2
    go_ret
    exact ⟨by simp <;> omega, Below.refl _ _⟩

set_option maxHeartbeats 400000 in
theorem rbig_any (xs : List Int) (v : Value) (w : World) (hv : IsInts w v xs) :
    Calls Try.prog 42 #[v] w fun e w' => e = .returned (.bool (bigGo 0 xs)) ∧ Below w.heap.size w w' := by
  obtain ⟨a, cap, rfl, hcap, hbig, hs⟩ := hv
  go_enter Try.func42, Try.ntmps42
  go_wp2
  go_loop [3, 4] (fun s s8 => ∃ (k : Nat) (t : Int), k ≤ xs.length ∧ s8 = .int .i64 k ∧ s = .int .i64 t ∧ Hid (bigGo 0 xs = bigGo t (xs.drop k))) (fun _ i => xs.length - (intOf i).toNat)
  case atStart => exact ⟨0, 0, Nat.zero_le _, rfl, rfl, rfl⟩
  case round =>
    obtain ⟨k, t, hk, rfl, rfl, hm⟩ := hrel
    by_cases hlt : k < xs.length
    · obtain ⟨b, off, rfl, hc⟩ := hs.int k hlt
      have hstep : Hid (bigGo t (xs.drop k) = if 1152921504606846976 < wrap64 (t + xs[k]) then true else bigGo (wrap64 (t + xs[k])) (xs.drop (k + 1))) := by
        rw [List.drop_eq_getElem_cons hlt]; rfl
      clear hs
      generalize xs[k] = y at *
      by_cases hq : 1152921504606846976 < wrap64 (t + y)
      all_goals
        go_wp2
      · go_ret
        exact ⟨ret_bool (hm.out.trans (hstep.out.trans (if_pos hq))).symm, Below.refl _ _⟩
      · go_round
        case rel => exact ⟨k + 1, _, by omega, by go_num, rfl, hm.out.trans (hstep.out.trans (if_neg (by omega)))⟩
        case measure => simp [intOf]; omega
    · go_wp2
      go_ret
      refine ⟨ret_bool ?_, Below.refl _ _⟩
      rw [hm.out, List.drop_eq_nil_of_le (by omega)]; rfl

/-- 'Runs', from place k on. -/
def runsGo (dry : Int) : List Int → Nat → List Ev → List Ev
  | [], _, out => out
  | v :: r, k, out =>
    if v = 0 then runsGo dry r (k + 1) out
    else
      let x := out.getD (out.length - 1) default
      if 0 < out.length ∧ wrap64 (k - x.To) < dry then runsGo dry r (k + 1) (out.set (out.length - 1) ⟨x.From, k + 1, wrap64 (x.Total + v), if x.Peak < v then v else x.Peak⟩)
      else runsGo dry r (k + 1) (out ++ [⟨k, k + 1, v, v⟩])

set_option maxRecDepth 100000 in
set_option maxHeartbeats 1000000 in
theorem runs_any (xs : List Int) (v : Value) (dry : Int) (w : World) (hv : IsInts w v xs) (hlen : xs.length ≤ 10000) :
    Calls Try.prog 43 #[v, .int .i64 dry] w fun e w' => (∃ v', e = .returned v' ∧ Own w.heap.size 33 eEv 4 w' v' (runsGo dry xs 0 [])) ∧ Below w.heap.size w w' := by
  obtain ⟨a, cap, rfl, hcap, hbig, hs⟩ := hv
  go_enter Try.func43, Try.ntmps43
  go_wp2
  go_loopw [5, 6] (fun s5 s6 wr => ∃ (k : Nat) (out : List Ev), k ≤ xs.length ∧ s6 = .int .i64 k ∧ out.length ≤ k ∧
      Own w.heap.size 33 eEv 4 wr s5 out ∧ Below w.heap.size w wr ∧ Hid (runsGo dry xs 0 [] = runsGo dry (xs.drop k) k out)) (fun _ i _ => xs.length - (intOf i).toNat)
  case atStart => exact ⟨0, [], Nat.zero_le _, rfl, by simp, World.ownsRow_nil _ _ _ _, Below.refl _ _, rfl⟩
  case round =>
    obtain ⟨k, out, hk, rfl, hol, hown, hb, hm⟩ := hrel
    by_cases hlt : k < xs.length
    · obtain ⟨b, off, rfl, hc⟩ := (hs.mono hb).int k hlt
      have hblt : b < w.heap.size := by
        obtain ⟨b', off', e, hc'⟩ := hs.int k hlt
        simp at e
        obtain ⟨rfl, rfl⟩ := e
        exact World.block_lt_of_cell? w _ hc'
      clear hs
      have hdrop : Hid (xs.drop k = xs[k] :: xs.drop (k + 1)) := List.drop_eq_getElem_cons hlt
      generalize xs[k] = y at *
      by_cases hy : y = 0
      · subst hy
        go_wp2
        go_roundw
        case rel => exact ⟨k + 1, out, by omega, by go_num, by omega, hown, hb, hm.out.trans (by rw [hdrop.out]; simp [runsGo])⟩
        case measure => simp [intOf]; omega
      · have hy' : (y == 0) = false := by simpa using hy
        by_cases hne : 0 < out.length
        · obtain ⟨n, hn⟩ : ∃ n, out.length = n + 1 := ⟨out.length - 1, by omega⟩
          obtain ⟨g, cap2, rfl, hbg, hgl, hc1, hc2⟩ := hown.place hne
          have hnl : n < out.length := by omega
          obtain ⟨E, hE⟩ : ∃ E, Hid (out[n]'hnl = E) := ⟨out[n]'hnl, rfl⟩
          have c1 := hown.cellAt' eEv_len n 1 (by omega) (by omega)
          have c2 := hown.cellAt' eEv_len n 2 (by omega) (by omega)
          have c3 := hown.cellAt' eEv_len n 3 (by omega) (by omega)
          rw [hE.out] at c1 c2 c3
          have f1 := hown.free (n * 4 + 1)
          have f2 := hown.free (n * 4 + 2)
          have f3 := hown.free (n * 4 + 3)
          simp at c1 c2 c3
          rw [hn] at hown hc1 ⊢
          have Hn : Hid (out.length = n + 1) := hn
          have hnk : n < k := by omega
          have hgb : ¬ g = b := by omega
          have hlo : out.length < 2147483648 := by omega
          clear hn hol hne
          by_cases hd : wrap64 (k - E.To) < dry
          · have Hd : Hid (wrap64 (k - E.To) < dry) := hd
            by_cases hp : E.Peak < y
            all_goals
              go_wp2
              go_region
              go_wp2
              go_region
              go_wp2
            · go_roundw
              case measure => simp [intOf]; omega
              case rel =>
                refine ⟨k + 1, _, by omega, by go_num, ?_, ((hown.store eEv_len n 1 (by omega) (by omega) _ ⟨E.From, k + 1, E.Total, E.Peak⟩ ?_).store eEv_len n 2 (by simp; omega) (by omega) _ ⟨E.From, k + 1, wrap64 (E.Total + y), E.Peak⟩ ?_).store eEv_len n 3 (by simp; omega) (by omega) _ ⟨E.From, k + 1, wrap64 (E.Total + y), y⟩ ?_, by repeat' (first | exact Below.refl _ _ | assumption | refine Below.more ?_ ?_ _ | refine Below.alloc ?_ ?_ _ | refine Below.drew ?_ | refine below_drewN ?_ _ | refine Below.setCell ?_ ?_ _ | exact Below.size (by assumption) | (simp [go_sem, size_more]; done) | (simp [go_sem, size_more]; omega)), hm.out.trans ?_⟩
                · simp [Hn.out]; omega
                · rw [hE.out]; simp
                · simp
                · simp
                · rw [hdrop.out]
                  simp [runsGo, hy, Hd.out, Hn.out, hE.out, hp]
            · go_roundw
              case measure => simp [intOf]; omega
              case rel =>
                refine ⟨k + 1, _, by omega, by go_num, ?_, (hown.store eEv_len n 1 (by omega) (by omega) _ ⟨E.From, k + 1, E.Total, E.Peak⟩ ?_).store eEv_len n 2 (by simp; omega) (by omega) _ ⟨E.From, k + 1, wrap64 (E.Total + y), E.Peak⟩ ?_, by repeat' (first | exact Below.refl _ _ | assumption | refine Below.more ?_ ?_ _ | refine Below.alloc ?_ ?_ _ | refine Below.drew ?_ | refine below_drewN ?_ _ | refine Below.setCell ?_ ?_ _ | exact Below.size (by assumption) | (simp [go_sem, size_more]; done) | (simp [go_sem, size_more]; omega)), hm.out.trans ?_⟩
                · simp [Hn.out]; omega
                · rw [hE.out]; simp
                · simp
                · rw [hdrop.out]
                  have hp2 : ¬ E.Peak < y := by omega
                  simp [runsGo, hy, Hd.out, Hn.out, hE.out, hp2]
          · have hd2 : dry ≤ wrap64 (k - E.To) := by omega
            have Hd : Hid (dry ≤ wrap64 (k - E.To)) := hd2
            go_wp2
            have hblr : b < wr.heap.size := by have := hb.size; omega
            have hwk : IntKind.i64.wrap ((k : Int) + 1) = k + 1 := IntWalk.i64_in _ (by omega)
            go_region_held3 (fun w' => w'.cell? ⟨b, off + k, none⟩ = some (.int .i64 y)) (first | go_keep | (rw [hb1.cell (by exact hblt)]; assumption)) ((go_must (refine step_push rfl _ _ 25 rfl 33 _ 4 32 undEvs infEv rfl (by decide) ⟨k, k + 1, y, y⟩ eEv_len (by simp [Value.oneCell']) _ out rfl hown rfl hlo (by decide) hb.size _ rfl ?_); intro g3 cap3 w1 hown1 hbg1 hgl1 hb1 hc11 hc21))
            have hbw := hb.trans hb1
            go_wp2
            go_roundw
            case measure => simp [intOf]; omega
            case rel =>
              refine ⟨k + 1, _, by omega, by go_num, ?_, hown1, by repeat' (first | exact Below.refl _ _ | assumption | refine Below.more ?_ ?_ _ | refine Below.alloc ?_ ?_ _ | refine Below.drew ?_ | refine below_drewN ?_ _ | refine Below.setCell ?_ ?_ _ | exact Below.size (by assumption) | (simp [go_sem, size_more]; done) | (simp [go_sem, size_more]; omega)), hm.out.trans ?_⟩
              · simp [Hn.out]; omega
              · rw [hdrop.out]
                have hd3 : ¬ wrap64 ((k : Int) - E.To) < dry := by have := Hd.out; omega
                simp [runsGo, hy, Hn.out, hE.out, hd3]
        · have h0 : out = [] := List.eq_nil_of_length_eq_zero (by omega)
          subst h0
          obtain ⟨a5, c5, rfl⟩ := hown.isSlice
          go_wp2
          have hwk : IntKind.i64.wrap ((k : Int) + 1) = k + 1 := IntWalk.i64_in _ (by omega)
          have hblr : b < wr.heap.size := by have := hb.size; omega
          go_region_held3 (fun w' => w'.cell? ⟨b, off + k, none⟩ = some (.int .i64 y)) (first | go_keep | (rw [hb1.cell (by exact hblt)]; assumption)) ((go_must (refine step_push rfl _ _ 25 rfl 33 _ 4 32 undEvs infEv rfl (by decide) ⟨k, k + 1, y, y⟩ eEv_len (by simp [Value.oneCell']) _ [] rfl hown rfl (by simp) (by decide) hb.size _ rfl ?_); intro g3 cap3 w1 hown1 hbg1 hgl1 hb1 hc11 hc21))
          have hbw := hb.trans hb1
          go_wp2
          go_roundw
          case measure => simp [intOf]; omega
          case rel =>
            refine ⟨k + 1, _, by omega, by go_num, ?_, hown1, by repeat' (first | exact Below.refl _ _ | assumption | refine Below.more ?_ ?_ _ | refine Below.alloc ?_ ?_ _ | refine Below.drew ?_ | refine below_drewN ?_ _ | refine Below.setCell ?_ ?_ _ | exact Below.size (by assumption) | (simp [go_sem, size_more]; done) | (simp [go_sem, size_more]; omega)), hm.out.trans ?_⟩
            · simp
            · rw [hdrop.out]
              simp [runsGo, hy]
    · go_wp2
      go_ret
      refine ⟨⟨_, rfl, ?_⟩, hb⟩
      rw [hm.out, List.drop_eq_nil_of_le (by omega)]; exact hown

end Go.Proofs.Ytbkihndidbmhoaa
