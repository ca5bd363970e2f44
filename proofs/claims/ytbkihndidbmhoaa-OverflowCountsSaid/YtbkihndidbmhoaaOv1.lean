/- What the functions under overflow.spills compute. Conditions: at most 10000 volumes (spills). -/
import Derived.Test.YtbkihndidbmhoaaRows
import Derived.Test.YtbkihndidbmhoaaBase
import Derived.BigRegion
namespace Go.Proofs.Ytbkihndidbmhoaa
open Go.RowKit
set_option linter.unusedVariables false
set_option linter.unusedSimpArgs false

theorem ent74 : ∀ args w, (callFunc 74 args).run Try.prog w = .ok (.enter 74 args) w := by
  intro args w
  simp [go_sem]

def volBad (v : Int) : Bool := decide (v < 0) || decide (1125899906842624 < v)

set_option maxHeartbeats 400000 in
theorem volumes1 (v : Int) (w : World) : Calls Try.prog 74 #[.int .i64 v] w fun e w' => e = .returned (.bool (volBad v)) ∧ Below w.heap.size w w' := by
  go_enter Try.func74, Try.ntmps74
  unfold volBad
  by_cases h : v < 0
  all_goals
    go_wp2
    go_ret
    exact ⟨by simp <;> omega, Below.refl _ _⟩

set_option maxHeartbeats 400000 in
theorem indexInts (g : Nat) (lb : Array Value) (eg : ∀ args w, (callFunc g args).run Try.prog w = .ok (.enter g args) w) (p : Int → Bool) (xs : List Int) (v : Value) (w : World)
    (hv : IsInts w v xs) (hp : PredOn Try.prog g lb (fun x => .int .i64 x) p xs w) :
    Calls Try.prog 102 #[v, .func (.func g) #[] lb] w fun e w' => e = .returned (.int .i64 (idxFrom p xs 0)) ∧ Below w.heap.size w w' := by
  obtain ⟨a, cap, rfl, hcap, hbig, hs⟩ := hv
  go_enter Try.func102, Try.ntmps102
  go_wp2
  go_loopw [5, 8] (fun _ s8 wr => ∃ k : Nat, k ≤ xs.length ∧ s8 = .int .i64 k ∧ Below w.heap.size w wr ∧ Hid (idxFrom p xs 0 = idxFrom p (xs.drop k) k)) (fun _ i _ => xs.length - (intOf i).toNat)
  case atStart => exact ⟨0, Nat.zero_le _, rfl, Below.refl _ _, rfl⟩
  case round =>
    obtain ⟨k, hk, rfl, hb, hm⟩ := hrel
    obtain ⟨x, rfl⟩ := more_of_below hb
    by_cases hlt : k < xs.length
    · obtain ⟨b, off, rfl, hc⟩ := hs.int k hlt
      have hx := hp (more w x) (below_more w x) xs[k] (List.getElem_mem hlt)
      have hstep : Hid (idxFrom p (xs.drop k) k = if p xs[k] then (k : Int) else idxFrom p (xs.drop (k + 1)) (k + 1)) := by
        rw [List.drop_eq_getElem_cons hlt]; rfl
      clear hs hp
      generalize xs[k] = y at *
      cases hpy : p y
      all_goals
        rw [hpy] at hx hstep
        clear hpy
        go_wp2_with fail
        refine (Calls.on hx ?_)
        rintro e x' rfl
        go_wp2_with fail
      · go_roundw
        case rel => exact ⟨k + 1, by omega, by go_num, by repeat' (first | exact Below.refl _ _ | assumption | refine Below.more ?_ ?_ _ | refine Below.alloc ?_ ?_ _ | refine Below.drew ?_ | refine below_drewN ?_ _ | refine Below.setCell ?_ ?_ _ | exact Below.size (by assumption) | (simp [go_sem, size_more]; done) | (simp [go_sem, size_more]; omega)), hm.out.trans (hstep.out.trans (by simp))⟩
        case measure => simp [intOf]; omega
      · go_ret
        exact ⟨ret_int (hm.out.trans (hstep.out.trans (by simp))).symm, by repeat' (first | exact Below.refl _ _ | assumption | refine Below.more ?_ ?_ _ | refine Below.alloc ?_ ?_ _ | refine Below.drew ?_ | refine below_drewN ?_ _ | refine Below.setCell ?_ ?_ _ | exact Below.size (by assumption) | (simp [go_sem, size_more]; done) | (simp [go_sem, size_more]; omega))⟩
    · go_wp2
      go_ret
      refine ⟨ret_int ?_, below_more _ _⟩
      rw [hm.out, List.drop_eq_nil_of_le (by omega)]; rfl

set_option maxHeartbeats 400000 in
theorem containsInts (g : Nat) (lb : Array Value) (eg : ∀ args w, (callFunc g args).run Try.prog w = .ok (.enter g args) w) (p : Int → Bool) (xs : List Int) (v : Value) (w : World)
    (hv : IsInts w v xs) (hp : PredOn Try.prog g lb (fun x => .int .i64 x) p xs w) :
    Calls Try.prog 73 #[v, .func (.func g) #[] lb] w fun e w' => e = .returned (.bool (xs.any p)) ∧ Below w.heap.size w w' := by
  go_enter Try.func73, Try.ntmps73
  go_wp2_with fail
  refine Calls.to (indexInts g lb eg p xs v w hv hp) ?_
  rintro e w1 rfl hb
  go_wp2_with fail
  go_ret
  exact ⟨ret_bool (idxFrom_any p xs 0), hb⟩

set_option maxHeartbeats 400000 in
theorem volumes_any (xs : List Int) (v : Value) (w : World) (hv : IsInts w v xs) :
    Calls Try.prog 38 #[v] w fun e w' => e = .returned (.int .i64 (if xs.any volBad then 2 else 0)) ∧ Below w.heap.size w w' := by
  cases ht : xs.any volBad
  all_goals
    go_enter Try.func38, Try.ntmps38
    go_wp2_with fail
    refine Calls.to (containsInts 74 #[] ent74 volBad xs v w hv (fun W _ x _ => volumes1 x W)) ?_
    rintro e w1 rfl hb
    go_wp2_with fail
    go_ret
    exact ⟨rfl, hb⟩

def bigGo (s : Int) : List Int → Bool
  | [] => false
  | v :: r => if 1152921504606846976 < wrap64 (s + v) then true else bigGo (wrap64 (s + v)) r

set_option maxHeartbeats 400000 in
theorem big_any (xs : List Int) (v : Value) (w : World) (hv : IsInts w v xs) :
    Calls Try.prog 39 #[v] w fun e w' => e = .returned (.bool (bigGo 0 xs)) ∧ Below w.heap.size w w' := by
  obtain ⟨a, cap, rfl, hcap, hbig, hs⟩ := hv
  go_enter Try.func39, Try.ntmps39
  go_wp2
  go_loop [3, 8] (fun s s8 => ∃ (k : Nat) (t : Int), k ≤ xs.length ∧ s8 = .int .i64 k ∧ s = .int .i64 t ∧ Hid (bigGo 0 xs = bigGo t (xs.drop k))) (fun _ i => xs.length - (intOf i).toNat)
  case atStart => exact ⟨0, 0, Nat.zero_le _, rfl, rfl, rfl⟩
  case round =>
    obtain ⟨k, t, hk, rfl, rfl, hm⟩ := hrel
    by_cases hlt : k < xs.length
    · obtain ⟨b, off, rfl, hc⟩ := hs.int k hlt
      have hstep : Hid (bigGo t (xs.drop k) = if 1152921504606846976 < wrap64 (t + xs[k]) then true else bigGo (wrap64 (t + xs[k])) (xs.drop (k + 1))) := by
        rw [List.drop_eq_getElem_cons hlt]; rfl
      clear hs
      generalize xs[k] = y at *
      by_cases hq : 1152921504606846976 < wrap64 (t + y)
      all_goals
        go_wp2
      · go_ret
        exact ⟨ret_bool (hm.out.trans (hstep.out.trans (if_pos hq))).symm, Below.refl _ _⟩
      · go_round
        case rel => exact ⟨k + 1, _, by omega, by go_num, rfl, hm.out.trans (hstep.out.trans (if_neg (by omega)))⟩
        case measure => simp [intOf]; omega
    · go_wp2
      go_ret
      refine ⟨ret_bool ?_, Below.refl _ _⟩
      rw [hm.out, List.drop_eq_nil_of_le (by omega)]; rfl


/-- 'spills', from place k on. -/
def spillsGo (dry : Int) : List Int → Nat → List Ev → Bool → Int → List Ev
  | [], _, out, _, _ => out
  | v :: r, k, out, op, last =>
    if v = 0 then spillsGo dry r (k + 1) out op last
    else
      let out' := if op = false ∨ dry ≤ k - last - 1 then out ++ [⟨k, 0, 0, 0⟩] else out
      let x := out'.getD (out'.length - 1) default
      spillsGo dry r (k + 1) (out'.set (out'.length - 1) ⟨x.From, k + 1, wrap64 (x.Total + v), if x.Peak < v then v else x.Peak⟩) true k

theorem undEvs : Try.prog.underlying 25 = some (.slice 33) := by kernel_rfl
theorem infEv : (Try.prog.info? 33).map (fun i => (i.zero, i.size, i.bytes)) = some (some (.agg #[.int .i64 0, .int .i64 0, .int .i64 0, .int .i64 0]), 4, 32) := by kernel_rfl

set_option maxRecDepth 100000 in
set_option maxHeartbeats 1000000 in
theorem spills_any (xs : List Int) (v : Value) (dry : Int) (w : World) (hv : IsInts w v xs) (hlen : xs.length ≤ 10000) :
    Calls Try.prog 40 #[v, .int .i64 dry] w fun e w' => (∃ v', e = .returned v' ∧ Own w.heap.size 33 eEv 4 w' v' (spillsGo dry xs 0 [] false 0)) ∧ Below w.heap.size w w' := by
  obtain ⟨a, cap, rfl, hcap, hbig, hs⟩ := hv
  go_enter Try.func40, Try.ntmps40
  go_wp2
  go_loopw [5, 6, 7, 13] (fun s5 s6 s7 s13 wr => ∃ (k : Nat) (out : List Ev) (op : Bool) (last : Int), k ≤ xs.length ∧ s13 = .int .i64 k ∧ s6 = .bool op ∧ s7 = .int .i64 last ∧ 0 ≤ last ∧ last ≤ k ∧ out.length ≤ k ∧ Hid (op = true → out ≠ []) ∧
      Own w.heap.size 33 eEv 4 wr s5 out ∧ Below w.heap.size w wr ∧ Hid (spillsGo dry xs 0 [] false 0 = spillsGo dry (xs.drop k) k out op last)) (fun _ _ _ i _ => xs.length - (intOf i).toNat)
  case atStart => exact ⟨0, [], false, 0, Nat.zero_le _, rfl, rfl, rfl, by omega, by omega, by simp, by simp [Hid], World.ownsRow_nil _ _ _ _, Below.refl _ _, rfl⟩
  case round =>
    obtain ⟨k, out, op, last, hk, rfl, rfl, rfl, hl0, hlk, hol, hop, hown, hb, hm⟩ := hrel
    by_cases hlt : k < xs.length
    · obtain ⟨b, off, rfl, hc⟩ := (hs.mono hb).int k hlt
      clear hs
      have hdrop : Hid (xs.drop k = xs[k] :: xs.drop (k + 1)) := List.drop_eq_getElem_cons hlt
      generalize xs[k] = y at *
      by_cases hy : y = 0
      · subst hy
        go_wp2
        go_roundw
        case rel => exact ⟨k + 1, out, op, last, by omega, by go_num, rfl, rfl, hl0, by omega, by omega, hop, hown, hb, hm.out.trans (by rw [hdrop.out]; simp [spillsGo])⟩
        case measure => simp [intOf]; omega
      · have hy' : (y == 0) = false := by simpa using hy
        cases op
        · go_wp2_with (at_builtin; go_must (refine wpList_push rfl _ _ 25 rfl 33 _ 4 32 undEvs infEv rfl (by decide) ⟨k, 0, 0, 0⟩ eEv_len (by simp [Value.oneCell']) _ out rfl hown rfl (by omega) (by decide) hb.size _ rfl ?_); intro g cap2 w1 hown1 hbg hgl hb1 hc1 hc2)
          have hbw := hb.trans hb1
          have hlen1 : (out ++ [(⟨k, 0, 0, 0⟩ : Ev)]).length = out.length + 1 := by simp
          have c2 := hown1.cellAt' eEv_len out.length 2 (by simp) (by omega)
          have c3 := hown1.cellAt' eEv_len out.length 3 (by simp) (by omega)
          have c1 := hown1.cellAt' eEv_len out.length 1 (by simp) (by omega)
          have f1 := hown1.free (out.length * 4 + 1)
          have f2 := hown1.free (out.length * 4 + 2)
          have f3 := hown1.free (out.length * 4 + 3)
          simp at c1 c2 c3
          go_region
          go_wp2
          go_roundw
          case rel =>
            refine ⟨k + 1, _, true, k, by omega, by go_num, rfl, rfl, by omega, by omega, ?_, ?_, ((hown1.store eEv_len out.length 1 (by simp) (by omega) _ ⟨k, k + 1, 0, 0⟩ ?_).store eEv_len out.length 2 (by simp) (by omega) _ ⟨k, k + 1, wrap64 y, 0⟩ ?_).store eEv_len out.length 3 (by simp) (by omega) _ ⟨k, k + 1, wrap64 y, if 0 < y then y else 0⟩ ?_, by repeat' (first | exact Below.refl _ _ | assumption | refine Below.more ?_ ?_ _ | refine Below.alloc ?_ ?_ _ | refine Below.drew ?_ | refine below_drewN ?_ _ | refine Below.setCell ?_ ?_ _ | exact Below.size (by assumption) | (simp [go_sem, size_more]; done) | (simp [go_sem, size_more]; omega)), hm.out.trans ?_⟩
            · simp; omega
            · simp [Hid]
            · simp
            · simp
            · simp
            · rw [hdrop.out]
              simp [spillsGo, hy]
          case measure => simp [intOf]; omega
        · have hne : 0 < out.length := by
            have := hop.out rfl
            cases out
            · exact absurd rfl this
            · simp
          by_cases hd : dry ≤ k - last - 1
          · go_wp2_with (at_builtin; go_must (refine wpList_push rfl _ _ 25 rfl 33 _ 4 32 undEvs infEv rfl (by decide) ⟨k, 0, 0, 0⟩ eEv_len (by simp [Value.oneCell']) _ out rfl hown rfl (by omega) (by decide) hb.size _ rfl ?_); intro g cap2 w1 hown1 hbg hgl hb1 hc1 hc2)
            have hbw := hb.trans hb1
            have hlen1 : (out ++ [(⟨k, 0, 0, 0⟩ : Ev)]).length = out.length + 1 := by simp
            have c2 := hown1.cellAt' eEv_len out.length 2 (by simp) (by omega)
            have c3 := hown1.cellAt' eEv_len out.length 3 (by simp) (by omega)
            have c1 := hown1.cellAt' eEv_len out.length 1 (by simp) (by omega)
            have f1 := hown1.free (out.length * 4 + 1)
            have f2 := hown1.free (out.length * 4 + 2)
            have f3 := hown1.free (out.length * 4 + 3)
            simp at c1 c2 c3
            go_region
            go_wp2
            go_roundw
            case rel =>
              refine ⟨k + 1, _, true, k, by omega, by go_num, rfl, rfl, by omega, by omega, ?_, ?_, ((hown1.store eEv_len out.length 1 (by simp) (by omega) _ ⟨k, k + 1, 0, 0⟩ ?_).store eEv_len out.length 2 (by simp) (by omega) _ ⟨k, k + 1, wrap64 y, 0⟩ ?_).store eEv_len out.length 3 (by simp) (by omega) _ ⟨k, k + 1, wrap64 y, if 0 < y then y else 0⟩ ?_, by repeat' (first | exact Below.refl _ _ | assumption | refine Below.more ?_ ?_ _ | refine Below.alloc ?_ ?_ _ | refine Below.drew ?_ | refine below_drewN ?_ _ | refine Below.setCell ?_ ?_ _ | exact Below.size (by assumption) | (simp [go_sem, size_more]; done) | (simp [go_sem, size_more]; omega)), hm.out.trans ?_⟩
              · simp; omega
              · simp [Hid]
              · simp
              · simp
              · simp
              · rw [hdrop.out]
                simp [spillsGo, hy, hd]
            case measure => simp [intOf]; omega
          · obtain ⟨n, hn⟩ : ∃ n, out.length = n + 1 := ⟨out.length - 1, by omega⟩
            obtain ⟨g, cap2, rfl, hbg, hgl, hc1, hc2⟩ := hown.place hne
            have hnl : n < out.length := by omega
            obtain ⟨E, hE⟩ : ∃ E, Hid (out[n]'hnl = E) := ⟨out[n]'hnl, rfl⟩
            have c1 := hown.cellAt' eEv_len n 1 (by omega) (by omega)
            have c2 := hown.cellAt' eEv_len n 2 (by omega) (by omega)
            have c3 := hown.cellAt' eEv_len n 3 (by omega) (by omega)
            rw [hE.out] at c1 c2 c3
            have f1 := hown.free (n * 4 + 1)
            have f2 := hown.free (n * 4 + 2)
            have f3 := hown.free (n * 4 + 3)
            simp at c1 c2 c3
            rw [hn] at hown hc1 ⊢
            have Hn : Hid (out.length = n + 1) := hn
            have hnk : n < k := by omega
            have Hne : Hid (out ≠ []) := hop.out rfl
            have Hd : Hid (¬ dry ≤ k - last - 1) := hd
            clear hn hol hne hop
            by_cases hp : E.Peak < y
            all_goals
              go_wp2
              go_region
              go_wp2
              go_roundw
              case rel =>
                refine ⟨k + 1, _, true, k, by omega, by go_num, rfl, rfl, by omega, by omega, ?_, ?_, ((hown.store eEv_len n 1 (by omega) (by omega) _ ⟨E.From, k + 1, E.Total, E.Peak⟩ ?_).store eEv_len n 2 (by simp; omega) (by omega) _ ⟨E.From, k + 1, wrap64 (E.Total + y), E.Peak⟩ ?_).store eEv_len n 3 (by simp; omega) (by omega) _ ⟨E.From, k + 1, wrap64 (E.Total + y), if E.Peak < y then y else E.Peak⟩ ?_, by repeat' (first | exact Below.refl _ _ | assumption | refine Below.more ?_ ?_ _ | refine Below.alloc ?_ ?_ _ | refine Below.drew ?_ | refine below_drewN ?_ _ | refine Below.setCell ?_ ?_ _ | exact Below.size (by assumption) | (simp [go_sem, size_more]; done) | (simp [go_sem, size_more]; omega)), hm.out.trans ?_⟩
                · simp [Hn.out]; omega
                · simp [Hid, Hne.out]
                · rw [hE.out]; simp
                · simp
                · first | (rw [if_pos hp]; simp; done) | (rw [if_neg (by omega)]; simp)
                · rw [hdrop.out]
                  have hd2 : ¬ dry ≤ (k : Int) - last - 1 := by have := Hd.out; omega
                  simp [spillsGo, hy, hd2, Hn.out, hE.out, hnl]
              case measure => simp [intOf]; omega
    · go_wp2
      go_ret
      refine ⟨⟨_, rfl, ?_⟩, hb⟩
      rw [hm.out, List.drop_eq_nil_of_le (by omega)]; exact hown

end Go.Proofs.Ytbkihndidbmhoaa
