/- Split: the events of a record. Conditions: the record reads as data. -/
import Derived.Test.YtdlaghjijfgncaaEve
namespace Go.Proofs.Ytdlaghjijfgncaa
open Go.RowKit
set_option linter.unusedVariables false
set_option linter.unusedSimpArgs false

def splitM (s : Ser) (dry least : Int) : List Ev × Int :=
  if serB s.From s.Step s.Ds.xs = false then ([], 1) else if dry < 1 ∨ 10000 < dry ∨ least < 0 ∨ 1099511627776 < least then ([], 2)
  else if 1000 < ((splitGo dry s.Ds.xs 0 []).filter fun x => decide (least ≤ x.Total)).length then ([], 4)
  else ((splitGo dry s.Ds.xs 0 []).filter fun x => decide (least ≤ x.Total), 0)

theorem serB_len {F S : Int} {ds : List Int} (h : serB F S ds = true) : ds.length ≤ 10000 := by
  simp only [serB, Bool.and_eq_true, decide_eq_true_eq] at h
  have := h.1.1.2
  omega
theorem serB_dep {F S : Int} {ds : List Int} (h : serB F S ds = true) : ∀ i (hi : i < ds.length), -1 ≤ ds[i] ∧ ds[i] ≤ 4194304 := by
  intro i hi
  simp only [serB, Bool.and_eq_true, Bool.not_eq_true', List.any_eq_false] at h
  have := h.2 _ (List.getElem_mem hi)
  simp [depBad] at this
  omega

theorem ent41 : ∀ args w, (callFunc 41 args).run Try.prog w = .ok (.enter 41 args) w := by
  intro args w
  simp [go_sem]
theorem split1_any (x : Ev) (least : Int) (B : Nat) (w : World) (hc : w.cell? ⟨B, 0, none⟩ = some (.int .i64 least)) :
    Calls Try.prog 41 #[vEv x, .pointer (some ⟨B, 0, none⟩)] w fun e w' => e = .returned (.bool (decide (x.Total < least))) ∧ Below w.heap.size w w' := by
  cases h : decide (x.Total < least)
  all_goals
    go_enter Try.func41, Try.ntmps41
    go_wp2_with fail
    go_ret
    exact ⟨rfl, by repeat' (first | exact Below.refl _ _ | assumption | refine Below.more ?_ ?_ _ | refine Below.alloc ?_ ?_ _ | refine Below.drew ?_ | refine below_drewN ?_ _ | refine Below.setCell ?_ ?_ _ | exact Below.size (by assumption) | (simp [go_sem, size_more]; done) | (simp [go_sem, size_more]; omega))⟩

theorem Own.store3 {base : Nat} {e : TypeId} {w : World} {g n cap : Nat} {xs : List Ev} (h : Own base e eEv 4 w (.slice (some ⟨g, 0, none⟩) n cap) xs) (i : Nat) (hi : i < xs.length) (t T p : Int) :
    Own base e eEv 4 (((w.setCell ⟨g, i * 4 + 1, none⟩ (.int .i64 t)).setCell ⟨g, i * 4 + 2, none⟩ (.int .i64 T)).setCell ⟨g, i * 4 + 3, none⟩ (.int .i64 p)) (.slice (some ⟨g, 0, none⟩) n cap) (xs.set i ⟨xs[i].From, t, T, p⟩) := by
  have h2 := h.store eEv_len i 1 hi (by omega) (.int .i64 t) ⟨xs[i].From, t, xs[i].Total, xs[i].Peak⟩ (by simp)
  have h3 := h2.store eEv_len i 2 (by simpa using hi) (by omega) (.int .i64 T) ⟨xs[i].From, t, T, xs[i].Peak⟩ (by simp)
  have h4 := h3.store eEv_len i 3 (by simpa using hi) (by omega) (.int .i64 p) ⟨xs[i].From, t, T, p⟩ (by simp)
  simpa using h4

set_option maxRecDepth 100000 in
set_option maxHeartbeats 8000000 in
theorem split_any (s : Ser) (dry least : Int) (w : World) (hv : IsInts w (vSl s.Ds) s.Ds.xs) :
    Calls Try.prog 13 #[vSer s, .int .i64 dry, .int .i64 least] w fun e w' => (∃ v', e = .returned (.tuple #[v', .int .i64 (splitM s dry least).2]) ∧ Own w.heap.size 34 eEv 4 w' v' (splitM s dry least).1) ∧ Below w.heap.size w w' := by
  have hb0 : Below w.heap.size w ((w.alloc (.cells (eSer s).toArray 24)).alloc (.cells #[.int .i64 least] 3)) := ((Below.refl _ _).alloc (Nat.le_refl _) _).alloc (by simp) _
  cases hr : serB s.From s.Step s.Ds.xs
  · rw [show splitM s dry least = ([], 1) from by simp only [splitM, hr, if_true]]
    have HX := Lib.hid hr
    go_enter Try.func13, Try.ntmps13
    go_wp2_with fail
    refine Calls.to (gvalid_any s _ (hv.mono hb0)) ?_
    rintro e w1 rfl hb1
    have hbw := hb0.trans (hb1.mono hb0.size)
    have hb2 : Below (w.heap.size + 2) ((w.alloc (.cells (eSer s).toArray 24)).alloc (.cells #[.int .i64 least] 3)) w1 := by simpa using hb1
    have e5 : w1.cell? ⟨w.heap.size + 1, 0, none⟩ = some (.int .i64 least) := (hb2.cell (p := ⟨w.heap.size + 1, 0, none⟩) (by simp)).trans (by simp [go_sem])
    have e0 : w1.cell? ⟨w.heap.size, 2, none⟩ = some (.slice s.Ds.a s.Ds.xs.length s.Ds.cap) := (hb2.cell (p := ⟨w.heap.size, 2, none⟩) (by simp)).trans (by simp [go_sem])
    rw [HX.out]
    clear hb1
    go_wp2_with fail
    go_ret2
    exact ⟨⟨_, rfl, World.ownsRow_nil _ _ _ _⟩, hbw⟩
  have HX := Lib.hid hr
  by_cases q1 : dry < 1
  · rw [show splitM s dry least = ([], 2) from by simp only [splitM, hr, q1, true_or, if_true]; simp]
    have u1 : decide (dry < 1) = true := decide_eq_true q1
    go_enter Try.func13, Try.ntmps13
    go_wp2_with fail
    refine Calls.to (gvalid_any s _ (hv.mono hb0)) ?_
    rintro e w1 rfl hb1
    have hbw := hb0.trans (hb1.mono hb0.size)
    have hb2 : Below (w.heap.size + 2) ((w.alloc (.cells (eSer s).toArray 24)).alloc (.cells #[.int .i64 least] 3)) w1 := by simpa using hb1
    have e5 : w1.cell? ⟨w.heap.size + 1, 0, none⟩ = some (.int .i64 least) := (hb2.cell (p := ⟨w.heap.size + 1, 0, none⟩) (by simp)).trans (by simp [go_sem])
    have e0 : w1.cell? ⟨w.heap.size, 2, none⟩ = some (.slice s.Ds.a s.Ds.xs.length s.Ds.cap) := (hb2.cell (p := ⟨w.heap.size, 2, none⟩) (by simp)).trans (by simp [go_sem])
    rw [HX.out]
    clear hb1
    go_wp2_with fail
    go_ret2
    exact ⟨⟨_, rfl, World.ownsRow_nil _ _ _ _⟩, hbw⟩
  have u1 : decide (dry < 1) = false := decide_eq_false q1
  by_cases q2 : 10000 < dry
  · rw [show splitM s dry least = ([], 2) from by simp only [splitM, hr, q2, true_or, or_true, if_true]; simp]
    have u2 : decide (10000 < dry) = true := decide_eq_true q2
    go_enter Try.func13, Try.ntmps13
    go_wp2_with fail
    refine Calls.to (gvalid_any s _ (hv.mono hb0)) ?_
    rintro e w1 rfl hb1
    have hbw := hb0.trans (hb1.mono hb0.size)
    have hb2 : Below (w.heap.size + 2) ((w.alloc (.cells (eSer s).toArray 24)).alloc (.cells #[.int .i64 least] 3)) w1 := by simpa using hb1
    have e5 : w1.cell? ⟨w.heap.size + 1, 0, none⟩ = some (.int .i64 least) := (hb2.cell (p := ⟨w.heap.size + 1, 0, none⟩) (by simp)).trans (by simp [go_sem])
    have e0 : w1.cell? ⟨w.heap.size, 2, none⟩ = some (.slice s.Ds.a s.Ds.xs.length s.Ds.cap) := (hb2.cell (p := ⟨w.heap.size, 2, none⟩) (by simp)).trans (by simp [go_sem])
    rw [HX.out]
    clear hb1
    go_wp2_with fail
    go_ret2
    exact ⟨⟨_, rfl, World.ownsRow_nil _ _ _ _⟩, hbw⟩
  have u2 : decide (10000 < dry) = false := decide_eq_false q2
  by_cases q3 : least < 0
  · rw [show splitM s dry least = ([], 2) from by simp only [splitM, hr, q3, true_or, or_true, if_true]; simp]
    have u3 : decide (least < 0) = true := decide_eq_true q3
    go_enter Try.func13, Try.ntmps13
    go_wp2_with fail
    refine Calls.to (gvalid_any s _ (hv.mono hb0)) ?_
    rintro e w1 rfl hb1
    have hbw := hb0.trans (hb1.mono hb0.size)
    have hb2 : Below (w.heap.size + 2) ((w.alloc (.cells (eSer s).toArray 24)).alloc (.cells #[.int .i64 least] 3)) w1 := by simpa using hb1
    have e5 : w1.cell? ⟨w.heap.size + 1, 0, none⟩ = some (.int .i64 least) := (hb2.cell (p := ⟨w.heap.size + 1, 0, none⟩) (by simp)).trans (by simp [go_sem])
    have e0 : w1.cell? ⟨w.heap.size, 2, none⟩ = some (.slice s.Ds.a s.Ds.xs.length s.Ds.cap) := (hb2.cell (p := ⟨w.heap.size, 2, none⟩) (by simp)).trans (by simp [go_sem])
    rw [HX.out]
    clear hb1
    go_wp2_with fail
    go_ret2
    exact ⟨⟨_, rfl, World.ownsRow_nil _ _ _ _⟩, hbw⟩
  have u3 : decide (least < 0) = false := decide_eq_false q3
  by_cases q4 : 1099511627776 < least
  · rw [show splitM s dry least = ([], 2) from by simp only [splitM, hr, q4, or_true, if_true]; simp]
    have u4 : decide (1099511627776 < least) = true := decide_eq_true q4
    go_enter Try.func13, Try.ntmps13
    go_wp2_with fail
    refine Calls.to (gvalid_any s _ (hv.mono hb0)) ?_
    rintro e w1 rfl hb1
    have hbw := hb0.trans (hb1.mono hb0.size)
    have hb2 : Below (w.heap.size + 2) ((w.alloc (.cells (eSer s).toArray 24)).alloc (.cells #[.int .i64 least] 3)) w1 := by simpa using hb1
    have e5 : w1.cell? ⟨w.heap.size + 1, 0, none⟩ = some (.int .i64 least) := (hb2.cell (p := ⟨w.heap.size + 1, 0, none⟩) (by simp)).trans (by simp [go_sem])
    have e0 : w1.cell? ⟨w.heap.size, 2, none⟩ = some (.slice s.Ds.a s.Ds.xs.length s.Ds.cap) := (hb2.cell (p := ⟨w.heap.size, 2, none⟩) (by simp)).trans (by simp [go_sem])
    rw [HX.out]
    clear hb1
    go_wp2_with fail
    go_ret2
    exact ⟨⟨_, rfl, World.ownsRow_nil _ _ _ _⟩, hbw⟩
  have u4 : decide (1099511627776 < least) = false := decide_eq_false q4
  have HSM : Hid (splitM s dry least = if 1000 < ((splitGo dry s.Ds.xs 0 []).filter fun x => decide (least ≤ x.Total)).length then ([], 4) else ((splitGo dry s.Ds.xs 0 []).filter fun x => decide (least ≤ x.Total), 0)) := by
    show _ = _
    simp only [splitM, hr, q1, q2, q3, q4, or_self, if_false]
    simp
  have hlen := serB_len hr
  have hdb := serB_dep hr
  obtain ⟨res, hres⟩ : ∃ r, splitM s dry least = r := ⟨_, rfl⟩
  have HRES := Lib.hid hres
  rw [hres]
  clear hres hr q1 q2 q3 q4
  obtain ⟨a0, c0', ea, hcap, hbig, hs⟩ := hv
  have hs : IsC eInt 1 w s.Ds.a s.Ds.xs := by
    simp only [vSl, Value.slice.injEq] at ea
    rw [ea.1]; exact hs
  have hv : IsInts w (vSl s.Ds) s.Ds.xs := by
    simp only [vSl, Value.slice.injEq] at ea
    refine ⟨s.Ds.a, s.Ds.cap, rfl, by rw [ea.2.2]; exact hcap, by rw [ea.2.2]; exact hbig, hs⟩
  clear ea hcap hbig
  go_enter Try.func13, Try.ntmps13
  go_wp2_with fail
  refine Calls.to (gvalid_any s _ (hv.mono hb0)) ?_
  rintro e w1 rfl hb1
  have hbw := hb0.trans (hb1.mono hb0.size)
  have hb2 : Below (w.heap.size + 2) ((w.alloc (.cells (eSer s).toArray 24)).alloc (.cells #[.int .i64 least] 3)) w1 := by simpa using hb1
  have e5 : w1.cell? ⟨w.heap.size + 1, 0, none⟩ = some (.int .i64 least) := (hb2.cell (p := ⟨w.heap.size + 1, 0, none⟩) (by simp)).trans (by simp [go_sem])
  have e0 : w1.cell? ⟨w.heap.size, 2, none⟩ = some (.slice s.Ds.a s.Ds.xs.length s.Ds.cap) := (hb2.cell (p := ⟨w.heap.size, 2, none⟩) (by simp)).trans (by simp [go_sem])
  rw [HX.out]
  clear hb1
  clear hv
  go_wp2_with fail
  go_loopw [8, 35] (fun s8 s35 wr => ∃ (k : Nat) (out : List Ev), k ≤ s.Ds.xs.length ∧ s35 = .int .i64 k ∧ EvsOk k out ∧
      Own (w.heap.size + 2) 34 eEv 4 wr s8 out ∧ Below (w.heap.size + 2) ((w.alloc (.cells (eSer s).toArray 24)).alloc (.cells #[.int .i64 least] 3)) wr ∧ Hid (splitGo dry s.Ds.xs 0 [] = splitGo dry (s.Ds.xs.drop k) k out)) (fun _ i _ => s.Ds.xs.length - (intOf i).toNat)
  case atStart => exact ⟨0, [], Nat.zero_le _, rfl, ⟨by simp, by simp⟩, World.ownsRow_nil _ _ _ _, hb2, rfl⟩
  case round =>
    as_aux_lemma =>
    obtain ⟨k, out, hk, rfl, hok, hown, hb, hm⟩ := hrel
    have hbw : Below w.heap.size w wr := hb0.trans (hb.mono (by omega))
    have hz2 : w.heap.size + 2 ≤ wr.heap.size := by have h := hb.size; simp at h; omega
    by_cases hlt : k < s.Ds.xs.length
    · obtain ⟨b, off, ea, hc⟩ := (hs.mono hbw).int k hlt
      have hd4 := (hdb k hlt).2
      clear hs hdb
      rw [ea]
      have hdrop : Hid (s.Ds.xs.drop k = s.Ds.xs[k] :: s.Ds.xs.drop (k + 1)) := List.drop_eq_getElem_cons hlt
      generalize s.Ds.xs[k] = y at *
      by_cases hy : y ≤ 0
      · have q : decide (y ≤ 0) = true := decide_eq_true hy
        have HS : Hid (splitGo dry s.Ds.xs 0 [] = splitGo dry (s.Ds.xs.drop (k + 1)) (k + 1) out) := hm.out.trans (by rw [hdrop.out, splitGo_dry hy])
        go_wp2_with fail
        go_roundw
        case rel => exact ⟨k + 1, out, by omega, by go_num, hok.succ, hown, hb, HS⟩
        case measure => simp [intOf]; omega
      have q : decide (y ≤ 0) = false := decide_eq_false hy
      have HS : Hid (splitGo dry s.Ds.xs 0 [] = splitGo dry (s.Ds.xs.drop (k + 1)) (k + 1) (addEv dry k y out)) := hm.out.trans (by rw [hdrop.out, splitGo_wet hy])
      clear hm hdrop
      have hol := hok.1
      have hlo : out.length < 2147483648 := by omega
      have hwk : IntKind.i64.wrap ((k : Int) + 1) = k + 1 := IntWalk.i64_in _ (by omega)
      by_cases hne : 0 < out.length
      · obtain ⟨n, hn⟩ : ∃ n, out.length = n + 1 := ⟨out.length - 1, by omega⟩
        obtain ⟨g, cap2, rfl, hbg, hgl, hc1, hc2⟩ := hown.place hne
        have hnl : n < out.length := by omega
        obtain ⟨E, hE⟩ : ∃ E, Hid (out[n]'hnl = E) := ⟨out[n]'hnl, rfl⟩
        have hEo : EvOk k E := by rw [← hE.out]; exact hok.2 _ (List.getElem_mem hnl)
        have c1 := hown.cellAt' eEv_len n 1 (by omega) (by omega)
        have c2 := hown.cellAt' eEv_len n 2 (by omega) (by omega)
        have c3 := hown.cellAt' eEv_len n 3 (by omega) (by omega)
        rw [hE.out] at c1 c2 c3
        have f1 := hown.free (n * 4 + 1)
        have f2 := hown.free (n * 4 + 2)
        have f3 := hown.free (n * 4 + 3)
        simp at c1 c2 c3
        obtain ⟨z1, z2, z3, z4, z5, z6, z7⟩ := hEo
        have x1 : IntKind.i64.wrap ((k : Int) - E.To) = k - E.To := IntWalk.i64_in _ (by omega)
        have x2 : IntKind.i64.wrap (E.Total + y) = E.Total + y := IntWalk.i64_in _ (by omega)
        rw [hn] at hown hc1 hlo ⊢
        have Hn : Hid (out.length = n + 1) := hn
        clear hn hol hne
        by_cases hd : (k : Int) - E.To < dry
        · have hq : decide ((k : Int) - E.To < dry) = true := decide_eq_true hd
          have HA := Lib.hid (addEv_set (d := y) Hn.out hE.out hd)
          by_cases hp : E.Peak < y
          · rw [if_pos hp] at HA
            go_wp2_with fail
            go_region
            go_wp2_with fail
            go_roundw
            case measure => simp [intOf]; omega
            case rel =>
              refine ⟨k + 1, _, by omega, by go_num, hok.set n ⟨E.From, k + 1, E.Total + y, y⟩ ⟨z1, by show E.From < (k : Int) + 1; omega, by show (k : Int) + 1 ≤ _; omega, by show 1 ≤ y; omega, hd4, by show y ≤ E.Total + y; omega, by show E.Total + y ≤ _; omega⟩, ?_, ?_, HS.out.trans (by rw [HA.out])⟩
              · have h4 := hown.store3 n (by have := Hn.out; omega) (k + 1) (E.Total + y) y
                rw [hE.out] at h4
                exact h4.below ((Below.refl _ _).drew)
              · repeat' (first | exact Below.refl _ _ | assumption | refine Below.more ?_ ?_ _ | refine Below.alloc ?_ ?_ _ | refine Below.drew ?_ | refine below_drewN ?_ _ | refine Below.setCell ?_ ?_ _ | exact Below.size (by assumption) | (simp [go_sem, size_more]; done) | (simp [go_sem, size_more]; omega))
          · rw [if_neg hp] at HA
            go_wp2_with fail
            go_region
            go_wp2_with fail
            go_roundw
            case measure => simp [intOf]; omega
            case rel =>
              refine ⟨k + 1, _, by omega, by go_num, hok.set n ⟨E.From, k + 1, E.Total + y, E.Peak⟩ ⟨z1, by show E.From < (k : Int) + 1; omega, by show (k : Int) + 1 ≤ _; omega, by show 1 ≤ E.Peak; omega, z5, by show E.Peak ≤ E.Total + y; omega, by show E.Total + y ≤ _; omega⟩, ?_, ?_, HS.out.trans (by rw [HA.out])⟩
              · have h4 := hown.store3 n (by have := Hn.out; omega) (k + 1) (E.Total + y) E.Peak
                rw [hE.out] at h4
                exact h4.below ((Below.refl _ _).drew)
              · repeat' (first | exact Below.refl _ _ | assumption | refine Below.more ?_ ?_ _ | refine Below.alloc ?_ ?_ _ | refine Below.drew ?_ | refine below_drewN ?_ _ | refine Below.setCell ?_ ?_ _ | exact Below.size (by assumption) | (simp [go_sem, size_more]; done) | (simp [go_sem, size_more]; omega))
        · have hq : decide ((k : Int) - E.To < dry) = false := decide_eq_false hd
          have HA := Lib.hid (addEv_far (d := y) Hn.out hE.out hd)
          clear c2 c3 f1 f2 f3
          go_wp2_with (at_builtin; go_must (refine wpList_pushB rfl _ _ 27 rfl 34 _ 4 32 undEvs infEv rfl (by decide) ⟨k, k + 1, y, y⟩ eEv_len (by simp [Value.oneCell']) _ out rfl hown _ rfl rfl (by have := Hn.out; omega) (by decide) hz2 _ rfl ?_); intro g3 cap3 w1 hown1 hbg1 hgl1 hb1 hc11 hc21)
          go_roundw
          case measure => simp [intOf]; omega
          case rel => exact ⟨k + 1, _, by omega, by go_num, hok.push _ ⟨by show (0 : Int) ≤ k; omega, by show (k : Int) < (k : Int) + 1; omega, by show (k : Int) + 1 ≤ _; omega, by show 1 ≤ y; omega, hd4, by show y ≤ y; omega, by show y ≤ _; omega⟩, hown1, hb.trans hb1, HS.out.trans (by rw [HA.out])⟩
      · obtain rfl : out = [] := List.eq_nil_of_length_eq_zero (by omega)
        obtain ⟨a5, c5, rfl⟩ := hown.isSlice
        go_wp2_with (at_builtin; go_must (refine wpList_pushB rfl _ _ 27 rfl 34 _ 4 32 undEvs infEv rfl (by decide) ⟨k, k + 1, y, y⟩ eEv_len (by simp [Value.oneCell']) _ [] rfl hown _ rfl rfl (by simp) (by decide) hz2 _ rfl ?_); intro g3 cap3 w1 hown1 hbg1 hgl1 hb1 hc11 hc21)
        go_roundw
        case measure => simp [intOf]; omega
        case rel => exact ⟨k + 1, _, by omega, by go_num, hok.push _ ⟨by show (0 : Int) ≤ k; omega, by show (k : Int) < (k : Int) + 1; omega, by show (k : Int) + 1 ≤ _; omega, by show 1 ≤ y; omega, hd4, by show y ≤ y; omega, by show y ≤ _; omega⟩, hown1, hb.trans hb1, HS.out.trans (by rw [addEv_nil]; rfl)⟩
    · obtain rfl : k = s.Ds.xs.length := by omega
      rw [List.drop_eq_nil_of_le (Nat.le_refl _)] at hm
      have HM : Hid (splitGo dry s.Ds.xs 0 [] = out) := hm.out
      have hol := hok.1
      have e5 : wr.cell? ⟨w.heap.size + 1, 0, none⟩ = some (.int .i64 least) := (hb.cell (p := ⟨w.heap.size + 1, 0, none⟩) (by simp)).trans (by simp [go_sem])
      clear hm hs hdb e0
      go_wp2_with fail
      refine Calls.mono (delEv_any 41 #[.pointer (some ⟨w.heap.size + 1, 0, none⟩)] ent41 (fun x => decide (x.Total < least)) out _ (w.heap.size + 2) wr hown hz2 (by omega) (fun W hW x _ => split1_any x least (w.heap.size + 1) W ((hW.cell (p := ⟨w.heap.size + 1, 0, none⟩) (by simp)).trans e5))) ?_
      rintro e w3 ⟨⟨v3, rfl, hown3⟩, hb3⟩
      have HFE : Hid ((out.filter fun x => !decide (x.Total < least)) = (splitGo dry s.Ds.xs 0 []).filter fun x => decide (least ≤ x.Total)) := by
        show _ = _
        rw [HM.out]
        congr 1
        funext x
        by_cases h : x.Total < least <;> simp [h] <;> omega
      rw [HFE.out] at hown3
      have hbw3 : Below w.heap.size w w3 := hbw.trans (hb3.mono (by omega))
      have HR : Hid (res = if 1000 < ((splitGo dry s.Ds.xs 0 []).filter fun x => decide (least ≤ x.Total)).length then ([], 4) else ((splitGo dry s.Ds.xs 0 []).filter fun x => decide (least ≤ x.Total), 0)) := HRES.out.symm.trans HSM.out
      clear HFE HM hown hb HRES HSM
      generalize (splitGo dry s.Ds.xs 0 []).filter (fun x => decide (least ≤ x.Total)) = L at *
      have hownL := hown3.base (base' := w.heap.size) (by omega)
      obtain ⟨a9, c9, rfl⟩ := hown3.isSlice
      by_cases hL : 1000 < L.length
      · have q9 : decide ((1000 : Int) < (L.length : Int)) = true := decide_eq_true (by omega)
        have HR2 : Hid (res = ([], 4)) := by show _ = _; rw [HR.out, if_pos hL]
        go_wp2_with fail
        go_ret2
        rw [HR2.out]
        exact ⟨⟨_, rfl, World.ownsRow_nil _ _ _ _⟩, hbw3⟩
      · have q9 : decide ((1000 : Int) < (L.length : Int)) = false := decide_eq_false (by omega)
        have HR2 : Hid (res = (L, 0)) := by show _ = _; rw [HR.out, if_neg hL]
        go_wp2_with fail
        go_ret2
        rw [HR2.out]
        exact ⟨⟨_, rfl, hownL⟩, hbw3⟩

end Go.Proofs.Ytdlaghjijfgncaa
