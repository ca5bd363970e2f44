/- Records: how they read as arguments; gauge.Valid, the reference's Valid, few. Conditions: the record reads as data. -/
import Derived.Test.YtdlaghjijfgncaaEqs
namespace Go.Proofs.Ytdlaghjijfgncaa
open Go.RowKit
set_option linter.unusedVariables false
set_option linter.unusedSimpArgs false

structure Ser where
  From : Int
  Step : Int
  Ds : Sl Int
abbrev eSer (s : Ser) : List Value := [.int .i64 s.From, .int .i64 s.Step, vSl s.Ds]
abbrev vSer (s : Ser) : Value := .agg #[.int .i64 s.From, .int .i64 s.Step, vSl s.Ds]
abbrev gInts : World → Sl Int → Prop := gSl eInt 1 gI64
def gSer (W : World) (s : Ser) : Prop := gI64 W s.From ∧ gI64 W s.Step ∧ gInts W s.Ds
theorem rdSer : Rdr Try.prog 24 eSer 3 gSer := by
  refine ⟨by kernel_rfl, fun _ => rfl, ?_, ?_⟩
  · intro H e W fuel cs x h
    obtain ⟨hl, hf⟩ := rd_fields (by kernel_rfl) h
    rw [show Try.prog.cellsOf 24 = 3 from by kernel_rfl] at hl
    obtain ⟨a0, e0, g0⟩ := hf 0 3 0 (by kernel_rfl) rdI
    obtain ⟨a1, e1, g1⟩ := hf 1 3 1 (by kernel_rfl) rdI
    obtain ⟨a2, e2, g2⟩ := hf 2 22 2 (by kernel_rfl) rdInts
    have hj := cutAt_join cs [1, 1, 1] 0 (by rw [hl]; rfl)
    simp only [cutAt, Nat.zero_add, Nat.reduceAdd] at hj
    rw [e0, e1, e2] at hj
    exact ⟨⟨a0, a1, a2⟩, by simpa using hj.symm, g0, g1, g2⟩
  · intro W W' a h hb
    exact ⟨h.1, h.2.1, rdInts.mono h.2.2 hb⟩
set_option maxRecDepth 100000 in
theorem openSer {H : Type} {en : TypeId × Value → H} {W : World} {v : Value} {d : DataW H} {ps : List MemPlace} {r : Reach} {b0 : Nat} (hv : Value.okWide Try.prog W r b0 24 v) (h : DataW.Trod en Try.prog W 0 (fun _ => true) true 24 v d ps) :
    ∃ s : Ser, v = vSer s ∧ gSer W s := arg_struct (fs := flds Try.prog 24) rdSer (by kernel_rfl) hv h

def instB (t : Int) : Bool := decide (-68719476736 ≤ t) && decide (t ≤ 68719476736)
def lenB (t : Int) : Bool := decide (1 ≤ t) && decide (t ≤ 86400)
def depBad (d : Int) : Bool := decide (d < -1) || decide (4194304 < d)
def serB (F S : Int) (ds : List Int) : Bool := instB F && lenB S && decide ((ds.length : Int) ≤ 10000) && instB (F + S * ds.length) && !(ds.any depBad)

theorem ginst_lit (t : Int) (b : Bool) (h : instB t = b) (w : World) : Calls Try.prog 55 #[.int .i64 t] w fun e w' => e = .returned (.bool b) ∧ w' = w := by
  subst h
  unfold instB
  by_cases h : -68719476736 ≤ t
  all_goals
    go_enter Try.func55, Try.ntmps55
    go_wp2_with fail
    go_ret
    exact ⟨ret_bool (by simp <;> omega), rfl⟩
theorem r5inst_lit (t : Int) (b : Bool) (h : instB t = b) (w : World) : Calls Try.prog 53 #[.int .i64 t] w fun e w' => e = .returned (.bool b) ∧ w' = w := by
  subst h
  unfold instB
  by_cases h : -68719476736 ≤ t
  all_goals
    go_enter Try.func53, Try.ntmps53
    go_wp2_with fail
    go_ret
    exact ⟨ret_bool (by simp <;> omega), rfl⟩
theorem r5len_lit (t : Int) (b : Bool) (h : lenB t = b) (w : World) : Calls Try.prog 54 #[.int .i64 t] w fun e w' => e = .returned (.bool b) ∧ w' = w := by
  subst h
  unfold lenB
  by_cases h : 1 ≤ t
  all_goals
    go_enter Try.func54, Try.ntmps54
    go_wp2_with fail
    go_ret
    exact ⟨ret_bool (by simp <;> omega), rfl⟩

theorem ent57 : ∀ args w, (callFunc 57 args).run Try.prog w = .ok (.enter 57 args) w := by
  intro args w
  simp [go_sem]
theorem gvalid1 (v : Int) (w : World) : Calls Try.prog 57 #[.int .i64 v] w fun e w' => e = .returned (.bool (depBad v)) ∧ Below w.heap.size w w' := by
  unfold depBad
  by_cases h : v < -1
  all_goals
    go_enter Try.func57, Try.ntmps57
    go_wp2_with fail
    go_ret
    exact ⟨ret_bool (by simp <;> omega), Below.refl _ _⟩

theorem boxSer (w W : World) (T : TypeId) (s : Ser) (cs : Array Value) (hcs : cs = (eSer s).toArray) (B : Nat) (hB : B = w.heap.size + 1) (hb : Below B (w.alloc (.cells cs T)) W) :
    W.cell? ⟨w.heap.size, 0, none⟩ = some (.int .i64 s.From) ∧ W.cell? ⟨w.heap.size, 1, none⟩ = some (.int .i64 s.Step) ∧ W.cell? ⟨w.heap.size, 2, none⟩ = some (.slice s.Ds.a s.Ds.xs.length s.Ds.cap) := by
  subst hB; subst hcs
  exact ⟨(hb.cell (p := ⟨w.heap.size, 0, none⟩) (by simp)).trans (by simp [go_sem]), (hb.cell (p := ⟨w.heap.size, 1, none⟩) (by simp)).trans (by simp [go_sem]), (hb.cell (p := ⟨w.heap.size, 2, none⟩) (by simp)).trans (by simp [go_sem])⟩

theorem bool_eq_true_of_not {b : Bool} (h : ¬ b = false) : b = true := by cases b <;> simp_all

set_option maxHeartbeats 4000000 in
theorem gvalid_any (s : Ser) (w : World) (hv : IsInts w (vSl s.Ds) s.Ds.xs) : Calls Try.prog 39 #[vSer s] w fun e w' => e = .returned (.bool (serB s.From s.Step s.Ds.xs)) ∧ Below w.heap.size w w' := by
  obtain ⟨F, S, ⟨da, dc, ds⟩⟩ := s
  simp only [vSl] at hv ⊢
  obtain ⟨res, hres⟩ : ∃ r, serB F S ds = r := ⟨_, rfl⟩
  have HR := Lib.hid hres.symm
  rw [hres]
  clear hres
  cases h1 : instB F
  · have HK : Hid (res = false) := by show _ = _; rw [HR.out]; simp [serB, h1]
    go_enter Try.func39, Try.ntmps39
    go_wp2_with (first | (go_at_call 55; refine (ginst_lit _ _ (by assumption) _).mono ?_; rintro e w' ⟨rfl, rfl⟩))
    go_ret
    exact ⟨ret_bool HK.out.symm, by repeat' (first | exact Below.refl _ _ | assumption | refine Below.more ?_ ?_ _ | refine Below.alloc ?_ ?_ _ | refine Below.drew ?_ | refine below_drewN ?_ _ | refine Below.setCell ?_ ?_ _ | exact Below.size (by assumption) | (simp [go_sem, size_more]; done) | (simp [go_sem, size_more]; omega))⟩
  by_cases h2 : S < 1
  · have q2 : decide (S < 1) = true := decide_eq_true h2
    have l2 : lenB S = false := by simp [lenB]; omega
    have HK : Hid (res = false) := by show _ = _; rw [HR.out]; simp [serB, l2]
    go_enter Try.func39, Try.ntmps39
    go_wp2_with (first | (go_at_call 55; refine (ginst_lit _ _ (by assumption) _).mono ?_; rintro e w' ⟨rfl, rfl⟩))
    go_ret
    exact ⟨ret_bool HK.out.symm, by repeat' (first | exact Below.refl _ _ | assumption | refine Below.more ?_ ?_ _ | refine Below.alloc ?_ ?_ _ | refine Below.drew ?_ | refine below_drewN ?_ _ | refine Below.setCell ?_ ?_ _ | exact Below.size (by assumption) | (simp [go_sem, size_more]; done) | (simp [go_sem, size_more]; omega))⟩
  have q2 : decide (S < 1) = false := decide_eq_false h2
  by_cases h3 : 86400 < S
  · have q3 : decide (86400 < S) = true := decide_eq_true h3
    have l2 : lenB S = false := by simp [lenB]; omega
    have HK : Hid (res = false) := by show _ = _; rw [HR.out]; simp [serB, l2]
    go_enter Try.func39, Try.ntmps39
    go_wp2_with (first | (go_at_call 55; refine (ginst_lit _ _ (by assumption) _).mono ?_; rintro e w' ⟨rfl, rfl⟩))
    go_ret
    exact ⟨ret_bool HK.out.symm, by repeat' (first | exact Below.refl _ _ | assumption | refine Below.more ?_ ?_ _ | refine Below.alloc ?_ ?_ _ | refine Below.drew ?_ | refine below_drewN ?_ _ | refine Below.setCell ?_ ?_ _ | exact Below.size (by assumption) | (simp [go_sem, size_more]; done) | (simp [go_sem, size_more]; omega))⟩
  have q3 : decide (86400 < S) = false := decide_eq_false h3
  have l2 : lenB S = true := by simp [lenB]; omega
  by_cases h4 : (10000 : Int) < ds.length
  · have q4 : decide ((10000 : Int) < (ds.length : Int)) = true := decide_eq_true h4
    have l4 : decide ((ds.length : Int) ≤ 10000) = false := decide_eq_false (by omega)
    have HK : Hid (res = false) := by show _ = _; rw [HR.out]; simp [serB, l4]
    go_enter Try.func39, Try.ntmps39
    go_wp2_with (first | (go_at_call 55; refine (ginst_lit _ _ (by assumption) _).mono ?_; rintro e w' ⟨rfl, rfl⟩))
    go_ret
    exact ⟨ret_bool HK.out.symm, by repeat' (first | exact Below.refl _ _ | assumption | refine Below.more ?_ ?_ _ | refine Below.alloc ?_ ?_ _ | refine Below.drew ?_ | refine below_drewN ?_ _ | refine Below.setCell ?_ ?_ _ | exact Below.size (by assumption) | (simp [go_sem, size_more]; done) | (simp [go_sem, size_more]; omega))⟩
  have q4 : decide ((10000 : Int) < (ds.length : Int)) = false := decide_eq_false h4
  have l4 : decide ((ds.length : Int) ≤ 10000) = true := decide_eq_true (by omega)
  have hF : -68719476736 ≤ F ∧ F ≤ 68719476736 := by simpa [instB] using h1
  have hp0 : 0 ≤ S * (ds.length : Int) := Int.mul_nonneg (by omega) (by omega)
  have hp1 : S * (ds.length : Int) ≤ 86400 * 10000 := Int.mul_le_mul (by omega) (by omega) (by omega) (by omega)
  have x1 : IntKind.i64.wrap (S * (ds.length : Int)) = S * (ds.length : Int) := IntWalk.i64_in _ (by omega)
  have x2 : IntKind.i64.wrap (F + S * (ds.length : Int)) = F + S * (ds.length : Int) := IntWalk.i64_in _ (by omega)
  cases h5 : instB (F + S * (ds.length : Int))
  · have HK : Hid (res = false) := by show _ = _; rw [HR.out]; simp [serB, h5]
    go_enter Try.func39, Try.ntmps39
    go_wp2_with (first | (go_at_call 55; refine (ginst_lit _ _ (by assumption) _).mono ?_; rintro e w' ⟨rfl, rfl⟩))
    go_ret
    exact ⟨ret_bool HK.out.symm, by repeat' (first | exact Below.refl _ _ | assumption | refine Below.more ?_ ?_ _ | refine Below.alloc ?_ ?_ _ | refine Below.drew ?_ | refine below_drewN ?_ _ | refine Below.setCell ?_ ?_ _ | exact Below.size (by assumption) | (simp [go_sem, size_more]; done) | (simp [go_sem, size_more]; omega))⟩
  have HK : Hid (res = !(ds.any depBad)) := by show _ = _; rw [HR.out]; simp only [serB, h1, l2, l4, h5, Bool.true_and]
  have hb0 : Below w.heap.size w (w.alloc (.cells #[.int .i64 F, .int .i64 S, .slice da ds.length dc] 24)) := (Below.refl _ _).alloc (Nat.le_refl _) _
  go_enter Try.func39, Try.ntmps39
  go_wp2_with (first | (go_at_call 55; refine (ginst_lit _ _ (by assumption) _).mono ?_; rintro e w' ⟨rfl, rfl⟩))
  refine Calls.to (containsInts 57 #[] ent57 depBad ds _ _ (hv.mono hb0) (fun W _ x _ => gvalid1 x W)) ?_
  rintro e w1 rfl hb1
  go_wp2_with fail
  go_ret
  exact ⟨ret_bool HK.out.symm, hb0.trans (hb1.mono hb0.size)⟩

theorem any_false_of_drop {p : Int → Bool} {xs : List Int} (k : Nat) (h : xs.length ≤ k) : (xs.drop k).any p = false := by
  rw [List.drop_eq_nil_of_le h]; rfl

set_option maxHeartbeats 4000000 in
theorem r17valid_any (s : Ser) (w : World) (hv : IsInts w (vSl s.Ds) s.Ds.xs) : Calls Try.prog 33 #[vSer s] w fun e w' => e = .returned (.bool (serB s.From s.Step s.Ds.xs)) ∧ Below w.heap.size w w' := by
  obtain ⟨F, S, ⟨da, dc, ds⟩⟩ := s
  simp only [vSl] at hv ⊢
  obtain ⟨res, hres⟩ : ∃ r, serB F S ds = r := ⟨_, rfl⟩
  have HR := Lib.hid hres.symm
  rw [hres]
  clear hres
  cases h1 : instB F
  · have HK : Hid (res = false) := by show _ = _; rw [HR.out]; simp [serB, h1]
    go_enter Try.func33, Try.ntmps33
    go_wp2_with (first | (go_at_call 53; refine (r5inst_lit _ _ (by assumption) _).mono ?_; rintro e w' ⟨rfl, rfl⟩) | (go_at_call 54; refine (r5len_lit _ _ (by assumption) _).mono ?_; rintro e w' ⟨rfl, rfl⟩))
    go_ret
    exact ⟨ret_bool HK.out.symm, by repeat' (first | exact Below.refl _ _ | assumption | refine Below.more ?_ ?_ _ | refine Below.alloc ?_ ?_ _ | refine Below.drew ?_ | refine below_drewN ?_ _ | refine Below.setCell ?_ ?_ _ | exact Below.size (by assumption) | (simp [go_sem, size_more]; done) | (simp [go_sem, size_more]; omega))⟩
  cases l2 : lenB S
  · have HK : Hid (res = false) := by show _ = _; rw [HR.out]; simp [serB, l2]
    go_enter Try.func33, Try.ntmps33
    go_wp2_with (first | (go_at_call 53; refine (r5inst_lit _ _ (by assumption) _).mono ?_; rintro e w' ⟨rfl, rfl⟩) | (go_at_call 54; refine (r5len_lit _ _ (by assumption) _).mono ?_; rintro e w' ⟨rfl, rfl⟩))
    go_ret
    exact ⟨ret_bool HK.out.symm, by repeat' (first | exact Below.refl _ _ | assumption | refine Below.more ?_ ?_ _ | refine Below.alloc ?_ ?_ _ | refine Below.drew ?_ | refine below_drewN ?_ _ | refine Below.setCell ?_ ?_ _ | exact Below.size (by assumption) | (simp [go_sem, size_more]; done) | (simp [go_sem, size_more]; omega))⟩
  by_cases h4 : (10000 : Int) < ds.length
  · have q4 : decide ((10000 : Int) < (ds.length : Int)) = true := decide_eq_true h4
    have l4 : decide ((ds.length : Int) ≤ 10000) = false := decide_eq_false (by omega)
    have HK : Hid (res = false) := by show _ = _; rw [HR.out]; simp [serB, l4]
    go_enter Try.func33, Try.ntmps33
    go_wp2_with (first | (go_at_call 53; refine (r5inst_lit _ _ (by assumption) _).mono ?_; rintro e w' ⟨rfl, rfl⟩) | (go_at_call 54; refine (r5len_lit _ _ (by assumption) _).mono ?_; rintro e w' ⟨rfl, rfl⟩))
    go_ret
    exact ⟨ret_bool HK.out.symm, by repeat' (first | exact Below.refl _ _ | assumption | refine Below.more ?_ ?_ _ | refine Below.alloc ?_ ?_ _ | refine Below.drew ?_ | refine below_drewN ?_ _ | refine Below.setCell ?_ ?_ _ | exact Below.size (by assumption) | (simp [go_sem, size_more]; done) | (simp [go_sem, size_more]; omega))⟩
  have q4 : decide ((10000 : Int) < (ds.length : Int)) = false := decide_eq_false h4
  have l4 : decide ((ds.length : Int) ≤ 10000) = true := decide_eq_true (by omega)
  have hF : -68719476736 ≤ F ∧ F ≤ 68719476736 := by simpa [instB] using h1
  have hS : 1 ≤ S ∧ S ≤ 86400 := by simpa [lenB] using l2
  have hp0 : 0 ≤ S * (ds.length : Int) := Int.mul_nonneg (by omega) (by omega)
  have hp1 : S * (ds.length : Int) ≤ 86400 * 10000 := Int.mul_le_mul (by omega) (by omega) (by omega) (by omega)
  have x1 : IntKind.i64.wrap (S * (ds.length : Int)) = S * (ds.length : Int) := IntWalk.i64_in _ (by omega)
  have x2 : IntKind.i64.wrap (F + S * (ds.length : Int)) = F + S * (ds.length : Int) := IntWalk.i64_in _ (by omega)
  cases h5 : instB (F + S * (ds.length : Int))
  · have HK : Hid (res = false) := by show _ = _; rw [HR.out]; simp [serB, h5]
    go_enter Try.func33, Try.ntmps33
    go_wp2_with (first | (go_at_call 53; refine (r5inst_lit _ _ (by assumption) _).mono ?_; rintro e w' ⟨rfl, rfl⟩) | (go_at_call 54; refine (r5len_lit _ _ (by assumption) _).mono ?_; rintro e w' ⟨rfl, rfl⟩))
    go_ret
    exact ⟨ret_bool HK.out.symm, by repeat' (first | exact Below.refl _ _ | assumption | refine Below.more ?_ ?_ _ | refine Below.alloc ?_ ?_ _ | refine Below.drew ?_ | refine below_drewN ?_ _ | refine Below.setCell ?_ ?_ _ | exact Below.size (by assumption) | (simp [go_sem, size_more]; done) | (simp [go_sem, size_more]; omega))⟩
  have HK : Hid (res = !(ds.any depBad)) := by show _ = _; rw [HR.out]; simp only [serB, h1, l2, l4, h5, Bool.true_and]
  have hb0 : Below w.heap.size w (w.alloc (.cells #[.int .i64 F, .int .i64 S, .slice da ds.length dc] 24)) := (Below.refl _ _).alloc (Nat.le_refl _) _
  obtain ⟨a, cap, e0, hcap, hbig, hs⟩ := hv
  simp only [Value.slice.injEq] at e0
  obtain ⟨rfl, _, rfl⟩ := e0
  go_enter Try.func33, Try.ntmps33
  go_wp2_with (first | (go_at_call 53; refine (r5inst_lit _ _ (by assumption) _).mono ?_; rintro e w' ⟨rfl, rfl⟩) | (go_at_call 54; refine (r5len_lit _ _ (by assumption) _).mono ?_; rintro e w' ⟨rfl, rfl⟩))
  clear q4 x1 x2 hp0 hp1
  go_loopw [3] (fun s3 wr => ∃ k : Nat, k ≤ ds.length ∧ s3 = .int .i64 k ∧ wr = w.alloc (.cells #[.int .i64 F, .int .i64 S, .slice da ds.length dc] 24) ∧ Hid (ds.any depBad = (ds.drop k).any depBad)) (fun i _ => ds.length - (intOf i).toNat)
  case atStart => refine ⟨0, Nat.zero_le _, rfl, ?_, ?_⟩ <;> first | trivial | rfl
  case round =>
    obtain ⟨k, hk, rfl, rfl, hm⟩ := hrel
    by_cases hlt : k < ds.length
    · obtain ⟨b, off, rfl, c0⟩ := (hs.mono hb0).int k hlt
      have hd := Lib.hid (List.drop_eq_getElem_cons hlt)
      clear hs
      generalize ds[k] = d at *
      have HX : Hid (depBad d = (decide (d < -1) || decide (4194304 < d))) := rfl
      by_cases b1 : d < -1
      · have HB : Hid (depBad d = true) := by show _ = _; rw [HX.out]; simp [b1]
        go_wp2_with fail
        go_ret
        exact ⟨ret_bool (by rw [HK.out, hm.out, hd.out, List.any_cons, HB.out]; rfl), by repeat' (first | exact Below.refl _ _ | assumption | refine Below.more ?_ ?_ _ | refine Below.alloc ?_ ?_ _ | refine Below.drew ?_ | refine below_drewN ?_ _ | refine Below.setCell ?_ ?_ _ | exact Below.size (by assumption) | (simp [go_sem, size_more]; done) | (simp [go_sem, size_more]; omega))⟩
      by_cases b2 : 4194304 < d
      · have HB : Hid (depBad d = true) := by show _ = _; rw [HX.out]; simp [b2]
        go_wp2_with fail
        go_ret
        exact ⟨ret_bool (by rw [HK.out, hm.out, hd.out, List.any_cons, HB.out]; rfl), by repeat' (first | exact Below.refl _ _ | assumption | refine Below.more ?_ ?_ _ | refine Below.alloc ?_ ?_ _ | refine Below.drew ?_ | refine below_drewN ?_ _ | refine Below.setCell ?_ ?_ _ | exact Below.size (by assumption) | (simp [go_sem, size_more]; done) | (simp [go_sem, size_more]; omega))⟩
      have HB : Hid (depBad d = false) := by show _ = _; rw [HX.out]; simp; omega
      go_wp2_with fail
      go_roundw
      case rel => exact ⟨k + 1, by omega, by go_num, by first | trivial | rfl, hm.out.trans (by rw [hd.out, List.any_cons, HB.out, Bool.false_or])⟩
      case measure => simp [intOf]; omega
    · go_wp2_with fail
      go_ret
      refine ⟨ret_bool ?_, by repeat' (first | exact Below.refl _ _ | assumption | refine Below.more ?_ ?_ _ | refine Below.alloc ?_ ?_ _ | refine Below.drew ?_ | refine below_drewN ?_ _ | refine Below.setCell ?_ ?_ _ | exact Below.size (by assumption) | (simp [go_sem, size_more]; done) | (simp [go_sem, size_more]; omega))⟩
      rw [HK.out, hm.out, any_false_of_drop k (by omega)]; rfl

end Go.Proofs.Ytdlaghjijfgncaa
