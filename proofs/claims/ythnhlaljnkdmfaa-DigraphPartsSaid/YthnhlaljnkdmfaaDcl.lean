/- The closure as rows of marks in memory: what is read of it, ContainsFunc over its rows. Conditions: the graph is valid. -/
import Derived.Test.YthnhlaljnkdmfaaDlr
namespace Go.Proofs.Ythnhlaljnkdmfaa
open Go.RowKit
set_option linter.unusedVariables false
set_option linter.unusedSimpArgs false

/-- Whether one node reaches another. -/
noncomputable def cB (N : Nat) (G : List (Nat × Nat)) (v j : Nat) : Bool := (Gp.reachL N G [v]).getD j false
theorem cB_iff {N : Nat} {G : List (Nat × Nat)} {v j : Nat} (hj : j < N) : cB N G v j = true ↔ Gp.Rch G v j := by
  unfold cB
  rw [Gp.reachL_get hj]
  constructor
  · rintro ⟨s, hs, h⟩
    rw [List.mem_singleton] at hs; subst hs
    exact h
  · intro h
    exact ⟨v, List.mem_singleton.2 rfl, h⟩
theorem clo_cells {N : Nat} {G : List (Nat × Nat)} {base : Nat} {w : World} {rg n c : Nat} {vs : List Value} (h : OwnR base 39 4 eBool 1 w (.slice (some ⟨rg, 0, none⟩) n c) vs (cloL N G N)) {v : Nat} (hv : v < N) :
    ∃ ra rc, w.cell? ⟨rg, v, none⟩ = some (.slice (some ⟨ra, 0, none⟩) N rc) ∧ ∀ j, j < N → w.cell? ⟨ra, j, none⟩ = some (.bool (cB N G v j)) := by
  have hvl : vs.length = N := by have := h.len; rw [cloL_len] at this; exact this
  have hv' : v < vs.length := by omega
  have hrow := h.row v hv' (by rw [cloL_len]; exact hv)
  rw [cloL_get hv] at hrow
  have hrl := Gp.reachL_len N G [v]
  obtain ⟨ra, rc, he, _⟩ := hrow.place (by omega)
  have q := h.cellv v hv'
  rw [he, hrl] at q
  refine ⟨ra, rc, q, fun j hj => ?_⟩
  rw [he] at hrow
  have hj' : j < (Gp.reachL N G [v]).length := by omega
  have := hrow.boolAt j hj'
  rw [this]
  unfold cB
  rw [getD_at hj']

abbrev IsVs (w : World) (v : Value) (xs : List Value) : Prop := IsL eV 1 w v xs
abbrev vV (x : Value) : Value := x
theorem IsC.valc {w : World} {a : Option Addr} {xs : List Value} (h : IsC eV 1 w a xs) (i : Nat) (hi : i < xs.length) :
    ∃ b off, a = some ⟨b, off, none⟩ ∧ w.cell? ⟨b, off + i, none⟩ = some xs[i] := by
  obtain ⟨b, off, e, hc⟩ := h i hi
  refine ⟨b, off, e, ?_⟩
  have := hc 0 (by omega)
  simpa using this
set_option maxHeartbeats 1000000 in
theorem indexB (g : Nat) (lb : Array Value) (eg : ∀ args w, (callFunc g args).run Try.prog w = .ok (.enter g args) w) (p : Value → Bool) (xs : List Value) (v : Value) (w : World)
    (hv : IsVs w v xs) (hp : PredOn Try.prog g lb vV p xs w) :
    Calls Try.prog 57 #[v, .func (.func g) #[] lb] w fun e w' => e = .returned (.int .i64 (idxFrom p xs 0)) ∧ Below w.heap.size w w' := by
  obtain ⟨a, cap, rfl, hcap, hbig, hs⟩ := hv
  go_enter Try.func57, Try.ntmps57
  go_wp2
  go_loopw [5, 8] (fun _ s8 wr => ∃ k : Nat, k ≤ xs.length ∧ s8 = .int .i64 k ∧ Below w.heap.size w wr ∧ Hid (idxFrom p xs 0 = idxFrom p (xs.drop k) k)) (fun _ i _ => xs.length - (intOf i).toNat)
  case atStart => exact ⟨0, Nat.zero_le _, rfl, Below.refl _ _, rfl⟩
  case round =>
    obtain ⟨k, hk, rfl, hb, hm⟩ := hrel
    by_cases hlt : k < xs.length
    · obtain ⟨b, off, rfl, c0⟩ := (hs.mono hb).valc k hlt
      have hx := hp wr hb xs[k] (List.getElem_mem hlt)
      have hstep : Hid (idxFrom p (xs.drop k) k = if p xs[k] then (k : Int) else idxFrom p (xs.drop (k + 1)) (k + 1)) := by
        rw [List.drop_eq_getElem_cons hlt]; rfl
      clear hs hp
      generalize xs[k] = y at *
      cases hpy : p y
      all_goals
        rw [hpy] at hx hstep
        clear hpy
        go_wp2_with fail
        refine (Calls.to hx ?_)
        rintro e w1 rfl hb1
        have hbb := hb.trans (hb1.mono hb.size)
        go_wp2_with fail
      · go_roundw
        case rel => exact ⟨k + 1, by omega, by go_num, by repeat' (first | exact Below.refl _ _ | assumption | refine Below.more ?_ ?_ _ | refine Below.alloc ?_ ?_ _ | refine Below.drew ?_ | refine below_drewN ?_ _ | refine Below.setCell ?_ ?_ _ | exact Below.size (by assumption) | (simp [go_sem, size_more]; done) | (simp [go_sem, size_more]; omega)), hm.out.trans (hstep.out.trans (by simp))⟩
        case measure => simp [intOf]; omega
      · go_ret
        exact ⟨ret_int (hm.out.trans (hstep.out.trans (by simp))).symm, by repeat' (first | exact Below.refl _ _ | assumption | refine Below.more ?_ ?_ _ | refine Below.alloc ?_ ?_ _ | refine Below.drew ?_ | refine below_drewN ?_ _ | refine Below.setCell ?_ ?_ _ | exact Below.size (by assumption) | (simp [go_sem, size_more]; done) | (simp [go_sem, size_more]; omega))⟩
    · go_wp2
      go_ret
      refine ⟨ret_int ?_, by repeat' (first | exact Below.refl _ _ | assumption | refine Below.more ?_ ?_ _ | refine Below.alloc ?_ ?_ _ | refine Below.drew ?_ | refine below_drewN ?_ _ | refine Below.setCell ?_ ?_ _ | exact Below.size (by assumption) | (simp [go_sem, size_more]; done) | (simp [go_sem, size_more]; omega))⟩
      rw [hm.out, List.drop_eq_nil_of_le (by omega)]; rfl

set_option maxHeartbeats 400000 in
theorem containsB (g : Nat) (lb : Array Value) (eg : ∀ args w, (callFunc g args).run Try.prog w = .ok (.enter g args) w) (p : Value → Bool) (xs : List Value) (v : Value) (w : World)
    (hv : IsVs w v xs) (hp : PredOn Try.prog g lb vV p xs w) :
    Calls Try.prog 36 #[v, .func (.func g) #[] lb] w fun e w' => e = .returned (.bool (xs.any p)) ∧ Below w.heap.size w w' := by
  go_enter Try.func36, Try.ntmps36
  go_wp2_with fail
  refine Calls.to (indexB g lb eg p xs v w hv hp) ?_
  rintro e w1 rfl hb
  go_wp2_with fail
  go_ret
  exact ⟨ret_bool (idxFrom_any p xs 0), hb⟩


end Go.Proofs.Ythnhlaljnkdmfaa
