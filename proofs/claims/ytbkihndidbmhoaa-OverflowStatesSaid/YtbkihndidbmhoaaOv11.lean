/- crowded, Of and Total on both sides. Conditions: none. -/
import Derived.Test.YtbkihndidbmhoaaSta
namespace Go.Proofs.Ytbkihndidbmhoaa
open Go.RowKit
set_option linter.unusedVariables false
set_option linter.unusedSimpArgs false

def manyP (n : Int) : Bool := (decide (20 < n) && decide (n ≤ 300)) || decide (310 < n)
theorem ent47 : ∀ args w, (callFunc 47 args).run Try.prog w = .ok (.enter 47 args) w := by
  intro args w
  simp [go_sem]
theorem ent48 : ∀ args w, (callFunc 48 args).run Try.prog w = .ok (.enter 48 args) w := by
  intro args w
  simp [go_sem]

set_option maxHeartbeats 1000000 in
theorem crowded1 (s : St) (w : World) : Calls Try.prog 47 #[vSt s] w fun e w' => e = .returned (.bool (manyP s.P.xs.length)) ∧ Below w.heap.size w w' := by
  obtain ⟨V, ⟨aP, cP, P⟩, S, O⟩ := s
  unfold manyP
  by_cases h1 : 20 < (P.length : Int) <;> by_cases h2 : (P.length : Int) ≤ 300 <;> by_cases h3 : 310 < (P.length : Int) <;> first | (exfalso; omega) | skip
  all_goals
    go_enter Try.func47, Try.ntmps47
    go_wp2_with fail
    go_ret
    exact ⟨ret_bool (by simp <;> omega), by repeat' (first | exact Below.refl _ _ | assumption | refine Below.more ?_ ?_ _ | refine Below.alloc ?_ ?_ _ | refine Below.drew ?_ | refine below_drewN ?_ _ | refine Below.setCell ?_ ?_ _ | exact Below.size (by assumption) | (simp [go_sem, size_more]; done) | (simp [go_sem, size_more]; omega))⟩

set_option maxHeartbeats 1000000 in
theorem total1 (s : St) (w : World) : Calls Try.prog 48 #[vSt s] w fun e w' => e = .returned (.bool (decide (300 < (s.P.xs.length : Int)))) ∧ Below w.heap.size w w' := by
  obtain ⟨V, ⟨aP, cP, P⟩, S, O⟩ := s
  go_enter Try.func48, Try.ntmps48
  go_wp2_with fail
  go_ret
  exact ⟨ret_bool (by simp <;> omega), by repeat' (first | exact Below.refl _ _ | assumption | refine Below.more ?_ ?_ _ | refine Below.alloc ?_ ?_ _ | refine Below.drew ?_ | refine below_drewN ?_ _ | refine Below.setCell ?_ ?_ _ | exact Below.size (by assumption) | (simp [go_sem, size_more]; done) | (simp [go_sem, size_more]; omega))⟩

def crowdB (xs : List St) : Bool := (decide (30 < xs.length) && decide (xs.length ≤ 10000)) || decide (10010 < xs.length) || xs.any fun s => manyP s.P.xs.length

set_option maxHeartbeats 1000000 in
theorem crowded_any (xs : List St) (v : Value) (w : World) (hv : IsSts w v xs) :
    Calls Try.prog 20 #[v] w fun e w' => e = .returned (.bool (crowdB xs)) ∧ Below w.heap.size w w' := by
  have hv' := hv
  obtain ⟨a, cap, rfl, hcap, hbig, hs⟩ := hv
  unfold crowdB
  by_cases h3 : 10010 < xs.length
  · have d2 : decide (xs.length ≤ 10000) = false := by simp; omega
    have d1 : decide (30 < xs.length) = true := by simp; omega
    have d3 : decide (10010 < xs.length) = true := by simpa using h3
    go_enter Try.func20, Try.ntmps20
    go_wp2_with fail
    go_ret
    exact ⟨ret_bool (by simp only [d3]; try simp; try (intro h; omega)), Below.refl _ _⟩
  · have d3 : decide (10010 < xs.length) = false := by simpa using h3
    by_cases h1 : 30 < xs.length
    · have d1 : decide (30 < xs.length) = true := by simpa using h1
      by_cases h2 : xs.length ≤ 10000
      · have d2 : decide (xs.length ≤ 10000) = true := by simpa using h2
        go_enter Try.func20, Try.ntmps20
        go_wp2_with fail
        go_ret
        exact ⟨ret_bool (by simp only [d1, d2]; try simp; try (intro h; omega)), Below.refl _ _⟩
      · have d2 : decide (xs.length ≤ 10000) = false := by simpa using h2
        go_enter Try.func20, Try.ntmps20
        go_wp2_with fail
        refine Calls.to (containsSts 47 #[] ent47 (fun s => manyP s.P.xs.length) xs _ w hv' (fun W _ x _ => crowded1 x W)) ?_
        rintro e w1 rfl hb
        go_wp2_with fail
        go_ret
        exact ⟨ret_bool (by simp only [d1, d2, d3]; try simp; try (intro h; omega)), hb⟩
    · have d1 : decide (30 < xs.length) = false := by simpa using h1
      go_enter Try.func20, Try.ntmps20
      go_wp2_with fail
      refine Calls.to (containsSts 47 #[] ent47 (fun s => manyP s.P.xs.length) xs _ w hv' (fun W _ x _ => crowded1 x W)) ?_
      rintro e w1 rfl hb
      go_wp2_with fail
      go_ret
      exact ⟨ret_bool (by simp only [d1, d3]; try simp; try (intro h; omega)), hb⟩

/-- The volumes of a node in some states; none if there is no such node in one of them. -/
def ofGo (node : Int) : List St → List Int → Option (List Int)
  | [], out => some out
  | s :: r, out => if node < 0 ∨ (s.P.xs.length : Int) ≤ node then none else ofGo node r (out ++ [s.P.xs.getD node.toNat 0])

def ofM (xs : List St) (node : Int) : List Ev × Int :=
  if 10000 < xs.length then ([], 4)
  else match ofGo node xs [] with
    | none => ([], 2)
    | some l => spillsM l 1

set_option maxRecDepth 100000 in
set_option maxHeartbeats 2000000 in
theorem of_any (xs : List St) (v : Value) (node : Int) (w : World) (hv : IsSts w v xs) (hg : ∀ x ∈ xs, gSt w x) :
    Calls Try.prog 21 #[v, .int .i64 node] w fun e w' => (∃ v', e = .returned (.tuple #[v', .int .i64 (ofM xs node).2]) ∧ Own w.heap.size 33 eEv 4 w' v' (ofM xs node).1) ∧ Below w.heap.size w w' := by
  obtain ⟨a, cap, rfl, hcap, hbig, hs⟩ := hv
  by_cases h1 : 10000 < xs.length
  · go_enter Try.func21, Try.ntmps21
    go_wp2_with fail
    go_ret2
    have hR : ofM xs node = ([], 4) := by simp [ofM, h1]
    rw [hR]
    exact ⟨⟨_, rfl, World.ownsRow_nil _ _ _ _⟩, Below.refl _ _⟩
  · have HG := Lib.hid hg
    clear hg
    go_enter Try.func21, Try.ntmps21
    go_wp2_with (refine wpList_mk0 _ rfl _ _ 22 rfl w.heap.size 3 _ 1 8 undInts infInt eInt _ xs.length rfl rfl rfl (by omega) (by omega) (Nat.le_refl _) ?_; intro w1 hown1 hb1)
    go_loopw [6, 17] (fun s6 s17 wr => ∃ (k : Nat) (out : List Int), k ≤ xs.length ∧ s17 = .int .i64 k ∧ out.length = k ∧ Own w.heap.size 3 eInt 1 wr s6 out ∧ Below w.heap.size w wr ∧ Hid (ofGo node xs [] = ofGo node (xs.drop k) out)) (fun _ i _ => xs.length - (intOf i).toNat)
    case atStart => exact ⟨0, [], Nat.zero_le _, rfl, rfl, hown1, hb1, rfl⟩
    case round =>
      obtain ⟨k, out, hk, rfl, hol, hown, hb, hm⟩ := hrel
      have hol' := Lib.hid hol
      have hlo : out.length < 2147483648 := by omega
      have hsz := hb.size
      clear hol
      by_cases hlt : k < xs.length
      · obtain ⟨b, off, rfl, c0, c1, c2, c3⟩ := (hs.mono hb).st k hlt
        have hgk := ((HG.out _ (List.getElem_mem hlt)).2.1).later hb
        have hdrop : Hid (xs.drop k = xs[k] :: xs.drop (k + 1)) := List.drop_eq_getElem_cons hlt
        clear hs
        generalize xs[k] = x at *
        obtain ⟨V, ⟨aP, cP, P⟩, S, O⟩ := x
        obtain ⟨q1, q2, q3, q4⟩ := hgk
        simp only at q1 q2 q3 q4 c1
        by_cases hn : node < 0 ∨ (P.length : Int) ≤ node
        · have hR : ofM xs node = ([], 2) := by simp [ofM, h1, hm.out, hdrop.out, ofGo, hn]
          have HR := Lib.hid hR
          clear hR
          by_cases hn0 : node < 0
          all_goals
            go_wp2_with fail
            go_ret2
            rw [HR.out]
            exact ⟨⟨_, rfl, World.ownsRow_nil _ _ _ _⟩, by repeat' (first | exact Below.refl _ _ | assumption | refine Below.more ?_ ?_ _ | refine Below.alloc ?_ ?_ _ | refine Below.drew ?_ | refine below_drewN ?_ _ | refine Below.setCell ?_ ?_ _ | exact Below.size (by assumption) | (simp [go_sem, size_more]; done) | (simp [go_sem, size_more]; omega))⟩
        · obtain ⟨i, rfl⟩ : ∃ i : Nat, node = i := ⟨node.toNat, by omega⟩
          have hi : i < P.length := by omega
          obtain ⟨b2, off2, rfl, d0⟩ := q3.int i hi
          have hstep : Hid (ofGo i xs [] = ofGo i (xs.drop (k + 1)) (out ++ [P[i]])) := by
            show _ = _
            rw [hm.out, hdrop.out, ofGo, if_neg hn]
            simp [List.getD, List.getElem?_eq_getElem hi]
          clear hn
          generalize P[i] = y at *
          go_wp2_with (at_builtin; go_must (refine wpList_pushB rfl _ _ 22 rfl 3 _ 1 8 undInts infInt rfl (by decide) y (fun _ => rfl) (by simp [Value.oneCell']) _ out rfl (hown.below ((Below.refl _ _).alloc (Nat.le_refl _) _)) _ rfl (by simp) hlo (by decide) (by simp; omega) _ rfl ?_); intro g3 cap3 w2 hown2 hbg2 hgl2 hb2 hc21 hc22)
          have hbb2 := ((hb.alloc hb.size _).trans hb2)
          go_wp2_with fail
          go_roundw
          case measure => simp [intOf]; omega
          case rel => exact ⟨k + 1, _, by omega, by go_num, by rw [List.length_append, hol'.out]; rfl, hown2, hbb2, hstep.out⟩
      · have hR : ofM xs node = spillsM out 1 := by
          have h2 := hm.out
          rw [List.drop_eq_nil_of_le (by omega)] at h2
          simp [ofM, h1, h2, ofGo]
        have HR := Lib.hid hR
        clear hR
        have hI := hown.isL (fun _ => rfl)
        go_wp2_with fail
        refine Calls.to (spillsX_any out _ 1 _ hI) ?_
        rintro e w3 ⟨v', rfl, hown3⟩ hb3
        go_wp2_with fail
        go_ret2
        rw [HR.out]
        exact ⟨⟨_, rfl, hown3.base hb.size⟩, hb.trans (hb3.mono hb.size)⟩

end Go.Proofs.Ytbkihndidbmhoaa
