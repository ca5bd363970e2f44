/- The capacity of a node, what a volume is, on both sides. Conditions: the node is an outfall or has a knot. | Plain facts: when a state is right; the cause of a spill as a plain function; edges by index and by name agree in a right network. No function is named. Conditions: none. -/
import Derived.Test.YtjgfgbiohbgcaaaGreatNo
namespace Go.Proofs.YtjgfgbiohbgcaaaGreat
open Go.RowKit
set_option linter.unusedVariables false
set_option linter.unusedSimpArgs false

theorem swithin_any (n lo hi : Int) (w : World) : Calls Tryz.prog 61 #[.int .i64 n, .int .i64 lo, .int .i64 hi] w fun e w' => e = .returned (.bool (btwB n lo hi)) ∧ w' = w := by
  by_cases h1 : lo ≤ n <;> by_cases h2 : n ≤ hi
  all_goals
    go_enter Tryz.func61, Tryz.ntmps61
    go_wp2_with fail
    go_ret
    exact ⟨ret_bool (by simp [btwB, h1, h2]), rfl⟩
def volB (n : Int) : Bool := btwB n 0 1125899906842624
theorem sholds_any (n : Int) (w : World) : Calls Tryz.prog 40 #[.int .i64 n] w fun e w' => e = .returned (.bool (volB n)) ∧ w' = w := by
  have H : Hid (volB n = btwB n 0 1125899906842624) := rfl
  generalize volB n = r at *
  go_enter Tryz.func40, Tryz.ntmps40
  go_wp2_with (go_at_call 61; refine (swithin_any _ _ _ _).mono ?_; rintro e w' ⟨rfl, rfl⟩)
  go_ret
  exact ⟨ret_bool H.out.symm, rfl⟩
theorem r29isv_any (n : Int) (w : World) : Calls Tryz.prog 12 #[.int .i64 n] w fun e w' => e = .returned (.bool (volB n)) ∧ w' = w := by
  by_cases h1 : 0 ≤ n <;> by_cases h2 : n ≤ 1125899906842624
  all_goals
    go_enter Tryz.func12, Tryz.ntmps12
    go_wp2_with fail
    go_ret
    exact ⟨ret_bool (by simp [volB, btwB, h1, h2]), rfl⟩

set_option maxHeartbeats 1000000 in
theorem slast_any (xs : List Kn) (v : Value) (w : World) (hv : IsKns w v xs) (h1 : 1 ≤ xs.length) : Calls Tryz.prog 65 #[v] w fun e w' => e = .returned (vKn (lastK xs)) ∧ Below w.heap.size w w' := by
  obtain ⟨a, cap, rfl, hcap, hbig, hs⟩ := hv
  have hs1 := hs.mono ((Below.refl _ _).alloc (Nat.le_refl _) (.cells #[.int .i64 0, .int .i64 0] 71))
  obtain ⟨b, off, rfl, d1, d2⟩ := hs1.kn (xs.length - 1) (by omega)
  have HL := Lib.hid (lastK_eq h1)
  clear hs hs1
  rw [HL.out]
  clear HL
  generalize xs[xs.length - 1] = xl at *
  obtain ⟨x, y⟩ := xl
  simp only at d1 d2
  go_enter Tryz.func65, Tryz.ntmps65
  go_wp2_with fail
  refine bodyPost_ret (v := .agg #[.int .i64 x, .int .i64 y]) (by simp (maxDischargeDepth := 9) [results, Tryz.results65, go_sem]) rfl ⟨rfl, by repeat' (first | exact Below.refl _ _ | assumption | refine Below.more ?_ ?_ _ | refine Below.alloc ?_ ?_ _ | refine Below.drew ?_ | refine below_drewN ?_ _ | refine Below.setCell ?_ ?_ _ | exact Below.size (by assumption) | (simp [go_sem, size_more]; done) | (simp [go_sem, size_more]; omega))⟩

def capB (x : Nd) : Int := if x.Kind = 3 then 0 else (lastK x.Sh.xs).Y

set_option maxHeartbeats 1000000 in
theorem scap_any (x : Nd) (w : World) (hg : gNd w x) (hok : x.Kind = 3 ∨ 1 ≤ x.Sh.xs.length) : Calls Tryz.prog 39 #[vNd x] w fun e w' => e = .returned (.int .i64 (capB x)) ∧ Below w.heap.size w w' := by
  obtain ⟨nm, kd, ax, ay, iv, gr, ⟨sa, scap, sxs⟩, pr, rs⟩ := x
  have hsh : IsKns w (.slice sa sxs.length scap) sxs := hg.sh.isL
  clear hg
  simp only at hok
  simp only [vNd, vSl]
  by_cases k3 : kd = 3
  · subst k3
    have HC : Hid (capB ⟨nm, 3, ax, ay, iv, gr, ⟨sa, scap, sxs⟩, pr, rs⟩ = 0) := by show _ = _; simp [capB]
    rw [HC.out]
    go_enter Tryz.func39, Tryz.ntmps39
    go_wp2_with fail
    go_ret
    exact ⟨rfl, by repeat' (first | exact Below.refl _ _ | assumption | refine Below.more ?_ ?_ _ | refine Below.alloc ?_ ?_ _ | refine Below.drew ?_ | refine below_drewN ?_ _ | refine Below.setCell ?_ ?_ _ | exact Below.size (by assumption) | (simp [go_sem, size_more]; done) | (simp [go_sem, size_more]; omega))⟩
  · have hlen : 1 ≤ sxs.length := by rcases hok with h | h; exact absurd h k3; exact h
    have HC : Hid (capB ⟨nm, kd, ax, ay, iv, gr, ⟨sa, scap, sxs⟩, pr, rs⟩ = (lastK sxs).Y) := by show _ = _; simp [capB, k3]
    rw [HC.out]
    have n3 := beqF k3
    have hlast := fun W h => slast_any sxs (.slice sa sxs.length scap) W h hlen
    clear k3 hok HC
    generalize lastK sxs = lk at *
    obtain ⟨lx, ly⟩ := lk
    simp only [vKn] at hlast
    have hfd : ∀ w : World, (Instr.field 71 (.agg #[.int .i64 lx, .int .i64 ly]) 1).run Tryz.prog w = .ok (.int .i64 ly) w := fun _ => by kernel_rfl
    go_enter Tryz.func39, Tryz.ntmps39
    go_wp2_with fail
    refine Calls.to (hlast _ (hsh.mono ((Below.refl _ _).alloc (Nat.le_refl _) _))) ?_
    rintro e w1 rfl hb1
    have hbb : Below w.heap.size w w1 := ((Below.refl _ _).alloc (Nat.le_refl _) _).trans (hb1.mono (by simp))
    clear hb1 hsh hlast
    go_wp2_with fail
    go_ret
    exact ⟨rfl, hbb⟩

set_option maxHeartbeats 1000000 in
theorem r29cap_any (x : Nd) (w : World) (hg : gNd w x) (hok : x.Kind = 3 ∨ 1 ≤ x.Sh.xs.length) : Calls Tryz.prog 11 #[vNd x] w fun e w' => e = .returned (.int .i64 (capB x)) ∧ Below w.heap.size w w' := by
  obtain ⟨nm, kd, ax, ay, iv, gr, ⟨sa, scap, sxs⟩, pr, rs⟩ := x
  have hsh : IsKns w (.slice sa sxs.length scap) sxs := hg.sh.isL
  clear hg
  simp only at hok
  simp only [vNd, vSl]
  by_cases k3 : kd = 3
  · subst k3
    have HC : Hid (capB ⟨nm, 3, ax, ay, iv, gr, ⟨sa, scap, sxs⟩, pr, rs⟩ = 0) := by show _ = _; simp [capB]
    rw [HC.out]
    go_enter Tryz.func11, Tryz.ntmps11
    go_wp2_with fail
    go_ret
    exact ⟨rfl, by repeat' (first | exact Below.refl _ _ | assumption | refine Below.more ?_ ?_ _ | refine Below.alloc ?_ ?_ _ | refine Below.drew ?_ | refine below_drewN ?_ _ | refine Below.setCell ?_ ?_ _ | exact Below.size (by assumption) | (simp [go_sem, size_more]; done) | (simp [go_sem, size_more]; omega))⟩
  · have hlen : 1 ≤ sxs.length := by rcases hok with h | h; exact absurd h k3; exact h
    have HC : Hid (capB ⟨nm, kd, ax, ay, iv, gr, ⟨sa, scap, sxs⟩, pr, rs⟩ = (sxs[sxs.length - 1]'(by omega)).Y) := by show _ = _; simp [capB, k3, lastK_eq hlen]
    rw [HC.out]
    have n3 := beqF k3
    clear k3 hok HC
    obtain ⟨a0, c0, e0, hcap, hbig, hs⟩ := hsh
    simp only [Value.slice.injEq] at e0
    obtain ⟨rfl, _, rfl⟩ := e0
    obtain ⟨b, off, rfl, d1, d2⟩ := hs.kn (sxs.length - 1) (by omega)
    clear hs
    generalize sxs[sxs.length - 1] = xl at *
    go_enter Tryz.func11, Tryz.ntmps11
    go_wp2_with fail

    go_ret
    exact ⟨rfl, by repeat' (first | exact Below.refl _ _ | assumption | refine Below.more ?_ ?_ _ | refine Below.alloc ?_ ?_ _ | refine Below.drew ?_ | refine below_drewN ?_ _ | refine Below.setCell ?_ ?_ _ | exact Below.size (by assumption) | (simp [go_sem, size_more]; done) | (simp [go_sem, size_more]; omega))⟩

end Go.Proofs.YtjgfgbiohbgcaaaGreat

namespace Go.Proofs.YtjgfgbiohbgcaaaGreat
open Go.RowKit
set_option linter.unusedVariables false
set_option linter.unusedSimpArgs false

def okV (ns : List Nd) (V P : List Int) (i : Nat) : Bool :=
  btwB (V.getD i 0) 0 (capB (ns.getD i default)) && volB (P.getD i 0) && !(decide ((ns.getD i default).Kind = 3) && !decide (P.getD i 0 = 0))
def okS (ls : List Lk) (S : List Int) (O : List Bool) (i : Nat) : Bool :=
  btwB (S.getD i 0) 0 1000 && !(O.getD i false && !decide ((ls.getD i default).Kind = 4))
def stLen (n : Net) (s : St) : Bool := decide (s.V.xs.length = n.Ns.xs.length) && decide (s.P.xs.length = n.Ns.xs.length) && decide (s.S.xs.length = n.Ls.xs.length) && decide (s.O.xs.length = n.Ls.xs.length)
def stB (n : Net) (s : St) : Bool := stLen n s && (allFrom (okV n.Ns.xs s.V.xs s.P.xs) 0 n.Ns.xs.length && allFrom (okS n.Ls.xs s.S.xs s.O.xs) 0 n.Ls.xs.length)

theorem strB_iff {a b : ByteArray} : strB a b = true ↔ a.toList = b.toList := by simp [strB]
theorem strB_comm (a b : ByteArray) : strB a b = strB b a := by
  rw [Bool.eq_iff_iff, strB_iff, strB_iff]; exact eq_comm
theorem findNd_str {ns : List Nd} {a b : ByteArray} (h : strB a b = true) : findNd ns a = findNd ns b := by
  rw [strB_iff] at h
  unfold findNd strB
  rw [h]

theorem netB_parts {n : Net} (h : netB n = true) : (∀ i, i < n.Ns.xs.length → okNd n.Ns.xs i = true) ∧ (∀ i, i < n.Ls.xs.length → okLk n.Ns.xs n.Ls.xs i = true) := by
  simp only [netB, Bool.and_eq_true, allFrom_iff] at h
  exact ⟨h.1.2, h.2⟩
theorem netB_nd {n : Net} (h : netB n = true) (i : Nat) (hi : i < n.Ns.xs.length) : ndB n.Ns.xs[i] = true ∧ findNd n.Ns.xs n.Ns.xs[i].Name = i := by
  have := (netB_parts h).1 i hi
  simpa [okNd, List.getD, List.getElem?_eq_getElem hi] using this
theorem netB_lk {n : Net} (h : netB n = true) (i : Nat) (hi : i < n.Ls.xs.length) : 0 ≤ findNd n.Ns.xs n.Ls.xs[i].From ∧ 0 ≤ findNd n.Ns.xs n.Ls.xs[i].To := by
  have := (netB_parts h).2 i hi
  simp [okLk, List.getD, List.getElem?_eq_getElem hi] at this
  omega
/-- A node that is right is an outfall or has a knot. -/
theorem ndB_knot {x : Nd} (h : ndB x = true) : x.Kind = 3 ∨ 1 ≤ x.Sh.xs.length := by
  by_cases k : x.Kind = 1 ∨ x.Kind = 2
  · right
    simp only [ndB, Bool.and_eq_true, kindNdB, if_pos k, shapeB] at h
    exact (tabB_len h.2.1.1.2.1.1.1).1
  · left
    simp only [ndB, Bool.and_eq_true, kindNdB, if_neg k] at h
    by_cases k3 : x.Kind = 3
    · exact k3
    · rw [if_neg k3] at h; simp at h
theorem ndB_lvl {x : Nd} (h : ndB x = true) : (-4194304 ≤ x.Inv ∧ x.Inv ≤ 4194304) ∧ (-4194304 ≤ x.Gr ∧ x.Gr ≤ 4194304) := by
  simp only [ndB, Bool.and_eq_true, lvlB, decide_eq_true_eq] at h
  exact ⟨h.1.1.2, h.1.2⟩

/-- The edge of a link begins at a node just where it bears its name. -/
theorem edge_at {n : Net} (h : netB n = true) (i : Nat) (hi : i < n.Ns.xs.length) (j : Nat) (hj : j < n.Ls.xs.length) :
    decide (findNd n.Ns.xs n.Ls.xs[j].From = (i : Int)) = strB n.Ls.xs[j].From n.Ns.xs[i].Name := by
  rw [Bool.eq_iff_iff, decide_eq_true_eq]
  constructor
  · intro he
    obtain ⟨h1, h2⟩ := idxFrom_at (fun x : Nd => strB x.Name n.Ls.xs[j].From) n.Ns.xs 0 i (by rw [Nat.zero_add]; exact he)
    rw [strB_comm]; exact h2
  · intro hs
    rw [findNd_str hs]
    exact (netB_nd h i hi).2

/-- Where the first link from a node leads; -1 if there is none. -/
def nextM (ns : List Nd) (nm : ByteArray) : List Lk → Int
  | [] => -1
  | l :: r => if strB l.From nm then findNd ns l.To else nextM ns nm r
def fullM (ns : List Nd) (V : List Int) (i : Nat) : Bool := !decide ((ns.getD i default).Kind = 3) && decide (V.getD i 0 = capB (ns.getD i default))
def nmAt (ns : List Nd) (i : Nat) : ByteArray := (ns.getD i default).Name
def lastI (w : List Int) : Int := w.getD (w.length - 1) 0
def causeM (ns : List Nd) (ls : List Lk) (V : List Int) : Nat → List Int → Int
  | 0, w => lastI w
  | f + 1, w =>
    let k := nextM ns (nmAt ns (lastI w).toNat) ls
    if k < 0 then lastI w else if w.contains k then lastI w else if fullM ns V k.toNat then causeM ns ls V f (w ++ [k]) else lastI w

def edgesM (ns : List Nd) (ls : List Lk) : List (Int × Int) := ls.map fun l => (findNd ns l.From, findNd ns l.To)

theorem nextM_bd (ns : List Nd) (nm : ByteArray) : ∀ ls : List Lk, -1 ≤ nextM ns nm ls ∧ nextM ns nm ls < (ns.length : Int) ∨ nextM ns nm ls = -1
  | [] => .inr rfl
  | l :: r => by
    simp only [nextM]
    split
    · exact .inl (findNd_bd ns l.To)
    · exact nextM_bd ns nm r

/-- The first edge from a node, by its index. -/
theorem next_edge {n : Net} (h : netB n = true) (i : Nat) (hi : i < n.Ns.xs.length) : ∀ (d j : Nat), j + d = n.Ls.xs.length →
    (idxFrom (fun x : Int × Int => decide (x.1 = (i : Int))) ((edgesM n.Ns.xs n.Ls.xs).drop j) j = -1 ∧ nextM n.Ns.xs n.Ns.xs[i].Name (n.Ls.xs.drop j) = -1) ∨
    ∃ m : Nat, idxFrom (fun x : Int × Int => decide (x.1 = (i : Int))) ((edgesM n.Ns.xs n.Ls.xs).drop j) j = (m : Int) ∧ m < n.Ls.xs.length ∧ nextM n.Ns.xs n.Ns.xs[i].Name (n.Ls.xs.drop j) = findNd n.Ns.xs (n.Ls.xs.getD m default).To
  | 0, j, hj => by
    left
    have hl : (edgesM n.Ns.xs n.Ls.xs).length = n.Ls.xs.length := by simp [edgesM]
    rw [List.drop_eq_nil_of_le (by omega), List.drop_eq_nil_of_le (by omega)]
    exact ⟨rfl, rfl⟩
  | d + 1, j, hj => by
    have hl : (edgesM n.Ns.xs n.Ls.xs).length = n.Ls.xs.length := by simp [edgesM]
    have hjl : j < n.Ls.xs.length := by omega
    rw [List.drop_eq_getElem_cons (l := n.Ls.xs) hjl, List.drop_eq_getElem_cons (l := edgesM n.Ns.xs n.Ls.xs) (by omega)]
    have he : (edgesM n.Ns.xs n.Ls.xs)[j]'(by omega) = (findNd n.Ns.xs n.Ls.xs[j].From, findNd n.Ns.xs n.Ls.xs[j].To) := by simp [edgesM]
    have hq := edge_at h i hi j hjl
    simp only [idxFrom, nextM, he, hq]
    cases hs : strB n.Ls.xs[j].From n.Ns.xs[i].Name with
    | true =>
      right
      refine ⟨j, by simp, hjl, ?_⟩
      simp [List.getD, List.getElem?_eq_getElem hjl]
    | false =>
      have := next_edge h i hi d (j + 1) (by omega)
      simpa using this

end Go.Proofs.YtjgfgbiohbgcaaaGreat
