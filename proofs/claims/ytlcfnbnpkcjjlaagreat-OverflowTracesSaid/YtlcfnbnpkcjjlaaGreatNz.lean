/- Plain facts: when a state is right; the cause of a spill as a plain function; edges by index and by name agree in a right network. No function is named. Conditions: none. -/
import Derived.Test.YtlcfnbnpkcjjlaaGreatNc
namespace Go.Proofs.YtlcfnbnpkcjjlaaGreat
open Go.RowKit
set_option linter.unusedVariables false
set_option linter.unusedSimpArgs false

def okV (ns : List Nd) (V P : List Int) (i : Nat) : Bool :=
  btwB (V.getD i 0) 0 (capB (ns.getD i default)) && volB (P.getD i 0) && !(decide ((ns.getD i default).Kind = 3) && !decide (P.getD i 0 = 0))
def okS (ls : List Lk) (S : List Int) (O : List Bool) (i : Nat) : Bool :=
  btwB (S.getD i 0) 0 1000 && !(O.getD i false && !decide ((ls.getD i default).Kind = 4))
def stLen (n : Net) (s : St) : Bool := decide (s.V.xs.length = n.Ns.xs.length) && decide (s.P.xs.length = n.Ns.xs.length) && decide (s.S.xs.length = n.Ls.xs.length) && decide (s.O.xs.length = n.Ls.xs.length)
def stB (n : Net) (s : St) : Bool := stLen n s && (allFrom (okV n.Ns.xs s.V.xs s.P.xs) 0 n.Ns.xs.length && allFrom (okS n.Ls.xs s.S.xs s.O.xs) 0 n.Ls.xs.length)

theorem strB_iff {a b : ByteArray} : strB a b = true ↔ a.toList = b.toList := by simp [strB]
theorem strB_comm (a b : ByteArray) : strB a b = strB b a := by
  rw [Bool.eq_iff_iff, strB_iff, strB_iff]; exact eq_comm
theorem findNd_str {ns : List Nd} {a b : ByteArray} (h : strB a b = true) : findNd ns a = findNd ns b := by
  rw [strB_iff] at h
  unfold findNd strB
  rw [h]

theorem netB_parts {n : Net} (h : netB n = true) : (∀ i, i < n.Ns.xs.length → okNd n.Ns.xs i = true) ∧ (∀ i, i < n.Ls.xs.length → okLk n.Ns.xs n.Ls.xs i = true) := by
  simp only [netB, Bool.and_eq_true, allFrom_iff] at h
  exact ⟨h.1.2, h.2⟩
theorem netB_nd {n : Net} (h : netB n = true) (i : Nat) (hi : i < n.Ns.xs.length) : ndB n.Ns.xs[i] = true ∧ findNd n.Ns.xs n.Ns.xs[i].Name = i := by
  have := (netB_parts h).1 i hi
  simpa [okNd, List.getD, List.getElem?_eq_getElem hi] using this
theorem netB_lk {n : Net} (h : netB n = true) (i : Nat) (hi : i < n.Ls.xs.length) : 0 ≤ findNd n.Ns.xs n.Ls.xs[i].From ∧ 0 ≤ findNd n.Ns.xs n.Ls.xs[i].To := by
  have := (netB_parts h).2 i hi
  simp [okLk, List.getD, List.getElem?_eq_getElem hi] at this
  omega
/-- A node that is right is an outfall or has a knot. -/
theorem ndB_knot {x : Nd} (h : ndB x = true) : x.Kind = 3 ∨ 1 ≤ x.Sh.xs.length := by
  by_cases k : x.Kind = 1 ∨ x.Kind = 2
  · right
    simp only [ndB, Bool.and_eq_true, kindNdB, if_pos k, shapeB] at h
    exact (tabB_len h.2.1.1.2.1.1.1).1
  · left
    simp only [ndB, Bool.and_eq_true, kindNdB, if_neg k] at h
    by_cases k3 : x.Kind = 3
    · exact k3
    · rw [if_neg k3] at h; simp at h
theorem ndB_lvl {x : Nd} (h : ndB x = true) : (-4194304 ≤ x.Inv ∧ x.Inv ≤ 4194304) ∧ (-4194304 ≤ x.Gr ∧ x.Gr ≤ 4194304) := by
  simp only [ndB, Bool.and_eq_true, lvlB, decide_eq_true_eq] at h
  exact ⟨h.1.1.2, h.1.2⟩

/-- The edge of a link begins at a node just where it bears its name. -/
theorem edge_at {n : Net} (h : netB n = true) (i : Nat) (hi : i < n.Ns.xs.length) (j : Nat) (hj : j < n.Ls.xs.length) :
    decide (findNd n.Ns.xs n.Ls.xs[j].From = (i : Int)) = strB n.Ls.xs[j].From n.Ns.xs[i].Name := by
  rw [Bool.eq_iff_iff, decide_eq_true_eq]
  constructor
  · intro he
    obtain ⟨h1, h2⟩ := idxFrom_at (fun x : Nd => strB x.Name n.Ls.xs[j].From) n.Ns.xs 0 i (by rw [Nat.zero_add]; exact he)
    rw [strB_comm]; exact h2
  · intro hs
    rw [findNd_str hs]
    exact (netB_nd h i hi).2

/-- Where the first link from a node leads; -1 if there is none. -/
def nextM (ns : List Nd) (nm : ByteArray) : List Lk → Int
  | [] => -1
  | l :: r => if strB l.From nm then findNd ns l.To else nextM ns nm r
def fullM (ns : List Nd) (V : List Int) (i : Nat) : Bool := !decide ((ns.getD i default).Kind = 3) && decide (V.getD i 0 = capB (ns.getD i default))
def nmAt (ns : List Nd) (i : Nat) : ByteArray := (ns.getD i default).Name
def lastI (w : List Int) : Int := w.getD (w.length - 1) 0
def causeM (ns : List Nd) (ls : List Lk) (V : List Int) : Nat → List Int → Int
  | 0, w => lastI w
  | f + 1, w =>
    let k := nextM ns (nmAt ns (lastI w).toNat) ls
    if k < 0 then lastI w else if w.contains k then lastI w else if fullM ns V k.toNat then causeM ns ls V f (w ++ [k]) else lastI w

def edgesM (ns : List Nd) (ls : List Lk) : List (Int × Int) := ls.map fun l => (findNd ns l.From, findNd ns l.To)

theorem nextM_bd (ns : List Nd) (nm : ByteArray) : ∀ ls : List Lk, -1 ≤ nextM ns nm ls ∧ nextM ns nm ls < (ns.length : Int) ∨ nextM ns nm ls = -1
  | [] => .inr rfl
  | l :: r => by
    simp only [nextM]
    split
    · exact .inl (findNd_bd ns l.To)
    · exact nextM_bd ns nm r

/-- The first edge from a node, by its index. -/
theorem next_edge {n : Net} (h : netB n = true) (i : Nat) (hi : i < n.Ns.xs.length) : ∀ (d j : Nat), j + d = n.Ls.xs.length →
    (idxFrom (fun x : Int × Int => decide (x.1 = (i : Int))) ((edgesM n.Ns.xs n.Ls.xs).drop j) j = -1 ∧ nextM n.Ns.xs n.Ns.xs[i].Name (n.Ls.xs.drop j) = -1) ∨
    ∃ m : Nat, idxFrom (fun x : Int × Int => decide (x.1 = (i : Int))) ((edgesM n.Ns.xs n.Ls.xs).drop j) j = (m : Int) ∧ m < n.Ls.xs.length ∧ nextM n.Ns.xs n.Ns.xs[i].Name (n.Ls.xs.drop j) = findNd n.Ns.xs (n.Ls.xs.getD m default).To
  | 0, j, hj => by
    left
    have hl : (edgesM n.Ns.xs n.Ls.xs).length = n.Ls.xs.length := by simp [edgesM]
    rw [List.drop_eq_nil_of_le (by omega), List.drop_eq_nil_of_le (by omega)]
    exact ⟨rfl, rfl⟩
  | d + 1, j, hj => by
    have hl : (edgesM n.Ns.xs n.Ls.xs).length = n.Ls.xs.length := by simp [edgesM]
    have hjl : j < n.Ls.xs.length := by omega
    rw [List.drop_eq_getElem_cons (l := n.Ls.xs) hjl, List.drop_eq_getElem_cons (l := edgesM n.Ns.xs n.Ls.xs) (by omega)]
    have he : (edgesM n.Ns.xs n.Ls.xs)[j]'(by omega) = (findNd n.Ns.xs n.Ls.xs[j].From, findNd n.Ns.xs n.Ls.xs[j].To) := by simp [edgesM]
    have hq := edge_at h i hi j hjl
    simp only [idxFrom, nextM, he, hq]
    cases hs : strB n.Ls.xs[j].From n.Ns.xs[i].Name with
    | true =>
      right
      refine ⟨j, by simp, hjl, ?_⟩
      simp [List.getD, List.getElem?_eq_getElem hjl]
    | false =>
      have := next_edge h i hi d (j + 1) (by omega)
      simpa using this

end Go.Proofs.YtlcfnbnpkcjjlaaGreat
