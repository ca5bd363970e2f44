/- Small facts for Valid of networks. Conditions: none. -/
import Derived.Test.YtlcfnbnpkcjjlaaGreatMBase
import Derived.Test.YtlcfnbnpkcjjlaaGreatNo
import Derived.Test.YtlcfnbnpkcjjlaaGreatNf
namespace Go.Proofs.YtlcfnbnpkcjjlaaGreat
open Go.RowKit
set_option linter.unusedVariables false
set_option linter.unusedSimpArgs false

theorem bneT {a b : Int} (h : ¬ a = b) : (a != b) = true := by simp [bne, beqF h]
theorem bneF {a b : Int} (h : a = b) : (a != b) = false := by simp [bne, beqT h]

theorem IsC.lkAt {w : World} {b off : Nat} {xs : List Lk} (h : IsC eLk 11 w (some ⟨b, off, none⟩) xs) (i : Nat) (hi : i < xs.length) :
    w.cell? ⟨b, off + i * 11, none⟩ = some (.string xs[i].Name) ∧ w.cell? ⟨b, off + i * 11 + 1, none⟩ = some (.string xs[i].From) ∧
      w.cell? ⟨b, off + i * 11 + 2, none⟩ = some (.string xs[i].To) ∧ w.cell? ⟨b, off + i * 11 + 3, none⟩ = some (.int .i64 xs[i].Kind) ∧ w.cell? ⟨b, off + i * 11 + 4, none⟩ = some (.int .i64 xs[i].Len) ∧
      w.cell? ⟨b, off + i * 11 + 5, none⟩ = some (.int .i64 xs[i].Up) ∧ w.cell? ⟨b, off + i * 11 + 6, none⟩ = some (.int .i64 xs[i].Down) ∧ w.cell? ⟨b, off + i * 11 + 7, none⟩ = some (.string xs[i].Sec) ∧
      w.cell? ⟨b, off + i * 11 + 8, none⟩ = some (.int .i64 xs[i].Wi) ∧ w.cell? ⟨b, off + i * 11 + 9, none⟩ = some (.int .i64 xs[i].He) ∧ w.cell? ⟨b, off + i * 11 + 10, none⟩ = some (.slice xs[i].Cu.a xs[i].Cu.xs.length xs[i].Cu.cap) := by
  obtain ⟨b', off', e, c⟩ := h.lk i hi
  simp only [Option.some.injEq, Addr.mk.injEq] at e
  obtain ⟨rfl, rfl, _⟩ := e
  exact c

theorem boxLk (w W : World) (T : TypeId) (x : Lk) (cs : Array Value) (hcs : cs = (eLk x).toArray) (B : Nat) (hB : B = w.heap.size + 1) (hb : Below B (w.alloc (.cells cs T)) W) :
    W.cell? ⟨w.heap.size, 0, none⟩ = some (.string x.Name) ∧ W.cell? ⟨w.heap.size, 1, none⟩ = some (.string x.From) ∧
      W.cell? ⟨w.heap.size, 2, none⟩ = some (.string x.To) ∧ W.cell? ⟨w.heap.size, 3, none⟩ = some (.int .i64 x.Kind) ∧ W.cell? ⟨w.heap.size, 4, none⟩ = some (.int .i64 x.Len) ∧
      W.cell? ⟨w.heap.size, 5, none⟩ = some (.int .i64 x.Up) ∧ W.cell? ⟨w.heap.size, 6, none⟩ = some (.int .i64 x.Down) ∧ W.cell? ⟨w.heap.size, 7, none⟩ = some (.string x.Sec) ∧
      W.cell? ⟨w.heap.size, 8, none⟩ = some (.int .i64 x.Wi) ∧ W.cell? ⟨w.heap.size, 9, none⟩ = some (.int .i64 x.He) ∧ W.cell? ⟨w.heap.size, 10, none⟩ = some (.slice x.Cu.a x.Cu.xs.length x.Cu.cap) := by
  have h := ((boxC eLk_len w T x cs hcs).mono (w' := W) (by rw [hB] at hb; simpa using hb)).lkAt 0 (by simp)
  simpa using h

theorem netB_bad1 {n : Net} (h : 300 < n.Ns.xs.length) : netB n = false := by
  have : decide (n.Ns.xs.length ≤ 300) = false := decide_eq_false (by omega)
  simp [netB, this]
theorem netB_bad2 {n : Net} (h : 400 < n.Ls.xs.length) : netB n = false := by
  have : decide (n.Ls.xs.length ≤ 400) = false := decide_eq_false (by omega)
  simp [netB, this]
theorem netB_is {n : Net} (h1 : ¬ 300 < n.Ns.xs.length) (h2 : ¬ 400 < n.Ls.xs.length) : netB n = (allFrom (okNd n.Ns.xs) 0 n.Ns.xs.length && allFrom (okLk n.Ns.xs n.Ls.xs) 0 n.Ls.xs.length) := by
  have a : decide (n.Ns.xs.length ≤ 300) = true := decide_eq_true (by omega)
  have b : decide (n.Ls.xs.length ≤ 400) = true := decide_eq_true (by omega)
  simp only [netB, a, b, Bool.true_and]
theorem okNd_at {ns : List Nd} {k : Nat} (h : k < ns.length) : okNd ns k = (ndB ns[k] && decide (findNd ns ns[k].Name = k)) := by
  simp only [okNd, List.getD, List.getElem?_eq_getElem h, Option.getD_some]
theorem okLk_at {ns : List Nd} {ls : List Lk} {k : Nat} (h : k < ls.length) : okLk ns ls k = (lkB ls[k] && decide (findLk ls ls[k].Name = k) && decide (0 ≤ findNd ns ls[k].From) && decide (0 ≤ findNd ns ls[k].To) && !decide ((ns.getD (findNd ns ls[k].From).toNat default).Kind = 3)) := by
  have e : ls.getD k default = ls[k] := by simp [List.getD, List.getElem?_eq_getElem h]
  simp only [okLk, e]

end Go.Proofs.YtlcfnbnpkcjjlaaGreat
