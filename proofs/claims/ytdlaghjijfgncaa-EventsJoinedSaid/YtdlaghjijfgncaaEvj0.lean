/- Joining events: the plain function. No function of the program is named. Conditions: none. -/
import Derived.Test.YtdlaghjijfgncaaEvn
import Derived.Test.YtdlaghjijfgncaaEvt
namespace Go.Proofs.Ytdlaghjijfgncaa
open Go.RowKit
set_option linter.unusedVariables false
set_option linter.unusedSimpArgs false

def lastEv (out : List Ev) : Ev := out.getD (out.length - 1) default
def jFar (gap : Int) (x : Ev) (out : List Ev) : Bool := decide (out.length = 0) || decide (gap ≤ x.From - (lastEv out).To)
def jMrg (y x : Ev) : Ev := ⟨y.From, x.To, y.Total + x.Total, if y.Peak < x.Peak then x.Peak else y.Peak⟩
def jStep (gap : Int) (x : Ev) (out : List Ev) : List Ev := if jFar gap x out then out ++ [x] else out.set (out.length - 1) (jMrg (lastEv out) x)
def jBig (gap : Int) (x : Ev) (out : List Ev) : Bool := !jFar gap x out && decide (1099511627776 < (lastEv out).Total + x.Total)
def joinGo (gap : Int) : List Ev → List Ev → Bool → List Ev × Bool
  | [], out, b => (out, b)
  | x :: r, out, b => joinGo gap r (jStep gap x out) (b || jBig gap x out)
theorem joinGo_true (gap : Int) : ∀ (l out : List Ev), (joinGo gap l out true).2 = true
  | [], _ => rfl
  | x :: r, out => by simp only [joinGo, Bool.true_or]; exact joinGo_true gap r _

structure JOk (k : Nat) (out : List Ev) : Prop where
  len : out.length ≤ k
  all : ∀ e ∈ out, 0 ≤ e.To ∧ e.To ≤ 10000 ∧ 0 ≤ e.Total ∧ e.Total ≤ 1099511627776 * (k : Int)
theorem JOk.push {k : Nat} {out : List Ev} {x : Ev} (h : JOk k out) (hx : EvR x) : JOk (k + 1) (out ++ [x]) := by
  obtain ⟨h1, h2, h3, h4, h5, h6⟩ := hx
  refine ⟨by have := h.len; simp; omega, fun e he => ?_⟩
  rcases List.mem_append.1 he with q | q
  · have := h.all e q; omega
  · simp at q; subst q; omega
theorem JOk.mrg {k n : Nat} {out : List Ev} {x y : Ev} (h : JOk k out) (hx : EvR x) (hy : y ∈ out) : JOk (k + 1) (out.set n (jMrg y x)) := by
  obtain ⟨h1, h2, h3, h4, h5, h6⟩ := hx
  have hyy := h.all y hy
  refine ⟨by have := h.len; simp; omega, fun e he => ?_⟩
  rcases List.mem_or_eq_of_mem_set he with q | rfl
  · have := h.all e q; omega
  · show 0 ≤ x.To ∧ x.To ≤ 10000 ∧ 0 ≤ y.Total + x.Total ∧ y.Total + x.Total ≤ _
    omega
theorem jFar_nil {gap : Int} {x : Ev} : jFar gap x [] = true := rfl
theorem lastEv_at {out : List Ev} {n : Nat} {E : Ev} (hn : out.length = n + 1) (hE : out[n]'(by omega) = E) : lastEv out = E := by
  simp [lastEv, hn, List.getD, List.getElem?_eq_getElem (show n < out.length by omega), hE]
theorem jFar_at {gap : Int} {x : Ev} {out : List Ev} {n : Nat} {E : Ev} (hn : out.length = n + 1) (hE : out[n]'(by omega) = E) : jFar gap x out = decide (gap ≤ x.From - E.To) := by
  simp only [jFar, lastEv_at hn hE, hn]
  simp

end Go.Proofs.Ytdlaghjijfgncaa
