/- Shortest paths and least loops, in plain words. No program is named. Conditions: none. -/
import Derived.Test.YthnhlaljnkdmfaaGpl
namespace Go.Proofs.Ythnhlaljnkdmfaa.Gp
open Go.RowKit
set_option linter.unusedVariables false
set_option linter.unusedSimpArgs false

theorem IsD.get_some {n : Nat} {E : Gr} {low b : Nat} {rd : Bool} {D : List Int} (h : IsD n E low b rd D) {x k : Nat} (hx : x < n) (hd : Dk E low b rd x k) : D.getD x (-1) = (k : Int) := by
  rcases h.at' x hx with ⟨_, q2⟩ | ⟨j, q1, q2⟩
  · exact absurd hd.1 (q2 k)
  · rw [q1, q2.uniq hd]
theorem IsD.of_get {n : Nat} {E : Gr} {low b : Nat} {rd : Bool} {D : List Int} (h : IsD n E low b rd D) {x k : Nat} (hx : x < n) (e : D.getD x (-1) = (k : Int)) : Dk E low b rd x k := by
  rcases h.at' x hx with ⟨q1, _⟩ | ⟨j, q1, q2⟩
  · omega
  · obtain rfl : j = k := by omega
    exact q2
theorem IsD.none' {n : Nat} {E : Gr} {low b : Nat} {rd : Bool} {D : List Int} (h : IsD n E low b rd D) {x : Nat} (hx : x < n) (e : D.getD x (-1) < 0) : D.getD x (-1) = -1 ∧ ∀ k, ¬ Tk E low b rd x k := by
  rcases h.at' x hx with q | ⟨j, q1, q2⟩
  · exact q
  · omega
theorem IsD.nonneg {n : Nat} {E : Gr} {low b : Nat} {rd : Bool} {D : List Int} (h : IsD n E low b rd D) {x : Nat} (hx : x < n) (e : 0 ≤ D.getD x (-1)) : ∃ k : Nat, D.getD x (-1) = (k : Int) ∧ Dk E low b rd x k := by
  rcases h.at' x hx with ⟨q1, _⟩ | q
  · omega
  · exact q
/-- From a node at distance m + 2 an edge leads to one at distance m + 1, and it is not the end. -/
theorem IsD.next {n : Nat} {E : Gr} {low b : Nat} {rd : Bool} {D : List Int} (hv : vtx n E) (h : IsD n E low b rd D) {a m : Nat} (ha : a < n) (e : D.getD a (-1) = ((m + 2 : Nat) : Int)) :
    ∃ k, k ∈ nxt n E a ∧ low ≤ k ∧ k ≠ b ∧ D.getD k (-1) = ((m + 1 : Nat) : Int) := by
  have hd := h.of_get ha e
  obtain ⟨y, h1, h2, h3, h4, h5⟩ := hd.next
  have hy := (vtx_in hv h1).2
  have hD : Dk E low b rd y (m + 1) := by
    rcases h5 with h5 | h5
    · omega
    · exact h5
  refine ⟨y, mem_nxt.2 ⟨hy, h1⟩, h3, fun e' => ?_, h.get_some hy hD⟩
  subst e'
  exact hd.2 1 (by omega) ⟨.succ h1 h2 h3 .zero, fun _ => Nat.le_refl _⟩
theorem find_some {p : Nat → Bool} {l : List Nat} (h : ∃ k, k ∈ l ∧ p k = true) : ∃ k, l.find? p = some k ∧ k ∈ l ∧ p k = true := by
  obtain ⟨k, hk, hp⟩ := h
  cases hf : l.find? p with
  | none =>
    rw [List.find?_eq_none] at hf
    exact absurd hp (hf k hk)
  | some j => exact ⟨j, rfl, List.mem_of_find?_eq_some hf, List.find?_some hf⟩
/-- The program's test at a node. -/
def goP (D : List Int) (b low : Nat) (left : Int) (k : Nat) : Bool := decide (low ≤ k) && !(k == b) && (D.getD k (-1) == left)
/-- The program's next node. -/
def goN (n : Nat) (E : Gr) (D : List Int) (b low : Nat) (left : Int) (a : Nat) : Nat := ((nxt n E a).find? (goP D b low left)).getD 0
/-- The nodes behind the first. -/
def wlkG (n : Nat) (E : Gr) (D : List Int) (b low : Nat) : Nat → Nat → List Nat
  | 0, _ => []
  | m + 1, a => goN n E D b low ((m + 1 : Nat) : Int) a :: wlkG n E D b low m (goN n E D b low ((m + 1 : Nat) : Int) a)
theorem wlkG_len (n : Nat) (E : Gr) (D : List Int) (b low : Nat) : ∀ (m a : Nat), (wlkG n E D b low m a).length = m
  | 0, _ => rfl
  | m + 1, a => by simp [wlkG, wlkG_len n E D b low m]
theorem goP_iff {D : List Int} {b low : Nat} {left : Int} {k : Nat} : goP D b low left k = true ↔ low ≤ k ∧ k ≠ b ∧ D.getD k (-1) = left := by
  unfold goP
  simp only [Bool.and_eq_true, decide_eq_true_eq, Bool.not_eq_true', beq_iff_eq]
  constructor
  · rintro ⟨⟨h1, h2⟩, h3⟩
    exact ⟨h1, fun e => by subst e; simp at h2, h3⟩
  · rintro ⟨h1, h2, h3⟩
    exact ⟨⟨h1, by simpa using h2⟩, h3⟩
theorem goN_is {n : Nat} {E : Gr} {low b : Nat} {rd : Bool} {D : List Int} (hv : vtx n E) (h : IsD n E low b rd D) {a m : Nat} (ha : a < n) (e : D.getD a (-1) = ((m + 2 : Nat) : Int)) :
    (nxt n E a).find? (goP D b low ((m + 1 : Nat) : Int)) = some (goN n E D b low ((m + 1 : Nat) : Int) a) ∧ goN n E D b low ((m + 1 : Nat) : Int) a ∈ nxt n E a ∧
      low ≤ goN n E D b low ((m + 1 : Nat) : Int) a ∧ goN n E D b low ((m + 1 : Nat) : Int) a ≠ b ∧ D.getD (goN n E D b low ((m + 1 : Nat) : Int) a) (-1) = ((m + 1 : Nat) : Int) := by
  obtain ⟨k, k1, k2, k3, k4⟩ := h.next hv ha e
  obtain ⟨j, j1, j2, j3⟩ := find_some ⟨k, k1, goP_iff.2 ⟨k2, k3, k4⟩⟩
  have hj : goN n E D b low ((m + 1 : Nat) : Int) a = j := by unfold goN; rw [j1]; rfl
  obtain ⟨q1, q2, q3⟩ := goP_iff.1 j3
  rw [hj]
  exact ⟨j1, j2, q1, q2, q3⟩
/-- The place of the first that passes. -/
theorem find_at : ∀ {p : Nat → Bool} {l : List Nat} {k : Nat}, l.find? p = some k → ∃ (i : Nat) (hi : i < l.length), l[i] = k ∧ p l[i] = true ∧ ∀ (j : Nat) (_ : j < i) (hj : j < l.length), p l[j] = false
  | p, [], k, h => by cases h
  | p, x :: r, k, h => by
    by_cases hx : p x = true
    · rw [List.find?_cons_of_pos hx] at h
      injection h with h
      exact ⟨0, by simp, by simpa using h, by simpa using hx, fun j hj => by omega⟩
    · rw [List.find?_cons_of_neg hx] at h
      obtain ⟨i, hi, h1, h2, h3⟩ := find_at h
      refine ⟨i + 1, by simpa using hi, by simpa using h1, by simpa using h2, fun j hj hjl => ?_⟩
      cases j with
      | zero => simpa using hx
      | succ j => simpa using h3 j (by omega) (by simpa using hjl)

/-! The reference's path. -/
def nx (n : Nat) (E : Gr) (St : List Int) (low m a : Nat) : Nat := ((List.range n).find? fun v => decide (low ≤ v) && (inE E a v && (St.getD v (-1) == ((m : Nat) : Int)))).getD 0
/-- From a node at distance m: the nodes down to distance one. -/
def lpR (n : Nat) (E : Gr) (St : List Int) (low : Nat) : Nat → Nat → List Nat
  | 0, _ => []
  | m + 1, a => a :: lpR n E St low m (nx n E St low m a)
theorem lpR_len (n : Nat) (E : Gr) (St : List Int) (low : Nat) : ∀ (m a : Nat), (lpR n E St low m a).length = m
  | 0, _ => rfl
  | m + 1, a => by simp [lpR, lpR_len n E St low m]
theorem nx_is {n : Nat} {E : Gr} {low b : Nat} {St : List Int} (hv : vtx n E) (h : IsD n E low b false St) (hb : b < n) {a m : Nat} (ha : a < n) (e : St.getD a (-1) = ((m + 1 : Nat) : Int)) :
    ((List.range n).find? fun v => decide (low ≤ v) && (inE E a v && (St.getD v (-1) == ((m : Nat) : Int)))) = some (nx n E St low m a) ∧ nx n E St low m a < n ∧ low ≤ nx n E St low m a ∧ inE E a (nx n E St low m a) = true ∧
      St.getD (nx n E St low m a) (-1) = (m : Int) := by
  have hd := h.of_get ha e
  obtain ⟨y, h1, h2, h3, h4, h5⟩ := hd.next
  have hy := (vtx_in hv h1).2
  have hD : Dk E low b false y m := by
    rcases h5 with rfl | h5
    · exact ⟨⟨h4, fun h => by cases h⟩, fun j hj => by omega⟩
    · exact h5
  obtain ⟨j, j1, j2, j3⟩ := find_some (p := fun v => decide (low ≤ v) && (inE E a v && (St.getD v (-1) == ((m : Nat) : Int)))) (l := List.range n) ⟨y, List.mem_range.2 hy, by
    simp only [Bool.and_eq_true, decide_eq_true_eq, beq_iff_eq]
    exact ⟨h3, h1, h.get_some hy hD⟩⟩
  have hj : nx n E St low m a = j := by unfold nx; rw [j1]; rfl
  simp only [Bool.and_eq_true, decide_eq_true_eq, beq_iff_eq] at j3
  rw [hj]
  exact ⟨j1, List.mem_range.1 j2, j3.1, j3.2.1, j3.2.2⟩
theorem find_congr {p q : Nat → Bool} : ∀ {l : List Nat}, (∀ x ∈ l, p x = q x) → l.find? p = l.find? q
  | [], _ => rfl
  | x :: r, h => by
    have hx := h x (List.mem_cons_self ..)
    by_cases hp : p x = true
    · rw [List.find?_cons_of_pos hp, List.find?_cons_of_pos (by rw [← hx]; exact hp)]
    · rw [List.find?_cons_of_neg hp, List.find?_cons_of_neg (by rw [← hx]; exact hp)]
      exact find_congr (fun y hy => h y (List.mem_cons_of_mem _ hy))
/-- Away from the end both say the same. -/
theorem tk_away {E : Gr} {low b x k : Nat} (hx : x ≠ b) : Tk E low b true x k ↔ Tk E low b false x k := by
  constructor
  · exact fun h => ⟨h.1, fun h => by cases h⟩
  · intro h
    refine ⟨h.1, fun _ => ?_⟩
    cases k with
    | zero => exact absurd h.1.zero' hx
    | succ k => omega
theorem dk_away {E : Gr} {low b x k : Nat} (hx : x ≠ b) : Dk E low b true x k ↔ Dk E low b false x k := by
  unfold Dk
  simp only [tk_away hx]
theorem away {n : Nat} {E : Gr} {low b : Nat} {rd : Bool} {D St : List Int} (h : IsD n E low b rd D) (h2 : IsD n E low b false St) {x : Nat} (hx : x < n) (hne : x ≠ b) : D.getD x (-1) = St.getD x (-1) := by
  cases rd with
  | false => rw [h.uniq h2]
  | true =>
    rcases h.at' x hx with ⟨q1, q2⟩ | ⟨k, q1, q2⟩
    · rcases h2.at' x hx with ⟨r1, r2⟩ | ⟨j, r1, r2⟩
      · rw [q1, r1]
      · exact absurd ((tk_away hne).2 r2.1) (q2 j)
    · rw [q1, h2.get_some hx ((dk_away hne).1 q2)]
/-- The end is at distance none from itself. -/
theorem IsD.self {n : Nat} {E : Gr} {low b : Nat} {St : List Int} (h : IsD n E low b false St) (hb : b < n) : St.getD b (-1) = 0 := by
  have := h.get_some hb (k := 0) ⟨⟨.zero, fun h => by cases h⟩, fun j hj => by omega⟩
  simpa using this
/-- The program's nodes are the reference's. -/
theorem wlk_lp {n : Nat} {E : Gr} {low b : Nat} {rd : Bool} {D St : List Int} (hv : vtx n E) (h : IsD n E low b rd D) (h2 : IsD n E low b false St) (hb : b < n) :
    ∀ (m a : Nat), a < n → a ≠ b → St.getD a (-1) = ((m + 1 : Nat) : Int) → a :: wlkG n E D b low m a = lpR n E St low (m + 1) a
  | 0, a, _, _, _ => rfl
  | m + 1, a, ha, hab, e => by
    have eD : D.getD a (-1) = ((m + 2 : Nat) : Int) := by rw [away h h2 ha hab, e]
    obtain ⟨g1, g2, g3, g4, g5⟩ := goN_is hv h ha eD
    obtain ⟨r1, r2, r3, r4, r5⟩ := nx_is hv h2 hb ha e
    have hk : goN n E D b low ((m + 1 : Nat) : Int) a = nx n E St low (m + 1) a := by
      have hf : (nxt n E a).find? (goP D b low ((m + 1 : Nat) : Int)) = (List.range n).find? fun v => decide (low ≤ v) && (inE E a v && (St.getD v (-1) == ((m + 1 : Nat) : Int))) := by
        unfold nxt
        rw [List.find?_filter]
        refine find_congr (fun x hx => ?_)
        have hxn := List.mem_range.1 hx
        by_cases hxb : x = b
        · subst hxb
          have hs := h2.self hb
          unfold goP
          have : (St.getD x (-1) == ((m + 1 : Nat) : Int)) = false := by rw [beq_eq_false_iff_ne, hs]; omega
          rw [this]; simp
        · unfold goP
          rw [away h h2 hxn hxb]
          have : (x == b) = false := by rw [beq_eq_false_iff_ne]; exact hxb
          rw [this]
          generalize decide (low ≤ x) = p1
          generalize (St.getD x (-1) == ((m + 1 : Nat) : Int)) = p2
          cases p1 <;> cases p2 <;> cases inE E a x <;> rfl
      rw [g1, r1] at hf
      injection hf
    rw [wlkG, hk, lpR]
    congr 1
    exact wlk_lp hv h h2 hb m _ r2 (fun e => by rw [e, h2.self hb] at r5; omega) r5

/-- The least path, if there is one. -/
def pthL (n : Nat) (E : Gr) (a b : Nat) : Option (List Nat) :=
  if (stepsL n E b 0).getD a (-1) < 0 then none else some (lpR n E (stepsL n E b 0) 0 ((stepsL n E b 0).getD a (-1)).toNat a ++ [b])

/-! The reference's first step of a loop. -/
def bstP (E : Gr) (s : Nat) (St : List Int) (v : Nat) : Bool := decide (0 ≤ St.getD v (-1)) && inE E s v
def bestG (E : Gr) (s : Nat) (St : List Int) : List Nat → Option Nat → Option Nat
  | [], best => best
  | v :: r, best => if bstP E s St v && (match best with | none => true | some u => decide (St.getD v (-1) < St.getD u (-1))) then bestG E s St r (some v) else bestG E s St r best
structure BestI (E : Gr) (s : Nat) (St : List Int) (done : List Nat) (best : Option Nat) : Prop where
  no : best = none → ∀ u ∈ done, bstP E s St u = false
  yes : ∀ v, best = some v → v ∈ done ∧ bstP E s St v = true ∧ ∀ u ∈ done, bstP E s St u = true → St.getD v (-1) < St.getD u (-1) ∨ (St.getD v (-1) = St.getD u (-1) ∧ v ≤ u)
theorem bestG_is {E : Gr} {s : Nat} {St : List Int} : ∀ (r done : List Nat) (best : Option Nat), (done ++ r).Pairwise (· < ·) → BestI E s St done best → BestI E s St (done ++ r) (bestG E s St r best)
  | [], done, best, _, h => by rw [List.append_nil]; exact h
  | v :: r, done, best, ha, h => by
    have ha' : ((done ++ [v]) ++ r).Pairwise (· < ·) := by rw [List.append_assoc]; exact ha
    have hlt : ∀ u ∈ done, u < v := fun u hu => (List.pairwise_append.1 ha).2.2 u hu v (List.mem_cons_self ..)
    have fin : ∀ b2, BestI E s St (done ++ [v]) b2 → BestI E s St (done ++ v :: r) (bestG E s St r b2) := fun b2 h2 => by
      have := bestG_is r (done ++ [v]) b2 ha' h2
      rwa [List.append_assoc] at this
    unfold bestG
    by_cases hp : bstP E s St v = true
    · cases best with
      | none =>
        rw [if_pos (by rw [hp]; rfl)]
        refine fin _ ⟨fun e => (by cases e), fun u hu => ?_⟩
        injection hu with hu; subst hu
        refine ⟨by simp, hp, fun u hu hpu => ?_⟩
        rcases List.mem_append.1 hu with h1 | h1
        · rw [h.no rfl u h1] at hpu; cases hpu
        · rw [List.mem_singleton] at h1; subst h1; exact .inr ⟨rfl, Nat.le_refl _⟩
      | some u0 =>
        obtain ⟨y1, y2, y3⟩ := h.yes u0 rfl
        simp only [hp, Bool.true_and]
        by_cases hl : St.getD v (-1) < St.getD u0 (-1)
        · rw [if_pos (by simpa using hl)]
          refine fin _ ⟨fun e => (by cases e), fun u hu => ?_⟩
          injection hu with hu; subst hu
          refine ⟨by simp, hp, fun u hu hpu => ?_⟩
          rcases List.mem_append.1 hu with h1 | h1
          · rcases y3 u h1 hpu with h2 | h2
            · left; omega
            · left; omega
          · rw [List.mem_singleton] at h1; subst h1; exact .inr ⟨rfl, Nat.le_refl _⟩
        · rw [if_neg (by simpa using hl)]
          refine fin _ ⟨fun e => (by cases e), fun u hu => ?_⟩
          injection hu with hu; subst hu
          refine ⟨List.mem_append_left _ y1, y2, fun u hu hpu => ?_⟩
          rcases List.mem_append.1 hu with h1 | h1
          · exact y3 u h1 hpu
          · rw [List.mem_singleton] at h1; subst h1
            have := hlt _ y1
            omega
    · have hp' : bstP E s St v = false := by simpa using hp
      rw [hp', if_neg (by simp)]
      refine fin _ ⟨fun e u hu => ?_, fun u hu => ?_⟩
      · rcases List.mem_append.1 hu with h1 | h1
        · exact h.no e u h1
        · rw [List.mem_singleton] at h1; subst h1; exact hp'
      · obtain ⟨y1, y2, y3⟩ := h.yes u hu
        refine ⟨List.mem_append_left _ y1, y2, fun u2 hu2 hpu => ?_⟩
        rcases List.mem_append.1 hu2 with h1 | h1
        · exact y3 u2 h1 hpu
        · rw [List.mem_singleton] at h1; subst h1; rw [hp'] at hpu; cases hpu
/-- The nodes from s on. -/
def ups (n s : Nat) : List Nat := (List.range n).filter fun v => decide (s ≤ v)
theorem mem_ups {n s v : Nat} : v ∈ ups n s ↔ v < n ∧ s ≤ v := by unfold ups; rw [List.mem_filter, List.mem_range, decide_eq_true_eq]
def bestL (n : Nat) (E : Gr) (s : Nat) (St : List Int) : Option Nat := bestG E s St (ups n s) none
theorem bestL_is (n : Nat) (E : Gr) (s : Nat) (St : List Int) : BestI E s St (ups n s) (bestL n E s St) := by
  have := bestG_is (E := E) (s := s) (St := St) (ups n s) [] none (by rw [List.nil_append]; exact filter_asc _ (range_asc n)) ⟨fun _ u hu => absurd hu (List.not_mem_nil), fun v hv => (by cases hv)⟩
  rwa [List.nil_append] at this
/-- The least loop from s over nodes from s on; empty if there is none. -/
def cycL (n : Nat) (E : Gr) (s : Nat) : List Nat := match bestL n E s (stepsL n E s s) with
  | none => []
  | some v => s :: lpR n E (stepsL n E s s) s ((stepsL n E s s).getD v (-1)).toNat v
/-- What the distance around says. -/
theorem round_none {n : Nat} {E : Gr} {s : Nat} {D St : List Int} (hv : vtx n E) (h : IsD n E s s true D) (h2 : IsD n E s s false St) (hs : s < n) (hb : bestL n E s St = none) : D.getD s (-1) = -1 := by
  rcases h.at' s hs with q | ⟨k, q1, q2⟩
  · exact q.1
  · exfalso
    have hk := q2.1.2 rfl
    obtain ⟨k, rfl⟩ : ∃ j, k = j + 1 := ⟨k - 1, by omega⟩
    obtain ⟨y, h1, h3, h4, h5⟩ := q2.1.1.succ'
    have hy := (vtx_in hv h1).2
    obtain ⟨j, _, hd⟩ := Dk.of (rd := false) (k := k) ⟨h5, fun h => by cases h⟩
    have := (bestL_is n E s St).no hb y (mem_ups.2 ⟨hy, h4⟩)
    unfold bstP at this
    rw [h2.get_some hy hd, h1] at this
    simp at this
theorem round_some {n : Nat} {E : Gr} {s : Nat} {D St : List Int} (hv : vtx n E) (h : IsD n E s s true D) (h2 : IsD n E s s false St) (hs : s < n) {v : Nat} (hb : bestL n E s St = some v) :
    ∃ k : Nat, v < n ∧ s ≤ v ∧ inE E s v = true ∧ St.getD v (-1) = (k : Int) ∧ D.getD s (-1) = ((k + 1 : Nat) : Int) := by
  obtain ⟨y1, y2, y3⟩ := (bestL_is n E s St).yes v hb
  obtain ⟨v1, v2⟩ := mem_ups.1 y1
  unfold bstP at y2
  simp only [Bool.and_eq_true, decide_eq_true_eq] at y2
  obtain ⟨k, k1, k2⟩ := h2.nonneg v1 y2.1
  refine ⟨k, v1, v2, y2.2, k1, h.get_some hs ⟨⟨.succ y2.2 (Nat.le_refl _) v2 k2.1.1, fun _ => by omega⟩, fun j hj hT => ?_⟩⟩
  have hj1 := hT.2 rfl
  obtain ⟨j, rfl⟩ : ∃ i, j = i + 1 := ⟨j - 1, by omega⟩
  obtain ⟨y, h1, h3, h4, h5⟩ := hT.1.succ'
  have hy := (vtx_in hv h1).2
  obtain ⟨i, hi, hd⟩ := Dk.of (rd := false) (k := j) ⟨h5, fun h => by cases h⟩
  have hg := h2.get_some hy hd
  have := y3 y (mem_ups.2 ⟨hy, h4⟩) (by unfold bstP; rw [hg, h1]; simp)
  omega
/-- The program's loop from s is the reference's. -/
theorem cyc_is {n : Nat} {E : Gr} {s : Nat} {D : List Int} (hv : vtx n E) (h : IsD n E s s true D) (hs : s < n) :
    cycL n E s = if 0 < D.getD s (-1) then s :: wlkG n E D s s (D.getD s (-1) - 1).toNat s else [] := by
  have h2 := stepsL_is (low := s) hv hs
  unfold cycL
  cases hb : bestL n E s (stepsL n E s s) with
  | none => rw [round_none hv h h2 hs hb, if_neg (by omega)]
  | some v =>
    obtain ⟨k, v1, v2, v3, v4, v5⟩ := round_some hv h h2 hs hb
    obtain ⟨_, _, y3⟩ := (bestL_is n E s _).yes v hb
    generalize stepsL n E s s = St at *
    simp only
    rw [v4, v5, if_pos (by omega)]
    simp only [Int.toNat_natCast]
    rw [show (((k + 1 : Nat) : Int) - 1).toNat = k by omega]
    congr 1
    cases k with
    | zero => rfl
    | succ k =>
      obtain ⟨g1, g2, g3, g4, g5⟩ := goN_is hv h hs v5
      have hvs : v ≠ s := fun e => by rw [e, h2.self hs] at v4; omega
      have hk : goN n E D s s ((k + 1 : Nat) : Int) s = v := by
        have hf : (nxt n E s).find? (goP D s s ((k + 1 : Nat) : Int)) = some v := by
          refine find_least (nxt_asc n E s) (mem_nxt.2 ⟨v1, v3⟩) (goP_iff.2 ⟨v2, hvs, by rw [away h h2 v1 hvs]; exact v4⟩) (fun x hx hp => ?_)
          obtain ⟨p1, p2, p3⟩ := goP_iff.1 hp
          have hxn := mem_nxt.1 hx
          rw [away h h2 hxn.1 p2] at p3
          have := y3 x (mem_ups.2 ⟨hxn.1, p1⟩) (by unfold bstP; rw [p3, hxn.2]; simp; omega)
          omega
        rw [g1] at hf
        injection hf
      rw [wlkG, hk]
      exact (wlk_lp hv h h2 hs k v v1 hvs v4).symm
theorem cycL_len_le {n : Nat} {E : Gr} {s : Nat} (hv : vtx n E) (hs : s < n) : (cycL n E s).length ≤ n := by
  unfold cycL
  cases hb : bestL n E s (stepsL n E s s) with
  | none => simp
  | some v =>
    obtain ⟨y1, y2, _⟩ := (bestL_is n E s _).yes v hb
    have h2 := stepsL_is (low := s) hv hs
    unfold bstP at y2
    simp only [Bool.and_eq_true, decide_eq_true_eq] at y2
    obtain ⟨k, k1, k2⟩ := h2.nonneg (mem_ups.1 y1).1 y2.1
    have := k2.small hv hs
    simp only [List.length_cons, lpR_len, k1, Int.toNat_natCast]
    omega
/-- The shortest of the loops. -/
def lopS (n : Nat) (E : Gr) (best : List Nat) (s : Nat) : List Nat := if cycL n E s ≠ [] ∧ (best = [] ∨ (cycL n E s).length < best.length) then cycL n E s else best
def lopL (n : Nat) (E : Gr) : List Nat := (List.range n).foldl (lopS n E) []

end Go.Proofs.Ythnhlaljnkdmfaa.Gp
