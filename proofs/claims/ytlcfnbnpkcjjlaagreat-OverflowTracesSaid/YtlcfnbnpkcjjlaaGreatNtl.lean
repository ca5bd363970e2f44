/- Plain laws of the way of a spill: it goes along links to full nodes, and ends where no full node follows or where it has come back. Conditions: the network is right. -/
import Derived.Test.YtlcfnbnpkcjjlaaGreatNwa
import Derived.Test.YtlcfnbnpkcjjlaaGreatGqo
namespace Go.Proofs.YtlcfnbnpkcjjlaaGreat
open Go.RowKit
set_option linter.unusedVariables false
set_option linter.unusedSimpArgs false

/-- The links of a network as edges. -/
def gE (n : Net) : List (Nat × Nat) := n.Ls.xs.map fun l => ((findNd n.Ns.xs l.From).toNat, (findNd n.Ns.xs l.To).toNat)
theorem gE_len (n : Net) : (gE n).length = n.Ls.xs.length := by simp [gE]
theorem gE_v {n : Net} (h : netB n = true) : Gp.vtx n.Ns.xs.length (gE n) := by
  intro e he
  obtain ⟨l, hl, rfl⟩ := List.mem_map.1 he
  obtain ⟨j, hj, rfl⟩ := List.mem_iff_getElem.1 hl
  have h1 := netB_lk h j hj
  have h2 := findNd_bd n.Ns.xs n.Ls.xs[j].From
  have h3 := findNd_bd n.Ns.xs n.Ls.xs[j].To
  constructor
  · show (findNd _ _).toNat < _; omega
  · show (findNd _ _).toNat < _; omega
theorem nextM_ex (ns : List Nd) (nm : ByteArray) : ∀ r : List Lk, 0 ≤ nextM ns nm r → ∃ l, l ∈ r ∧ strB l.From nm = true ∧ nextM ns nm r = findNd ns l.To
  | [], h => by simp [nextM] at h
  | l :: r, h => by
    simp only [nextM] at h ⊢
    cases hs : strB l.From nm
    · rw [hs] at h
      simp only [Bool.false_eq_true, if_false] at h ⊢
      obtain ⟨l', h1, h2, h3⟩ := nextM_ex ns nm r h
      exact ⟨l', List.mem_cons_of_mem _ h1, h2, h3⟩
    · exact ⟨l, List.mem_cons_self .., hs, by simp⟩
theorem nmAt_at {ns : List Nd} {i : Nat} (hi : i < ns.length) : nmAt ns i = ns[i].Name := by simp [nmAt, List.getD, List.getElem?_eq_getElem hi]
theorem next_gE {n : Net} (h : netB n = true) {i : Nat} (hi : i < n.Ns.xs.length) (hx : 0 ≤ nextM n.Ns.xs (nmAt n.Ns.xs i) n.Ls.xs) :
    Gp.inE (gE n) i (nextM n.Ns.xs (nmAt n.Ns.xs i) n.Ls.xs).toNat = true ∧ nextM n.Ns.xs (nmAt n.Ns.xs i) n.Ls.xs < n.Ns.xs.length := by
  obtain ⟨l, h1, h2, h3⟩ := nextM_ex _ _ _ hx
  have h4 := findNd_str (ns := n.Ns.xs) h2
  rw [nmAt_at hi, (netB_nd h i hi).2] at h4
  have h5 := findNd_bd n.Ns.xs l.To
  refine ⟨Gp.inE_iff.2 (List.mem_map.2 ⟨l, h1, ?_⟩), by rw [h3]; omega⟩
  rw [h4, h3]
  rfl

structure WayJ (n : Net) (V : List Int) (k : Nat) (w : List Int) : Prop where
  ne : 0 < w.length
  nd : w.Nodup
  bd : ∀ x ∈ w, 0 ≤ x ∧ x < (n.Ns.xs.length : Int)
  rch : ∀ x ∈ w, Gp.Rch (gE n) x.toNat (lastI w).toNat
  how : lastI w = k ∨ ((∃ s, Gp.inE (gE n) k s = true ∧ Gp.Rch (gE n) s (lastI w).toNat) ∧ fullM n.Ns.xs V (lastI w).toNat = true)
theorem lastI_mem {w : List Int} (h : 0 < w.length) : lastI w ∈ w := by
  unfold lastI
  rw [List.getD, List.getElem?_eq_getElem (by omega), Option.getD_some]
  exact List.getElem_mem _
theorem cause_way {n : Net} (h : netB n = true) (V : List Int) (k : Nat) : ∀ (f : Nat) (w : List Int), WayJ n V k w → n.Ns.xs.length + 1 ≤ w.length + f →
    ∃ w', WayJ n V k w' ∧ lastI w' = causeM n.Ns.xs n.Ls.xs V f w ∧ (nextM n.Ns.xs (nmAt n.Ns.xs (lastI w').toNat) n.Ls.xs < 0 ∨ w'.contains (nextM n.Ns.xs (nmAt n.Ns.xs (lastI w').toNat) n.Ls.xs) = true ∨ fullM n.Ns.xs V (nextM n.Ns.xs (nmAt n.Ns.xs (lastI w').toNat) n.Ls.xs).toNat = false)
  | 0, w, hw, hf => by
    have := nodup_len n.Ns.xs.length w hw.nd hw.bd
    omega
  | f + 1, w, hw, hf => by
    by_cases h1 : nextM n.Ns.xs (nmAt n.Ns.xs (lastI w).toNat) n.Ls.xs < 0
    · exact ⟨w, hw, (causeM_stop1 h1).symm, .inl h1⟩
    cases h2 : w.contains (nextM n.Ns.xs (nmAt n.Ns.xs (lastI w).toNat) n.Ls.xs)
    rotate_left
    · exact ⟨w, hw, (causeM_stop2 h2).symm, .inr (.inl h2)⟩
    cases h3 : fullM n.Ns.xs V (nextM n.Ns.xs (nmAt n.Ns.xs (lastI w).toNat) n.Ls.xs).toNat
    · exact ⟨w, hw, (causeM_stop3 h3).symm, .inr (.inr h3)⟩
    rw [causeM_step h1 h2 h3]
    have hlm := lastI_mem hw.ne
    have hlb := hw.bd _ hlm
    obtain ⟨he, hxl⟩ := next_gE h (i := (lastI w).toNat) (by omega) (by omega)
    refine cause_way h V k f _ ?_ (by rw [List.length_append, List.length_singleton]; omega)
    generalize nextM n.Ns.xs (nmAt n.Ns.xs (lastI w).toNat) n.Ls.xs = x at *
    have hni : x ∉ w := fun hm => by
      have : w.contains x = true := List.contains_iff_mem.2 hm
      rw [h2] at this; cases this
    refine ⟨by simp, ?_, ?_, ?_, ?_⟩
    · rw [List.nodup_append]
      refine ⟨hw.nd, by simp, fun a ha b hb hab => ?_⟩
      rw [List.mem_singleton] at hb
      subst hb; subst hab
      exact hni ha
    · intro y hy
      rcases List.mem_append.1 hy with hy | hy
      · exact hw.bd y hy
      · rw [List.mem_singleton] at hy; subst hy
        exact ⟨by omega, hxl⟩
    · intro y hy
      rw [lastI_snoc]
      rcases List.mem_append.1 hy with hy | hy
      · exact (hw.rch y hy).trans (.edge he)
      · rw [List.mem_singleton] at hy; subst hy
        exact .refl
    · right
      rw [lastI_snoc]
      refine ⟨?_, h3⟩
      rcases hw.how with hk | ⟨⟨s, hs, hr⟩, _⟩
      · rw [hk, Int.toNat_natCast] at he
        exact ⟨_, he, .refl⟩
      · exact ⟨s, hs, hr.trans (.edge he)⟩

/-- On a loop there is no order. -/
theorem ord_before {N : Nat} {E : Gp.Gr} {a b : Nat} (h : Gp.Rch E a b) : ∀ (j : Nat) (hj : j < (Gp.ordL N E).length), (Gp.ordL N E)[j] = b → ∃ (i : Nat) (hi : i < (Gp.ordL N E).length), i ≤ j ∧ (Gp.ordL N E)[i] = a := by
  induction h with
  | refl => exact fun j hj e => ⟨j, hj, Nat.le_refl _, e⟩
  | step _ he ih =>
    intro j hj e
    rw [← e] at he
    obtain ⟨i, hi, e2⟩ := Gp.ordL_on hj he
    obtain ⟨m, hm, h1, h2⟩ := ih i (by omega) e2
    exact ⟨m, hm, by omega, h2⟩
theorem ord_cycle {N : Nat} {E : Gp.Gr} {c x : Nat} (hc : c < N) (hin : Gp.inE E c x = true) (hr : Gp.Rch E x c) : (Gp.ordL N E).length < N := by
  have hle := (Gp.ordL_inv N E).len
  apply Classical.byContradiction
  intro hn
  have hN : (Gp.ordL N E).length = N := by omega
  obtain ⟨j, hj, ej⟩ := Gp.ordL_all hN hc
  obtain ⟨i, hi, hij, ei⟩ := ord_before hr j hj ej
  rw [← ei] at hin
  obtain ⟨m, hm, em⟩ := Gp.ordL_on hi hin
  have hnd := (Gp.ordL_inv N E).nd
  exact List.pairwise_iff_getElem.1 hnd m j (by omega) hj (by omega) (em.trans ej.symm)

theorem trace_law {n : Net} (h : netB n = true) (V : List Int) {k : Nat} (hk : k < n.Ns.xs.length) : ∃ c : Nat, causeM n.Ns.xs n.Ls.xs V n.Ns.xs.length [(k : Int)] = (c : Int) ∧ c < n.Ns.xs.length ∧
    (c = k ∨ ((∃ s, Gp.inE (gE n) k s = true ∧ Gp.Rch (gE n) s c) ∧ fullM n.Ns.xs V c = true)) ∧
    (nextM n.Ns.xs (nmAt n.Ns.xs c) n.Ls.xs = -1 ∨ ∃ x : Nat, nextM n.Ns.xs (nmAt n.Ns.xs c) n.Ls.xs = (x : Int) ∧ x < n.Ns.xs.length ∧ (fullM n.Ns.xs V x = false ∨ (Gp.ordL n.Ns.xs.length (gE n)).length < n.Ns.xs.length)) := by
  have hl1 : lastI [(k : Int)] = k := rfl
  obtain ⟨w, hw, e, hs⟩ := cause_way h V k n.Ns.xs.length [(k : Int)] ⟨by simp, by simp, fun x hx => by rw [List.mem_singleton] at hx; subst hx; omega, fun x hx => by rw [List.mem_singleton] at hx; subst hx; rw [hl1]; exact .refl, .inl hl1⟩ (by simp; omega)
  have hlb := hw.bd _ (lastI_mem hw.ne)
  obtain ⟨c, hc⟩ : ∃ c : Nat, lastI w = (c : Int) := ⟨(lastI w).toNat, by omega⟩
  have hcN : c < n.Ns.xs.length := by omega
  have hhow := hw.how
  have hrch := hw.rch
  rw [hc] at e hs hhow hrch
  simp only [Int.toNat_natCast] at hs hhow hrch
  refine ⟨c, e.symm, hcN, ?_, ?_⟩
  · rcases hhow with h1 | h1
    · exact .inl (by omega)
    · exact .inr h1
  · by_cases hx : nextM n.Ns.xs (nmAt n.Ns.xs c) n.Ls.xs < 0
    · left
      rcases nextM_bd n.Ns.xs (nmAt n.Ns.xs c) n.Ls.xs with h1 | h1
      · omega
      · exact h1
    · right
      obtain ⟨he, hxl⟩ := next_gE h hcN (by omega)
      obtain ⟨x, hxe⟩ : ∃ x : Nat, nextM n.Ns.xs (nmAt n.Ns.xs c) n.Ls.xs = (x : Int) := ⟨(nextM n.Ns.xs (nmAt n.Ns.xs c) n.Ls.xs).toNat, by omega⟩
      rw [hxe] at hs he hxl
      simp only [Int.toNat_natCast] at hs he
      refine ⟨x, hxe, by omega, ?_⟩
      rcases hs with h1 | h1 | h1
      · omega
      · right
        have := hrch _ (List.contains_iff_mem.1 h1)
        exact ord_cycle hcN he this
      · exact .inl h1

end Go.Proofs.YtlcfnbnpkcjjlaaGreat
