/- Quantile of the reference, and the law of quantiles. Conditions: the list is right and not empty, the numbers in range. -/
import Derived.Test.YtdlaghjijfgncaaEvq
namespace Go.Proofs.Ytdlaghjijfgncaa
open Go.RowKit
set_option linter.unusedVariables false
set_option linter.unusedSimpArgs false

/-- How many of the first k events have at most t. -/
def cntLe (l : List Ev) (t : Int) (k : Nat) : Nat := ((l.take k).filter fun x => decide (x.Total ≤ t)).length
theorem cntLe_step {l : List Ev} {t : Int} {k : Nat} (h : k < l.length) : cntLe l t (k + 1) = cntLe l t k + (if l[k].Total ≤ t then 1 else 0) := by
  unfold cntLe
  rw [List.take_succ_eq_append_getElem h, List.filter_append, List.length_append]
  congr 1
  by_cases hh : l[k].Total ≤ t <;> simp [hh]
theorem cntLe_le (l : List Ev) (t : Int) (k : Nat) : cntLe l t k ≤ k := by
  unfold cntLe
  refine Nat.le_trans (List.length_filter_le _ _) ?_
  simp
  omega
def qTake (l : List Ev) (num den best : Int) (x : Ev) : Int :=
  if num * l.length ≤ (cntLe l x.Total l.length : Int) * den ∧ (best < 0 ∨ x.Total < best) then x.Total else best
def qGo (l : List Ev) (num den : Int) : List Ev → Int → Int
  | [], b => b
  | x :: r, b => qGo l num den r (qTake l num den b x)

/-- What the fold finds: the least total that is enough. -/
theorem qGo_least (l : List Ev) (num den v : Int) (P : Ev → Prop) (hP : ∀ x, P x ↔ num * l.length ≤ (cntLe l x.Total l.length : Int) * den) (hv0 : 0 ≤ v) :
    ∀ (r : List Ev) (b : Int), (∀ x ∈ r, 0 ≤ x.Total) → (∀ x ∈ r, P x → v ≤ x.Total) → (b = v ∨ ((b < 0 ∨ v ≤ b) ∧ ∃ x ∈ r, P x ∧ x.Total = v)) → qGo l num den r b = v
  | [], b, _, _, h => by
    rcases h with h | ⟨_, x, hx, _⟩
    · exact h
    · simp at hx
  | y :: r, b, h0, hm, h => by
    simp only [qGo]
    refine qGo_least l num den v P hP hv0 r _ (fun x hx => h0 x (List.mem_cons_of_mem _ hx)) (fun x hx => hm x (List.mem_cons_of_mem _ hx)) ?_
    have hy0 := h0 y (by simp)
    by_cases hpy : P y
    · have hvy := hm y (by simp) hpy
      have hpc := (hP y).1 hpy
      rcases h with rfl | ⟨hb, x, hx, hpx, hxv⟩
      · left
        unfold qTake
        rw [if_neg]
        rintro ⟨_, h2 | h2⟩ <;> omega
      · by_cases hyv : y.Total = v
        · left
          unfold qTake
          by_cases hc : b < 0 ∨ y.Total < b
          · rw [if_pos ⟨hpc, hc⟩]; exact hyv
          · rw [if_neg (fun q => hc q.2)]; omega
        · right
          have hxr : x ∈ r := by
            rcases List.mem_cons.1 hx with rfl | q
            · exact absurd hxv hyv
            · exact q
          refine ⟨?_, x, hxr, hpx, hxv⟩
          unfold qTake
          by_cases hc : b < 0 ∨ y.Total < b
          · rw [if_pos ⟨hpc, hc⟩]; right; exact hvy
          · rw [if_neg (fun q => hc q.2)]; exact hb
    · have hq : qTake l num den b y = b := by
        unfold qTake
        rw [if_neg (fun q => hpy ((hP y).2 q.1))]
      rw [hq]
      rcases h with h | ⟨hb, x, hx, hpx, hxv⟩
      · exact .inl h
      · right
        refine ⟨hb, x, ?_, hpx, hxv⟩
        rcases List.mem_cons.1 hx with rfl | q
        · exact absurd hpx hpy
        · exact q

theorem cnt_sorted : ∀ {T : List Int}, T.Pairwise (· ≤ ·) → ∀ (t : Int) (j : Nat) (hj : j < T.length), (T[j] ≤ t → j + 1 ≤ (T.filter fun x => decide (x ≤ t)).length) ∧ (t < T[j] → (T.filter fun x => decide (x ≤ t)).length ≤ j)
  | x :: T, hp, t, 0, hj => by
    rw [List.pairwise_cons] at hp
    constructor
    · intro h
      simp only [List.getElem_cons_zero] at h
      rw [List.filter_cons, if_pos (by simpa using h)]
      simp
    · intro h
      simp only [List.getElem_cons_zero] at h
      have : ((x :: T).filter fun x => decide (x ≤ t)) = [] := by
        rw [List.filter_eq_nil_iff]
        intro y hy
        rcases List.mem_cons.1 hy with rfl | q
        · simp; omega
        · have := hp.1 y q; simp; omega
      rw [this]; simp
  | x :: T, hp, t, j + 1, hj => by
    rw [List.pairwise_cons] at hp
    have hj' : j < T.length := by simpa using hj
    have ih := cnt_sorted hp.2 t j hj'
    simp only [List.getElem_cons_succ]
    constructor
    · intro h
      have hx := hp.1 _ (List.getElem_mem hj')
      rw [List.filter_cons, if_pos (by simp; omega)]
      have := ih.1 h
      simp only [List.length_cons]; omega
    · intro h
      have := ih.2 h
      rw [List.filter_cons]
      split
      · simp only [List.length_cons]; omega
      · omega

theorem cnt_perm (l : List Ev) (t : Int) : cntLe l t l.length = ((sortedT l).filter fun x => decide (x ≤ t)).length := by
  have h1 : ((sortedT l).filter fun x => decide (x ≤ t)).length = ((totalsM l).filter fun x => decide (x ≤ t)).length := ((List.mergeSort_perm (totalsM l) _).filter _).length_eq
  rw [h1]
  unfold cntLe totalsM
  rw [List.take_length, List.filter_map, List.length_map]
  rfl
theorem sortedT_sorted (l : List Ev) : (sortedT l).Pairwise (· ≤ ·) := by
  have h := List.pairwise_mergeSort (le := fun x y : Int => decide (x ≤ y)) (by intro a b c; simp; omega) (by intro a b; simp; omega) (totalsM l)
  refine List.Pairwise.imp ?_ h
  intro a b hab
  simpa using hab
theorem sortedT_len (l : List Ev) : (sortedT l).length = l.length := by
  unfold sortedT
  rw [List.length_mergeSort]
  simp [totalsM]

/-- The law of quantiles. -/
theorem quant_law (l : List Ev) (num den : Int) (h1 : 1 ≤ den) (h2 : 0 ≤ num) (h3 : num ≤ den) (h0 : 0 < l.length) (hall : ∀ x ∈ l, 0 ≤ x.Total) :
    qGo l num den l (-1) = (sortedT l).getD ((max (qK num den l.length) 1 - 1).toNat) 0 := by
  have hkb := qK_bd (n := l.length) h1 h2 h3
  obtain ⟨j, hj⟩ : ∃ j : Nat, (max (qK num den l.length) 1 - 1).toNat = j := ⟨_, rfl⟩
  have hjl : j < (sortedT l).length := by rw [sortedT_len]; omega
  rw [hj]
  simp only [List.getD, List.getElem?_eq_getElem hjl, Option.getD_some]
  have hmem : ∀ i (h : i < (sortedT l).length), ∃ x ∈ l, x.Total = (sortedT l)[i] := by
    intro i h
    have hm : (sortedT l)[i] ∈ totalsM l := (List.mergeSort_perm (totalsM l) _).mem_iff.1 (List.getElem_mem h)
    simpa [totalsM] using hm
  obtain ⟨xv, hxv, exv⟩ := hmem j hjl
  have hK1 : qK num den l.length * den ≤ num * l.length + den - 1 := by
    unfold qK
    exact Int.ediv_mul_le _ (by omega)
  have hK2 : num * l.length + den - 1 < (qK num den l.length + 1) * den := by
    unfold qK
    exact Int.lt_ediv_add_one_mul_self _ (by omega)
  rw [Int.add_mul, Int.one_mul] at hK2
  refine qGo_least l num den _ (fun x => num * l.length ≤ (cntLe l x.Total l.length : Int) * den) (fun x => Iff.rfl) (by rw [← exv]; exact hall xv hxv) l (-1) hall ?_ (.inr ⟨.inl (by omega), xv, hxv, ?_, exv⟩)
  · intro x hx hp
    have hc := (cnt_sorted (sortedT_sorted l) x.Total j hjl).2
    rw [← cnt_perm] at hc
    by_cases hlt : x.Total < (sortedT l)[j]
    · exfalso
      have hcj := hc hlt
      have hpos : 1 ≤ cntLe l x.Total l.length := by
        unfold cntLe
        rw [List.take_length]
        exact List.length_pos_of_mem (List.mem_filter.2 ⟨hx, by simp⟩)
      have hle : (cntLe l x.Total l.length : Int) ≤ qK num den l.length - 1 := by omega
      have hmul := Int.mul_le_mul_of_nonneg_right hle (show 0 ≤ den by omega)
      rw [Int.sub_mul, Int.one_mul] at hmul
      omega
    · omega
  · show num * l.length ≤ (cntLe l xv.Total l.length : Int) * den
    have hc := (cnt_sorted (sortedT_sorted l) xv.Total j hjl).1 (by omega)
    rw [← cnt_perm] at hc
    have hle : qK num den l.length ≤ (cntLe l xv.Total l.length : Int) := by omega
    have hmul := Int.mul_le_mul_of_nonneg_right hle (show 0 ≤ den by omega)
    omega

end Go.Proofs.Ytdlaghjijfgncaa
