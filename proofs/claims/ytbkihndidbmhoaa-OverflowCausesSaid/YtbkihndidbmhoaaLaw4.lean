/- Plain laws on the spills, third part: each step with a volume is in exactly one spill. No program is named. Conditions: none. -/
import Derived.Test.YtbkihndidbmhoaaLaw3
import Derived.Test.YtbkihndidbmhoaaMOv
namespace Go.Proofs.Ytbkihndidbmhoaa
open Go.RowKit
set_option linter.unusedVariables false
set_option linter.unusedSimpArgs false

def seg (l : List Int) (a b : Nat) : List Int := (l.drop a).take (b - a)

theorem seg_snoc (l : List Int) (a b : Nat) (h1 : a ≤ b) (h2 : b < l.length) : seg l a (b + 1) = seg l a b ++ [l[b]] := by
  unfold seg
  rw [show b + 1 - a = (b - a) + 1 from by omega, List.take_add_one]
  congr 1
  rw [List.getElem?_drop, show a + (b - a) = b from by omega, List.getElem?_eq_getElem h2]; rfl

theorem seg_app (l : List Int) (a b c : Nat) (h1 : a ≤ b) (h2 : b ≤ c) : seg l a c = seg l a b ++ seg l b c := by
  unfold seg
  rw [show c - a = (b - a) + (c - b) from by omega, List.take_add, List.drop_drop, show a + (b - a) = b from by omega]

theorem seg_self (l : List Int) (a : Nat) : seg l a a = [] := by simp [seg]
theorem seg_len (l : List Int) (a b : Nat) (h : b ≤ l.length) : (seg l a b).length = b - a := by
  unfold seg; simp; omega

def runZ (z : Int) : List Int → Int
  | [] => z
  | n :: r => runZ (if 0 < n then 0 else z + 1) r
def runOK (d z : Int) : List Int → Prop
  | [] => True
  | n :: r => (if 0 < n then 0 else z + 1) < d ∧ runOK d (if 0 < n then 0 else z + 1) r

theorem runOK_app (d : Int) : ∀ (a b : List Int) (z : Int), runOK d z (a ++ b) ↔ runOK d z a ∧ runOK d (runZ z a) b
  | [], b, z => by simp [runOK, runZ]
  | n :: r, b, z => by simp only [List.cons_append, runOK, runZ, runOK_app d r b]; exact and_assoc.symm
theorem runZ_app : ∀ (a b : List Int) (z : Int), runZ z (a ++ b) = runZ (runZ z a) b
  | [], b, z => rfl
  | n :: r, b, z => by simp only [List.cons_append, runZ, runZ_app r b]
theorem run_zeros (d : Int) : ∀ (l : List Int) (z : Int), (∀ n ∈ l, n = 0) → z + l.length < d → runOK d z l ∧ runZ z l = z + l.length
  | [], z, _, _ => by simp [runOK, runZ]
  | n :: r, z, h, hd => by
    have h0 : n = 0 := h n (by simp)
    subst h0
    simp only [List.length_cons] at hd ⊢
    obtain ⟨q1, q2⟩ := run_zeros d r (z + 1) (fun n hn => h n (by simp [hn])) (by omega)
    simp only [runOK, runZ, Int.lt_irrefl, if_false]
    refine ⟨⟨by omega, q1⟩, ?_⟩
    rw [q2]; omega

def lmax (p : Int) : List Int → Int
  | [] => p
  | n :: r => lmax (if p < n then n else p) r
theorem lmax_app : ∀ (a b : List Int) (p : Int), lmax p (a ++ b) = lmax (lmax p a) b
  | [], b, p => rfl
  | n :: r, b, p => by simp only [List.cons_append, lmax, lmax_app r b]
theorem lmax_zeros : ∀ (l : List Int) (p : Int), 0 ≤ p → (∀ n ∈ l, n = 0) → lmax p l = p
  | [], p, _, _ => rfl
  | n :: r, p, hp, h => by
    have h0 : n = 0 := h n (by simp)
    subst h0
    simp only [lmax]
    rw [if_neg (by omega)]
    exact lmax_zeros r p hp (fun n hn => h n (by simp [hn]))
theorem lmax_ge : ∀ (l : List Int) (p : Int), p ≤ lmax p l
  | [], p => Int.le_refl p
  | n :: r, p => by
    have := lmax_ge r (if p < n then n else p)
    simp only [lmax]
    split at this <;> rename_i h <;> simp only [h, if_true, if_false] <;> omega
theorem lmax_mem : ∀ (l : List Int) (p : Int), ∀ n ∈ l, n ≤ lmax p l
  | n :: r, p, m, hm => by
    simp only [lmax]
    rcases List.mem_cons.1 hm with rfl | h
    · have := lmax_ge r (if p < m then m else p)
      split at this <;> rename_i h <;> simp only [h, if_true, if_false] <;> omega
    · exact lmax_mem r _ m h
theorem lmax_le (B : Int) : ∀ (l : List Int) (p : Int), p ≤ B → (∀ n ∈ l, n ≤ B) → lmax p l ≤ B
  | [], p, hp, _ => hp
  | n :: r, p, hp, h => by
    simp only [lmax]
    refine lmax_le B r _ ?_ (fun n hn => h n (by simp [hn]))
    have := h n (by simp)
    split <;> omega
theorem lsum_app (a b : List Int) : lsum (a ++ b) = lsum a + lsum b := by
  induction a with
  | nil => simp [lsum]
  | cons x r ih => rw [List.cons_append, lsum_cons, lsum_cons, ih]; omega
theorem lsum_zeros (l : List Int) (h : ∀ n ∈ l, n = 0) : lsum l = 0 := by
  induction l with
  | nil => rfl
  | cons x r ih => rw [lsum_cons, ih (fun n hn => h n (by simp [hn])), h x (by simp)]; omega
theorem lsum_le_max (B : Int) (l : List Int) (h : ∀ n ∈ l, n ≤ B) : lsum l ≤ B * l.length := by
  induction l with
  | nil => simp [lsum]
  | cons x r ih =>
    rw [lsum_cons]
    have := h x (by simp)
    have := ih (fun n hn => h n (by simp [hn]))
    simp only [List.length_cons, Int.natCast_add, Int.mul_add]
    omega
theorem lsum_ge_mem : ∀ (l : List Int), (∀ n ∈ l, 0 ≤ n) → ∀ n ∈ l, n ≤ lsum l
  | x :: r, h, n, hn => by
    rw [lsum_cons]
    have h0 := h x (by simp)
    have hr := lsum_nonneg r (fun v hv => h v (by simp [hv]))
    rcases List.mem_cons.1 hn with rfl | hn
    · omega
    · have := lsum_ge_mem r (fun v hv => h v (by simp [hv])) n hn
      omega

/-- An event as it should be behind place 'at'. -/
structure EvOK (d : Int) (l : List Int) (p : Nat) (e : Int) (x : Ev) (f t : Nat) : Prop where
  f1 : x.From = f
  t1 : x.To = t
  pf : p ≤ f
  tl : t ≤ l.length
  ft : f < t
  df : d ≤ f - e
  nf : 0 < l.getD f 0
  nt : 0 < l.getD (t - 1) 0
  zs : ∀ n ∈ seg l p f, n = 0
  ok : runOK d 0 (seg l f t)
  rz : runZ 0 (seg l f t) = 0
  tot : x.Total = lsum (seg l f t)
  pk : x.Peak = lmax 0 (seg l f t)

def cover (d : Int) (l : List Int) (p : Nat) (e : Int) : List Ev → Prop
  | [] => ∀ n ∈ l.drop p, n = 0
  | x :: r => (∃ f t : Nat, EvOK d l p e x f t) ∧ cover d l x.To.toNat x.To r

theorem drop_cons {l : List Int} {k : Nat} {v : Int} {r : List Int} (h : l.drop k = v :: r) : ∃ hk : k < l.length, l[k] = v ∧ l.drop (k + 1) = r := by
  have hk : k < l.length := by
    apply Nat.lt_of_not_le; intro h'
    rw [List.drop_eq_nil_of_le h'] at h; cases h
  rw [List.drop_eq_getElem_cons hk] at h
  simp only [List.cons.injEq] at h
  exact ⟨hk, h.1, h.2⟩

theorem evGo_cover (d : Int) (hd : 1 ≤ d) (l : List Int) (hl : ∀ n ∈ l, 0 ≤ n) : ∀ (r : List Int) (k p f t : Nat) (en : Int) (e : Ev), l.drop k = r → EvOK d l p en e f t → t ≤ k → k ≤ l.length → (∀ n ∈ seg l t k, n = 0) →
    cover d l p en (evGo d r k (some e))
  | [], k, p, f, t, en, e, hr, he, htk, hkl, hz => by
    simp only [evGo, cover]
    refine ⟨⟨f, t, he⟩, ?_⟩
    rw [he.t1, Int.toNat_natCast]
    have hk : l.length = k := by
      have := congrArg List.length hr
      simp at this; omega
    intro n hn
    refine hz n ?_
    unfold seg
    rw [List.take_of_length_le (by simp; omega)]
    exact hn
  | v :: r, k, p, f, t, en, e, hr, he, htk, hkl, hz => by
    obtain ⟨hk, hv, hr'⟩ := drop_cons hr
    have hv0 : 0 ≤ v := by rw [← hv]; exact hl _ (List.getElem_mem hk)
    have hgk : l.getD k 0 = v := by simp [List.getD, List.getElem?_eq_getElem hk, hv]
    by_cases h0 : v = 0
    · simp only [evGo, if_pos h0]
      refine evGo_cover d hd l hl r (k + 1) p f t en e hr' he (by omega) (by omega) ?_
      rw [seg_snoc l t k htk hk, hv, h0]
      intro n hn
      rcases List.mem_append.1 hn with h | h
      · exact hz n h
      · simpa using h
    · have hself : seg l k (k + 1) = [v] := by rw [seg_snoc l k k (Nat.le_refl _) hk, seg_self, hv]; rfl
      by_cases hc : d ≤ k - e.To
      · simp only [evGo, if_neg h0, if_pos hc, cover]
        refine ⟨⟨f, t, he⟩, ?_⟩
        rw [he.t1] at hc ⊢
        rw [Int.toNat_natCast]
        refine evGo_cover d hd l hl r (k + 1) t k (k + 1) t ⟨k, k + 1, v, v⟩ hr' ?_ (Nat.le_refl _) (by omega) (by rw [seg_self]; simp)
        exact ⟨rfl, by simp, htk, by omega, by omega, hc, by rw [hgk]; omega, by rw [Nat.add_sub_cancel, hgk]; omega, hz, by rw [hself]; simp only [runOK]; rw [if_pos (by omega)]; exact ⟨by omega, trivial⟩, by rw [hself]; simp only [runZ]; rw [if_pos (by omega)], by rw [hself]; simp [lsum], by rw [hself]; simp only [lmax]; rw [if_pos (by omega)]⟩
      · simp only [evGo, if_neg h0, if_neg hc]
        rw [he.t1] at hc
        have hzl := seg_len l t k (by omega)
        have hft := he.ft
        have hseg : seg l f (k + 1) = seg l f t ++ (seg l t k ++ [v]) := by
          rw [seg_snoc l f k (by omega) hk, seg_app l f t k (by omega) htk, hv, List.append_assoc]
        obtain ⟨z1, z2⟩ := run_zeros d (seg l t k) 0 hz (by rw [hzl]; omega)
        have hpk0 : 0 ≤ lmax 0 (seg l f t) := lmax_ge _ _
        refine evGo_cover d hd l hl r (k + 1) p f (k + 1) en _ hr' ?_ (Nat.le_refl _) (by omega) (by rw [seg_self]; simp)
        refine ⟨he.f1, by simp, he.pf, by omega, by omega, he.df, he.nf, by rw [Nat.add_sub_cancel, hgk]; omega, he.zs, ?_, ?_, ?_, ?_⟩
        · rw [hseg, runOK_app, he.rz, runOK_app, z2]
          refine ⟨he.ok, z1, ?_⟩
          simp only [runOK]; rw [if_pos (by omega)]; exact ⟨by omega, trivial⟩
        · rw [hseg, runZ_app, he.rz, runZ_app, z2]
          simp only [runZ]; rw [if_pos (by omega)]
        · rw [hseg, lsum_app, lsum_app, lsum_zeros _ hz]
          show e.Total + v = _
          rw [he.tot]
          simp [lsum]
        · rw [hseg, lmax_app, lmax_app, lmax_zeros _ _ hpk0 hz]
          show (if e.Peak < v then v else e.Peak) = _
          rw [he.pk]; rfl

theorem evGo_cover0 (d : Int) (hd : 1 ≤ d) (l : List Int) (hl : ∀ n ∈ l, 0 ≤ n) : ∀ (r : List Int) (k : Nat), l.drop k = r → k ≤ l.length → (∀ n ∈ seg l 0 k, n = 0) →
    cover d l 0 (-d) (evGo d r k none)
  | [], k, hr, hkl, hz => by
    simp only [evGo, cover]
    have hk : l.length = k := by
      have := congrArg List.length hr
      simp at this; omega
    intro n hn
    refine hz n ?_
    unfold seg
    rw [List.take_of_length_le (by simp; omega)]
    exact hn
  | v :: r, k, hr, hkl, hz => by
    obtain ⟨hk, hv, hr'⟩ := drop_cons hr
    have hv0 : 0 ≤ v := by rw [← hv]; exact hl _ (List.getElem_mem hk)
    have hgk : l.getD k 0 = v := by simp [List.getD, List.getElem?_eq_getElem hk, hv]
    by_cases h0 : v = 0
    · simp only [evGo, if_pos h0]
      refine evGo_cover0 d hd l hl r (k + 1) hr' (by omega) ?_
      rw [seg_snoc l 0 k (by omega) hk, hv, h0]
      intro n hn
      rcases List.mem_append.1 hn with h | h
      · exact hz n h
      · simpa using h
    · have hself : seg l k (k + 1) = [v] := by rw [seg_snoc l k k (Nat.le_refl _) hk, seg_self, hv]; rfl
      simp only [evGo, if_neg h0]
      refine evGo_cover d hd l hl r (k + 1) 0 k (k + 1) (-d) ⟨k, k + 1, v, v⟩ hr' ?_ (Nat.le_refl _) (by omega) (by rw [seg_self]; simp)
      exact ⟨rfl, by simp, by omega, by omega, by omega, by omega, by rw [hgk]; omega, by rw [Nat.add_sub_cancel, hgk]; omega, hz, by rw [hself]; simp only [runOK]; rw [if_pos (by omega)]; exact ⟨by omega, trivial⟩, by rw [hself]; simp only [runZ]; rw [if_pos (by omega)], by rw [hself]; simp [lsum], by rw [hself]; simp only [lmax]; rw [if_pos (by omega)]⟩

def tsum (l : List Ev) : Int := lsum (l.map (·.Total))

theorem evGo_sum (d : Int) : ∀ (r : List Int) (k : Nat) (s : Option Ev), tsum (evGo d r k s) = (match s with | none => 0 | some e => e.Total) + lsum r
  | [], k, none => by simp [evGo, tsum, lsum]
  | [], k, some e => by simp [evGo, tsum, lsum]
  | v :: r, k, none => by
    rw [lsum_cons]
    by_cases h0 : v = 0
    · simp only [evGo, if_pos h0]; rw [evGo_sum d r (k + 1) none, h0]; simp
    · simp only [evGo, if_neg h0]; rw [evGo_sum d r (k + 1)]; simp
  | v :: r, k, some e => by
    rw [lsum_cons]
    by_cases h0 : v = 0
    · simp only [evGo, if_pos h0]; rw [evGo_sum d r (k + 1)]; simp [h0]
    · by_cases hc : d ≤ k - e.To
      · simp only [evGo, if_neg h0, if_pos hc]
        unfold tsum
        rw [List.map_cons, lsum_cons]
        have := evGo_sum d r (k + 1) (some ⟨k, k + 1, v, v⟩)
        unfold tsum at this
        rw [this]
      · simp only [evGo, if_neg h0, if_neg hc]; rw [evGo_sum d r (k + 1)]; simp only; omega

theorem evGo_count (d : Int) : ∀ (r : List Int) (k : Nat) (s : Option Ev), (evGo d r k s).length ≤ r.length + (match s with | none => 0 | some _ => 1)
  | [], k, none => by simp [evGo]
  | [], k, some e => by simp [evGo]
  | v :: r, k, none => by
    by_cases h0 : v = 0
    · simp only [evGo, if_pos h0]; have := evGo_count d r (k + 1) none; simp at this ⊢; omega
    · simp only [evGo, if_neg h0]; have := evGo_count d r (k + 1) (some ⟨k, k + 1, v, v⟩); simp at this ⊢; omega
  | v :: r, k, some e => by
    by_cases h0 : v = 0
    · simp only [evGo, if_pos h0]; have := evGo_count d r (k + 1) (some e); simp at this ⊢; omega
    · by_cases hc : d ≤ k - e.To
      · simp only [evGo, if_neg h0, if_pos hc]; have := evGo_count d r (k + 1) (some ⟨k, k + 1, v, v⟩); simp at this ⊢; omega
      · simp only [evGo, if_neg h0, if_neg hc]; have := evGo_count d r (k + 1) (some ⟨e.From, k + 1, e.Total + v, if e.Peak < v then v else e.Peak⟩); simp at this ⊢; omega

theorem mem_seg {l : List Int} {a b : Nat} {n : Int} (h : n ∈ seg l a b) : n ∈ l := List.mem_of_mem_drop (List.mem_of_mem_take h)

theorem getD_seg (l : List Int) (a b : Nat) (h : a < b) (hb : b ≤ l.length) : l.getD a 0 ∈ seg l a b := by
  unfold seg
  have e : (l.drop a).take (b - a) = l[a] :: ((l.drop (a + 1)).take (b - a - 1)) := by
    rw [List.drop_eq_getElem_cons (show a < l.length by omega)]
    obtain ⟨m, hm⟩ : ∃ m, b - a = m + 1 := ⟨b - a - 1, by omega⟩
    rw [hm, List.take_succ_cons]; simp
  rw [e]
  simp [List.getD, List.getElem?_eq_getElem (show a < l.length by omega)]

/-- What 'cover' says of one event, for 'right'. -/
theorem EvOK.facts {d : Int} {l : List Int} {p f t : Nat} {en : Int} {x : Ev} (h : EvOK d l p en x f t) (hl : ∀ n ∈ l, 0 ≤ n ∧ n ≤ 4294967295) : 1 ≤ x.Peak ∧ x.Peak ≤ 4294967295 ∧ x.Peak ≤ x.Total ∧ x.Total ≤ x.Peak * (x.To - x.From) := by
  have hm := getD_seg l f t h.ft h.tl
  have hs : ∀ n ∈ seg l f t, 0 ≤ n ∧ n ≤ 4294967295 := fun n hn => hl n (mem_seg hn)
  have h1 := lmax_mem (seg l f t) 0 _ hm
  have h2 := lmax_le 4294967295 (seg l f t) 0 (by omega) (fun n hn => (hs n hn).2)
  have h3 := lmax_le (lsum (seg l f t)) (seg l f t) 0 (lsum_nonneg _ (fun n hn => (hs n hn).1)) (lsum_ge_mem _ (fun n hn => (hs n hn).1))
  have h4 := lsum_le_max (lmax 0 (seg l f t)) (seg l f t) (lmax_mem _ _)
  rw [seg_len l f t h.tl] at h4
  have := h.nf
  have := h.ft
  rw [h.pk, h.tot, h.f1, h.t1]
  have e : ((t - f : Nat) : Int) = (t : Int) - f := by omega
  rw [e] at h4
  exact ⟨by omega, h2, h3, h4⟩

theorem ediv_ok {t p m : Int} (hp : 1 ≤ p) (h : t ≤ p * m) : ¬ m < t / p ∧ ¬ (t / p = m ∧ 0 < t % p) := by
  have h1 := Int.mul_ediv_add_emod t p
  have h2 := Int.emod_nonneg t (show p ≠ 0 by omega)
  generalize t / p = q at *
  generalize t % p = r at *
  constructor
  · intro hq
    have : p * (m + 1) ≤ p * q := Int.mul_le_mul_of_nonneg_left (by omega) (by omega)
    rw [Int.mul_add] at this
    omega
  · rintro ⟨rfl, hr⟩
    omega

theorem cover_right (d : Int) (hd : 0 ≤ d) (l : List Int) (hl : ∀ n ∈ l, 0 ≤ n ∧ n ≤ 4294967295) (hlen : l.length ≤ 1000) : ∀ (xs : List Ev) (p : Nat) (en : Int), cover d l p en xs → rightGo p xs = true
  | [], _, _, _ => rfl
  | x :: r, p, en, h => by
    obtain ⟨⟨f, t, he⟩, hr⟩ := h
    obtain ⟨q1, q2, q3, q4⟩ := he.facts hl
    have ih := cover_right d hd l hl hlen r x.To.toNat x.To hr
    have ht : ((x.To.toNat : Nat) : Int) = x.To := by rw [he.t1]; simp
    rw [ht] at ih
    have hT := lsum_le (seg l f t) (fun v h => (hl v (mem_seg h)).2)
    rw [seg_len l f t he.tl] at hT
    have e1 := he.f1; have e2 := he.t1; have e3 := he.pf; have e4 := he.tl; have e5 := he.ft; have e6 := he.tot
    obtain ⟨m1, m2⟩ := ediv_ok q1 q4
    have hb : evBad p x = false := by
      have m3 : decide (x.Total / x.Peak = x.To - x.From) = true → ¬ 0 < x.Total % x.Peak := fun h1 h2 => m2 ⟨of_decide_eq_true h1, h2⟩
      unfold evBad
      rw [show decide (x.From < (p : Int)) = false from by simp; omega, show decide (x.To ≤ x.From) = false from by simp; omega, show decide (10000 < x.To) = false from by simp; omega,
        show decide (x.Peak < 1) = false from by simp; omega, show decide (1125899906842624 < x.Peak) = false from by simp; omega, show decide (x.Total < x.Peak) = false from by simp; omega,
        show decide (1152921504606846976 < x.Total) = false from by simp; omega, show decide (x.To - x.From < x.Total / x.Peak) = false from by simp; omega]
      cases h1 : decide (x.Total / x.Peak = x.To - x.From)
      · rfl
      · simp; exact Int.not_lt.1 (m3 h1)
    simp only [rightGo, hb]
    exact ih

end Go.Proofs.Ytbkihndidbmhoaa
