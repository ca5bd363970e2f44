/- The plain law of EventsJoined: events for a greater number of dry steps are those for a lesser one, joined. No function of the program is walked here. Conditions: the depths in range, at least one dry step. -/
import Derived.Test.YtdlaghjijfgncaaEvwl
import Derived.Test.YtdlaghjijfgncaaEvj0
namespace Go.Proofs.Ytdlaghjijfgncaa
open Go.RowKit
set_option linter.unusedVariables false
set_option linter.unusedSimpArgs false

theorem joinGo_snoc (gap : Int) (x : Ev) : ∀ (l out : List Ev) (b : Bool), joinGo gap (l ++ [x]) out b = (jStep gap x (joinGo gap l out b).1, (joinGo gap l out b).2 || jBig gap x (joinGo gap l out b).1)
  | [], out, b => rfl
  | y :: l, out, b => by simp only [List.cons_append, joinGo]; exact joinGo_snoc gap x l _ _
theorem lastEv_snoc (A : List Ev) (E : Ev) : lastEv (A ++ [E]) = E := lastEv_at (n := A.length) (by simp) (by simp)
theorem jFar_snoc (gap : Int) (x : Ev) (A : List Ev) (E : Ev) : jFar gap x (A ++ [E]) = decide (gap ≤ x.From - E.To) := jFar_at (n := A.length) (by simp) (by simp)
theorem jStep_snoc (gap : Int) (x : Ev) (A : List Ev) (E : Ev) : jStep gap x (A ++ [E]) = if gap ≤ x.From - E.To then A ++ [E] ++ [x] else A ++ [jMrg E x] := by
  unfold jStep
  rw [jFar_snoc, lastEv_snoc]
  by_cases h : gap ≤ x.From - E.To
  · rw [if_pos h, if_pos (by simpa using h)]
  · rw [if_neg h, if_neg (by simpa using h), set_last (n := (A ++ [E]).length - 1) (by simp)]
    simp
theorem jBig_snoc (gap : Int) (x : Ev) (A : List Ev) (E : Ev) : jBig gap x (A ++ [E]) = (!decide (gap ≤ x.From - E.To) && decide (1099511627776 < E.Total + x.Total)) := by
  unfold jBig
  rw [jFar_snoc, lastEv_snoc]

structure JInv (b : Int) (A B : List Ev) : Prop where
  j : joinGo b A [] false = (B, false)
  nil : A = [] ↔ B = []
  lt : ∀ A0 E B0 Y, A = A0 ++ [E] → B = B0 ++ [Y] → E.To = Y.To

theorem snoc_ne {α : Type} (A : List α) (x : α) : A ++ [x] ≠ [] := by simp
theorem jinv_of {b : Int} {A B : List Ev} {x y : Ev} (hj : joinGo b (A ++ [x]) [] false = (B ++ [y], false)) (ht : x.To = y.To) : JInv b (A ++ [x]) (B ++ [y]) := by
  refine ⟨hj, by simp, fun A0 E B0 Y h1 h2 => ?_⟩
  obtain ⟨_, rfl⟩ := snoc_inj h1
  obtain ⟨_, rfl⟩ := snoc_inj h2
  exact ht

theorem jinv_step {a b : Int} {k : Nat} {d : Int} {A B : List Ev} (h : JInv b A B) (hab : a ≤ b) (hok : ∀ e ∈ addEv b k d B, e.Total ≤ 1099511627776) : JInv b (addEv a k d A) (addEv b k d B) := by
  rcases List.eq_nil_or_concat A with rfl | ⟨A0, E, rfl⟩
  · obtain rfl : B = [] := h.nil.1 rfl
    rw [addEv_nil, addEv_nil]
    exact jinv_of (A := []) (B := []) rfl rfl
  · rw [List.concat_eq_append] at h ⊢
    rcases List.eq_nil_or_concat B with rfl | ⟨B0, Y, rfl⟩
    · exact absurd (h.nil.2 rfl) (snoc_ne _ _)
    · rw [List.concat_eq_append] at h hok ⊢
      have hto := h.lt A0 E B0 Y rfl rfl
      have hj := h.j
      rw [addEv_snoc (dry := b)] at hok ⊢
      rw [addEv_snoc (dry := a)]
      by_cases hq : (k : Int) - E.To < a
      · rw [if_pos hq]
        have hqb : (k : Int) - Y.To < b := by omega
        rw [if_pos hqb] at hok ⊢
        rw [joinGo_snoc] at hj
        simp only [Prod.mk.injEq, Bool.or_eq_false_iff] at hj
        obtain ⟨h1, h2, h3⟩ := hj
        refine jinv_of ?_ rfl
        rw [joinGo_snoc]
        rcases List.eq_nil_or_concat (joinGo b A0 [] false).1 with hn | ⟨J, Z, hc⟩
        · rw [hn] at h1 ⊢
          rw [h2]
          have h1' : ([] : List Ev) ++ [E] = B0 ++ [Y] := h1
          obtain ⟨rfl, rfl⟩ := snoc_inj h1'
          rfl
        · rw [List.concat_eq_append] at hc
          rw [hc] at h1 h3 ⊢
          rw [h2]
          rw [jStep_snoc] at h1 ⊢
          rw [jBig_snoc] at h3 ⊢
          simp only
          by_cases hf : b ≤ E.From - Z.To
          · rw [if_pos hf] at h1 ⊢
            obtain ⟨rfl, rfl⟩ := snoc_inj h1
            simp [hf]
          · rw [if_neg hf] at h1 ⊢
            obtain ⟨rfl, rfl⟩ := snoc_inj h1
            have ht := hok _ (List.mem_append_right _ (List.mem_singleton.2 rfl))
            simp only [jMrg] at ht ⊢
            have e1 : Z.Total + (E.Total + d) = Z.Total + E.Total + d := by omega
            have e2 : (if Z.Peak < (if E.Peak < d then d else E.Peak) then (if E.Peak < d then d else E.Peak) else Z.Peak) = (if (if Z.Peak < E.Peak then E.Peak else Z.Peak) < d then d else (if Z.Peak < E.Peak then E.Peak else Z.Peak)) := by
              (repeat' split) <;> omega
            rw [e1, e2]
            have e3 : decide (1099511627776 < Z.Total + E.Total + d) = false := decide_eq_false (by omega)
            rw [e3]
            simp
            (repeat' split) <;> first | rfl | omega
      · rw [if_neg hq]
        by_cases hqb : (k : Int) - Y.To < b
        · rw [if_pos hqb] at hok ⊢
          have ht := hok _ (List.mem_append_right _ (List.mem_singleton.2 rfl))
          simp only at ht
          refine jinv_of ?_ rfl
          rw [joinGo_snoc, hj, jStep_snoc, jBig_snoc]
          simp only
          have hnb : ¬ b ≤ (k : Int) - Y.To := by omega
          rw [if_neg hnb]
          have e3 : decide (1099511627776 < Y.Total + d) = false := decide_eq_false (by omega)
          rw [e3]
          simp [jMrg]
        · rw [if_neg hqb]
          refine jinv_of ?_ rfl
          rw [joinGo_snoc, hj, jStep_snoc, jBig_snoc]
          simp only
          have hnb : b ≤ (k : Int) - Y.To := by omega
          rw [if_pos hnb]
          simp [hnb]

theorem join_go {a b : Int} (hab : a ≤ b) : ∀ (r : List Int) (k : Nat) (A B : List Ev), (∀ d ∈ r, d ≤ 4194304) → k + r.length ≤ 10000 → EvsOk k B → JInv b A B → JInv b (splitGo a r k A) (splitGo b r k B)
  | [], k, A, B, _, _, _, h => h
  | d :: r, k, A, B, hd, hk, hok, h => by
    have hr : ∀ x ∈ r, x ≤ 4194304 := fun x hx => hd x (List.mem_cons_of_mem _ hx)
    simp only [List.length_cons] at hk
    by_cases h0 : d ≤ 0
    · rw [splitGo_dry h0, splitGo_dry h0]; exact join_go hab r (k + 1) A B hr (by omega) hok.succ h
    · have ho := hok.add (dry := b) (d := d) (by omega) (hd d (by simp))
      rw [splitGo_wet h0, splitGo_wet h0]
      refine join_go hab r (k + 1) _ _ hr (by omega) ho (jinv_step h hab (fun e he => ?_))
      have := (ho.2 e he).tt
      omega
/-- Events for more dry steps: those for fewer, joined. -/
theorem join_law {a b : Int} {ds : List Int} (hab : a ≤ b) (hd : ∀ d ∈ ds, d ≤ 4194304) (hl : ds.length ≤ 10000) : joinGo b (splitGo a ds 0 []) [] false = (splitGo b ds 0 [], false) :=
  (join_go hab ds 0 [] [] hd (by omega) ⟨by simp, by simp⟩ ⟨rfl, by simp, fun A0 E B0 Y h => by simp at h⟩).j
theorem jStep_len (gap : Int) (x : Ev) (out : List Ev) : (jStep gap x out).length ≤ out.length + 1 := by
  unfold jStep
  split <;> simp
theorem joinGo_len (gap : Int) : ∀ (l out : List Ev) (b : Bool), (joinGo gap l out b).1.length ≤ out.length + l.length
  | [], out, b => by simp [joinGo]
  | x :: l, out, b => by
    have h1 := joinGo_len gap l (jStep gap x out) (b || jBig gap x out)
    have h2 := jStep_len gap x out
    simp only [joinGo, List.length_cons]
    omega
theorem join_len {a b : Int} {ds : List Int} (hab : a ≤ b) (hd : ∀ d ∈ ds, d ≤ 4194304) (hl : ds.length ≤ 10000) : (splitGo b ds 0 []).length ≤ (splitGo a ds 0 []).length := by
  have h := joinGo_len b (splitGo a ds 0 []) [] false
  rw [join_law hab hd hl] at h
  simpa using h
/-- Events that lie as far apart are not joined. -/
theorem join_same {gap : Int} : ∀ (l out : List Ev), (out ++ l).Pairwise (fun a b => a.To + gap ≤ b.From) → joinGo gap l out false = (out ++ l, false)
  | [], out, _ => by simp [joinGo]
  | x :: l, out, hp => by
    have hs : jStep gap x out = out ++ [x] ∧ jBig gap x out = false := by
      rcases List.eq_nil_or_concat out with rfl | ⟨A, E, rfl⟩
      · exact ⟨rfl, rfl⟩
      · rw [List.concat_eq_append] at hp ⊢
        rw [List.pairwise_append] at hp
        have := hp.2.2 E (by simp) x (by simp)
        have hf : gap ≤ x.From - E.To := by omega
        rw [jStep_snoc, jBig_snoc, if_pos hf]
        simp [hf]
    simp only [joinGo]
    rw [hs.1, hs.2]
    have := join_same (gap := gap) l (out ++ [x]) (by simpa using hp)
    simpa using this
theorem join_same_split {a g : Int} {ds : List Int} (ha : 1 ≤ a) (hg : g ≤ a) : joinGo g (splitGo a ds 0 []) [] false = (splitGo a ds 0 [], false) := by
  have h := join_same (gap := g) (splitGo a ds 0 []) [] ?_
  · simpa using h
  · simp only [List.nil_append]
    exact (whole_law ds a ha).pw.imp (fun h => by omega)
theorem valid_of : ∀ (l : List Ev) (t : Int), (∀ x ∈ l, t ≤ x.From) → (∀ x ∈ l, x.From < x.To ∧ x.To ≤ 10000 ∧ 1 ≤ x.Peak ∧ x.Peak ≤ x.Total ∧ x.Total ≤ 1099511627776) → l.Pairwise (fun a b => a.To ≤ b.From) → validGo t l = true
  | [], t, _, _, _ => rfl
  | x :: l, t, h1, h2, h3 => by
    rw [List.pairwise_cons] at h3
    obtain ⟨a, b, c, d, e⟩ := h2 x (by simp)
    have f := h1 x (by simp)
    have hb : evBad t x = false := by
      simp only [evBad, Bool.or_eq_false_iff, decide_eq_false_iff_not]
      omega
    simp only [validGo, hb, Bool.false_eq_true, if_false]
    exact valid_of l x.To h3.1 (fun y hy => h2 y (List.mem_cons_of_mem _ hy)) h3.2
/-- The events of a record are right. -/
theorem split_valid {a : Int} {ds : List Int} (ha : 1 ≤ a) (hd : ∀ d ∈ ds, d ≤ 4194304) (hl : ds.length ≤ 1000) : validM (splitGo a ds 0 []) = true := by
  have ho := split_ok (dry := a) hd
  have hlen := ho.1
  unfold validM
  rw [if_neg (by omega)]
  refine valid_of _ 0 (fun x hx => (ho.2 x hx).f0) (fun x hx => ?_) ((whole_law ds a ha).pw.imp (fun h => by omega))
  obtain ⟨z1, z2, z3, z4, z5, z6, z7⟩ := ho.2 x hx
  exact ⟨z2, by omega, z4, z6, by omega⟩

end Go.Proofs.Ytdlaghjijfgncaa
