/- The reference's least loop. Conditions: the graph is valid. -/
import Derived.Test.YthnhlaljnkdmfaaDrp
namespace Go.Proofs.Ythnhlaljnkdmfaa
open Go.RowKit
set_option linter.unusedVariables false
set_option linter.unusedSimpArgs false

theorem ups_cons {n v : Nat} (hv : v < n) : Gp.ups n v = v :: Gp.ups n (v + 1) := by
  refine Gp.asc_ext (Gp.filter_asc _ (Gp.range_asc n)) (List.pairwise_cons.2 ⟨fun x hx => ?_, Gp.filter_asc _ (Gp.range_asc n)⟩) (fun x => ?_)
  · have := (Gp.mem_ups.1 hx).2; omega
  · rw [Gp.mem_ups, List.mem_cons, Gp.mem_ups]; omega
theorem ups_end (n : Nat) : Gp.ups n n = [] := by
  unfold Gp.ups
  rw [List.filter_eq_nil_iff]
  intro x hx
  have := List.mem_range.1 hx
  simp; omega
/-- The number of a choice. -/
def optI : Option Nat → Int
  | none => -1
  | some v => v
/-- Whether a node with x before it is better. -/
def bstB (St : List Int) (x : Int) : Option Nat → Bool
  | none => true
  | some u => decide (x < St.getD u (-1))
theorem bestG_step {E : Gp.Gr} {s v : Nat} {St : List Int} {r : List Nat} {best : Option Nat} {x : Int} {e : Bool} (hx : St.getD v (-1) = x) (he : Gp.inE E s v = e) :
    Gp.bestG E s St (v :: r) best = if decide (0 ≤ x) && e && bstB St x best then Gp.bestG E s St r (some v) else Gp.bestG E s St r best := by
  subst hx; subst he; cases best <;> rfl
/-- All that the choice has passed lies below n, and is reached. -/
def okO (n : Nat) (best : Option Nat) : Prop := ∀ u, best = some u → u < n

set_option maxRecDepth 100000 in
set_option maxHeartbeats 16000000 in
theorem r8loop_any (n : Nat) (E : List (Nat × Nat)) (v : Value) (w : World) (hE : IsEds w v E) (hv : Gp.vtx n E) (hn : n ≤ 300) (hl : E.length ≤ 1000) :
    Calls Try.prog 27 #[.int .i64 n, v] w fun e w' => (∃ u, e = .returned u ∧ RowB w.heap.size w' u (Gp.lopL n E)) ∧ Below w.heap.size w w' := by
  have hfin : Hid (Gp.lopL n E = lopK n E n) := rfl
  go_enter Try.func27, Try.ntmps27
  go_wp2_with fail
  go_loopw [5, 6] (fun s5 s6 wr => ∃ (s : Nat) (out : List Nat), s ≤ n ∧ s6 = .int .i64 s ∧ Below w.heap.size w wr ∧ RowB w.heap.size wr s5 out ∧ Hid (out = lopK n E s)) (fun _ s6 _ => n - (intOf s6).toNat)
  case atStart => exact ⟨0, [], Nat.zero_le _, rfl, Below.refl _ _, .inl ⟨rfl, rfl⟩, rfl⟩
  case round =>
    obtain ⟨s, out, hs, rfl, hb, HB, HK⟩ := hrel
    by_cases hsn : s < n
    · have i1 : decide (s < n) = true := decide_eq_true hsn
      have x8 : IntKind.i64.wrap ((s : Int) + 1) = s + 1 := IntWalk.i64_in _ (by omega)
      have hol : out.length ≤ n := by rw [HK.out]; exact lopK_len hv s hs
      have hnx := Lib.hid (lopK_succ n E s)
      rw [← HK.out] at hnx
      have hEr := hE.mono hb
      clear HK
      go_wp2_with fail
      refine Calls.to (steps_any n E s s v wr hEr hv (by omega) (by omega) hsn) ?_
      rintro e w5 ⟨su, rfl, hS⟩ hb5
      have hb55 := hb.trans (hb5.mono hb.size)
      have HB5 := Lib.hid (HB.below hb5)
      have hE5 := Lib.hid (hEr.mono hb5)
      have hIs := Gp.stepsL_is (low := s) hv hsn
      have hbL : Hid (Gp.bestL n E s (Gp.stepsL n E s s) = Gp.bestG E s (Gp.stepsL n E s s) (Gp.ups n s) none) := rfl
      have hcy : Hid (Gp.cycL n E s = match Gp.bestL n E s (Gp.stepsL n E s s) with | none => [] | some v => s :: Gp.lpR n E (Gp.stepsL n E s s) s ((Gp.stepsL n E s s).getD v (-1)).toNat v) := rfl
      obtain ⟨St, hSt⟩ : ∃ St, St = Gp.stepsL n E s s := ⟨_, rfl⟩
      rw [← hSt] at hS hIs hbL hcy
      have hSl : Hid (St.length = n) := Lib.hid hIs.len
      obtain ⟨sg, sc, rfl, _, hsg, _, _⟩ := hS.place (by rw [hIs.len]; omega)
      have HS := Lib.hid hS
      have HIs := Lib.hid hIs
      obtain ⟨ov, hov⟩ : ∃ ov : Value, ov = ov := ⟨.bool true, rfl⟩
      clear hSt HB hb hb5 hEr hS hIs hov ov
      go_wp2_with fail
      go_loopw [8, 9] (fun s8 s9 wx => ∃ (k : Nat) (best : Option Nat), k ≤ n ∧ s9 = .int .i64 k ∧ s8 = .int .i64 (optI best) ∧ Below w5.heap.size w5 wx ∧ Hid (okO n best) ∧ Hid (Gp.bestG E s St (Gp.ups n k) best = Gp.bestL n E s St)) (fun _ s9 _ => n - (intOf s9).toNat)
      case atStart => exact ⟨s, none, hs, rfl, rfl, Below.refl _ _, Lib.hid (fun u h => by cases h), rfl⟩
      case round =>
        obtain ⟨k, best, hk, rfl, rfl, hbx, HO, HG⟩ := hrel
        by_cases hkn : k < n
        · have i2 : decide (k < n) = true := decide_eq_true hkn
          have x9 : IntKind.i64.wrap ((k : Int) + 1) = k + 1 := IntWalk.i64_in _ (by omega)
          have hkl : k < St.length := by have := hSl.out; omega
          have HSx := HS.out.below hbx
          have c3 := HSx.inti k hkl
          have hj := fun W (hW : IsEds W v E) => joined_any E s k v W hW (by omega)
          have hEx : ∀ W, Below wr.heap.size wr W → IsEds W v E := fun W hW => (hE5.out.mono hbx).mono hW
          have hst : ∀ e, Gp.inE E s k = e → Hid (Gp.bestG E s St (Gp.ups n k) best = if decide (0 ≤ St[k]) && e && bstB St St[k] best then Gp.bestG E s St (Gp.ups n (k + 1)) (some k) else Gp.bestG E s St (Gp.ups n (k + 1)) best) := fun e he => Lib.hid (by
            rw [ups_cons hkn]; exact bestG_step (getD_at hkl _) he)
          have hok : Hid (okO n (some k)) := Lib.hid (fun u h => by injection h with h; omega)
          cases g1 : decide (0 ≤ St[k])
          · have hs2 := hst _ rfl
            rw [g1] at hs2
            simp only [Bool.false_and, Bool.false_eq_true, if_false] at hs2
            have hs3 := Lib.hid (hs2.out.symm.trans HG.out)
            clear hst hs2 HG HSx
            generalize St[k] = x at *
            go_wp2_with fail
            go_quiet (fail)
            have hbd := below_drewN hbx nq
            go_wp2_with fail
            go_roundw
            case measure => simp [intOf]; omega
            case rel => exact ⟨k + 1, best, by omega, by go_num, rfl, hbd, HO, hs3⟩
          · cases g2 : Gp.inE E s k
            · have hs2 := hst _ g2
              simp only [g2] at hj
              simp only [Bool.and_false, Bool.false_and, Bool.false_eq_true, if_false] at hs2
              have hs3 := Lib.hid (hs2.out.symm.trans HG.out)
              clear hst hs2 HG HSx g2
              generalize St[k] = x at *
              go_wp2_with fail
              go_quiet ((go_at_call 21; exact Calls.quiet_of_same (hj _ (hEx _ (below_drewN (Below.refl _ _) _)))))
              have hbd := below_drewN hbx nq
              go_wp2_with fail
              go_roundw
              case measure => simp [intOf]; omega
              case rel => exact ⟨k + 1, best, by omega, by go_num, rfl, hbd, HO, hs3⟩
            · have hs2 := hst _ g2
              simp only [g2] at hj
              rw [g1] at hs2
              simp only [Bool.true_and] at hs2
              cases best with
              | none =>
                simp only [bstB, if_true] at hs2
                have hs3 := Lib.hid (hs2.out.symm.trans HG.out)
                clear hst hs2 HG HSx g2
                simp only [optI]
                generalize St[k] = x at *
                go_wp2_with fail
                go_quiet ((go_at_call 21; exact Calls.quiet_of_same (hj _ (hEx _ (below_drewN (Below.refl _ _) _)))))
                have hbd := below_drewN hbx nq
                go_wp2_with fail
                go_roundw
                case measure => simp [intOf]; omega
                case rel => exact ⟨k + 1, some k, by omega, by go_num, rfl, hbd, hok, hs3⟩
              | some u =>
                have hun : u < n := HO.out u rfl
                have hul : u < St.length := by have := hSl.out; omega
                have c4 := HSx.inti u hul
                simp only [bstB, getD_at hul] at hs2
                have hu0 : decide ((u : Int) < 0) = false := decide_eq_false (by omega)
                simp only [optI]
                cases g3 : decide (St[k] < St[u])
                · rw [g3] at hs2
                  simp only [Bool.false_eq_true, if_false] at hs2
                  have hs3 := Lib.hid (hs2.out.symm.trans HG.out)
                  clear hst hs2 HG HSx g2
                  generalize St[k] = x at *
                  generalize St[u] = y at *
                  go_wp2_with fail
                  go_quiet ((go_at_call 21; exact Calls.quiet_of_same (hj _ (hEx _ (below_drewN (Below.refl _ _) _)))))
                  have hbd := below_drewN hbx nq
                  go_wp2_with fail
                  go_roundw
                  case measure => simp [intOf]; omega
                  case rel => exact ⟨k + 1, some u, by omega, by go_num, rfl, hbd, HO, hs3⟩
                · rw [g3] at hs2
                  simp only [if_true] at hs2
                  have hs3 := Lib.hid (hs2.out.symm.trans HG.out)
                  clear hst hs2 HG HSx g2
                  generalize St[k] = x at *
                  generalize St[u] = y at *
                  go_wp2_with fail
                  go_quiet ((go_at_call 21; exact Calls.quiet_of_same (hj _ (hEx _ (below_drewN (Below.refl _ _) _)))))
                  have hbd := below_drewN hbx nq
                  go_wp2_with fail
                  go_roundw
                  case measure => simp [intOf]; omega
                  case rel => exact ⟨k + 1, some k, by omega, by go_num, rfl, hbd, hok, hs3⟩
        · obtain rfl : n = k := by omega
          have i2 : decide (n < n) = false := by simp
          rw [ups_end] at HG
          have HG : Hid (best = Gp.bestL n E s St) := HG
          rw [← HG.out] at hcy
          have hwb : Below w.heap.size w wr := hb55.trans (hbx.mono hb55.size)
          have HBx := HB5.out.below hbx
          cases best with
          | none =>
            simp only at hcy
            unfold Gp.lopS at hnx
            rw [hcy.out] at hnx
            simp only [ne_eq, not_true_eq_false, false_and, if_false] at hnx
            simp only [optI]
            rcases HBx with ⟨rfl, rfl⟩ | ⟨hop, hO⟩
            · go_wp2_with fail
              go_roundw
              case measure => simp [intOf]; omega
              case rel => exact ⟨s + 1, [], by omega, by go_num, hwb, .inl ⟨rfl, rfl⟩, Lib.hid hnx.out.symm⟩
            · obtain ⟨oa, oc, rfl⟩ := hO.isSlice
              go_wp2_with fail
              go_roundw
              case measure => simp [intOf]; omega
              case rel => exact ⟨s + 1, out, by omega, by go_num, hwb, .inr ⟨hop, hO⟩, Lib.hid hnx.out.symm⟩
          | some u =>
            have hun : u < n := HO.out u rfl
            have hul : u < St.length := by have := hSl.out; omega
            have HSx := HS.out.below hbx
            have c4 := HSx.inti u hul
            have hu0 : decide ((u : Int) < 0) = false := decide_eq_false (by omega)
            obtain ⟨y1, y2, _⟩ := (Gp.bestL_is n E s St).yes u HG.out.symm
            unfold Gp.bstP at y2
            simp only [Bool.and_eq_true, decide_eq_true_eq] at y2
            obtain ⟨m, hm, hmd⟩ := HIs.out.nonneg hun y2.1
            have hmn := hmd.small hv hsn
            simp only at hcy
            rw [hm, Int.toNat_natCast] at hcy
            have hcl : (Gp.cycL n E s).length = m + 1 := by rw [hcy.out, List.length_cons, Gp.lpR_len]
            have hne : Gp.cycL n E s ≠ [] := by rw [hcy.out]; simp
            unfold Gp.lopS at hnx
            rw [hcl] at hnx
            have hux : St[u] = (m : Int) := by rw [← getD_at hul (-1)]; exact hm
            rw [hux] at c4
            have x7 : IntKind.i64.wrap ((m : Int) + 1) = m + 1 := IntWalk.i64_in _ (by omega)
            have HM := Lib.hid hm
            have HMD := Lib.hid hmd
            have HUX := Lib.hid hux
            simp only [optI]
            have skip : 0 < out.length → out.length ≤ m + 1 → Hid (lopK n E (s + 1) = out) := fun h1 h2 => by
              have h3 : out ≠ [] := fun e => by subst e; simp at h1
              simp only [hne, ne_eq, not_false_eq_true, true_and, h3, show ¬ (m + 1 < out.length) by omega, or_self, if_false] at hnx
              exact hnx
            have take : (out = [] ∨ m + 1 < out.length) → Hid (lopK n E (s + 1) = s :: Gp.lpR n E St s m u) := fun h => by
              simp only [hne, ne_eq, not_false_eq_true, true_and, h, if_true] at hnx
              exact Lib.hid (hnx.out.trans hcy.out)
            clear hnx hcl hne hm hux hcy y1 y2
            have fin : ∀ (oa : Value), True := fun _ => trivial
            clear fin
            by_cases hsk : 0 < out.length ∧ out.length ≤ m + 1
            · obtain ⟨h1, h2⟩ := hsk
              have hs2 := skip h1 h2
              have j1 : decide (0 < out.length) = true := decide_eq_true h1
              have j2 : decide ((out.length : Int) ≤ m + 1) = true := decide_eq_true (by omega)
              have j3 : decide (out.length ≤ m + 1) = true := decide_eq_true h2
              clear skip take
              rcases HBx with ⟨rfl, rfl⟩ | ⟨hop, hO⟩
              · simp at h1
              · obtain ⟨oa, oc, rfl⟩ := hO.isSlice
                go_wp2_with fail
                go_roundw
                case measure => simp [intOf]; omega
                case rel => exact ⟨s + 1, out, by omega, by go_num, hwb, .inr ⟨hop, hO⟩, Lib.hid hs2.out.symm⟩
            · have hs2 := take (by
                rcases Nat.eq_zero_or_pos out.length with h | h
                · exact .inl (List.eq_nil_of_length_eq_zero h)
                · exact .inr (by omega))
              clear skip take
              have hF := Own.fresh (enc := eNat) (k := 1) (fun _ => rfl) wr w5.heap.size hbx.size 3 s #[.int .i64 s] rfl
              have hA := hbx.alloc hbx.size (.cells #[.int .i64 (s : Int)] 3)
              have hT0 : Hid ([s] ++ Gp.lpR n E St s m u = lopK n E (s + 1)) := Lib.hid hs2.out.symm
              have hov : ∃ oa oc, (∀ P : Value → Prop, True) ∧ (oa : Nat) = oc := ⟨0, 0, fun _ => trivial, rfl⟩
              clear hov
              have hcase : (out = [] ∧ out.length = 0) ∨ (0 < out.length ∧ m + 1 < out.length) := by
                rcases Nat.eq_zero_or_pos out.length with h | h
                · exact .inl ⟨List.eq_nil_of_length_eq_zero h, h⟩
                · exact .inr ⟨h, by omega⟩
              clear hsk
              rcases HBx with ⟨rfl, rfl⟩ | ⟨hop, hO⟩
              · go_wp2_with fail
                go_loopw [5, 10] (fun s5 s10 wr => ∃ (x m : Nat) (ou : List Nat), s10 = .int .i64 x ∧ x < n ∧ Own w5.heap.size 3 eNat 1 wr s5 ou ∧ Below w5.heap.size w5 wr ∧ Hid (St.getD x (-1) = (m : Int)) ∧ Hid (ou ++ Gp.lpR n E St s m x = lopK n E (s + 1)) ∧ Hid (0 < ou.length ∧ ou.length + m ≤ n + 1)) (fun s5 _ _ => n + 2 - vLen s5)
                case atStart => exact ⟨u, m, [s], rfl, hun, hF, hA, HM, hT0, Lib.hid ⟨by simp, by simp; omega⟩⟩
                clear hF hA hT0 HM HUX c4 HSx hbx
                case round =>
                  obtain ⟨x, m, ou, rfl, hxn, HU, hbr, HM, HT, HL⟩ := hrel
                  obtain ⟨ua, uc, rfl⟩ := HU.isSlice
                  by_cases hxs : x = s
                  · subst hxs
                    have hm1 : m = 0 := by
                      have h1 := HM.out
                      rw [HIs.out.self hxn] at h1
                      omega
                    subst hm1
                    have hf2 : Hid (ou = lopK n E (x + 1)) := Lib.hid (by rw [← HT.out]; simp [Gp.lpR])
                    have hwb2 := hb55.trans (hbr.mono hb55.size)
                    have hUb := HU.base (base' := w.heap.size) hb55.size
                    have hup := HL.out.1
                    clear HU
                    go_wp2_with fail
                    go_roundw
                    case measure => simp [intOf]; omega
                    case rel => exact ⟨x + 1, ou, by omega, by go_num, hwb2, .inr ⟨hup, hUb⟩, hf2⟩
                  · obtain ⟨m', hm'⟩ : ∃ m', m = m' + 1 := by
                      cases m with
                      | zero => exact absurd (HIs.out.of_get hxn HM.out).1.1.zero' hxs
                      | succ m' => exact ⟨m', rfl⟩
                    subst hm'
                    obtain ⟨g1, g2, g3, g4, g5⟩ := Gp.nx_is hv HIs.out hsn hxn HM.out
                    have hbef := find_before (Gp.range_asc n) g1
                    have hT2 : Hid ((ou ++ [x]) ++ Gp.lpR n E St s m' (Gp.nx n E St s m' x) = lopK n E (s + 1)) := Lib.hid (by
                      rw [← HT.out, List.append_assoc]; rfl)
                    have hnxx : Hid (Gp.inE E x (Gp.nx n E St s m' x) = true) := Lib.hid g4
                    have G5 := Lib.hid g5
                    generalize Gp.nx n E St s m' x = y at *
                    have hxl : x < St.length := by have := hSl.out; omega
                    have hxv : St[x] = ((m' + 1 : Nat) : Int) := by rw [← getD_at hxl (-1)]; exact HM.out
                    have xm9 : IntKind.i64.wrap (((m' + 1 : Nat) : Int) - 1) = m' := by rw [IntWalk.i64_in _ (by have := HL.out.2; omega)]; omega
                    obtain ⟨M, hM⟩ : ∃ M, M = m' + 1 := ⟨_, rfl⟩
                    rw [← hM] at hxv xm9
                    have HMM := Lib.hid hM
                    have HXV := Lib.hid hxv
                    have hxs1 : ((x : Int) == (s : Int)) = false := by rw [beq_eq_false_iff_ne]; omega
                    have hxs2 : ((x : Int) != (s : Int)) = true := by rw [bne_iff_ne]; omega
                    have HBE := Lib.hid hbef
                    have hol3 : ou.length < 2147483648 := by have := HL.out.2; omega
                    have hs5 : w5.heap.size ≤ wr.heap.size := hbr.size
                    clear g1 g4 g5 hbef HT hM hxv
                    go_wp2_with (at_builtin; go_must (refine wpList_pushR rfl _ _ 25 rfl 3 _ 1 8 undInts infInt rfl (by decide) x (fun _ => rfl) (by simp [Value.oneCell']) _ ou rfl HU wr.heap.size rfl rfl hol3 (by decide) hs5 _ rfl ?_); intro g7 cap7 w7 hR7)
                    have HU7 := Lib.hid hR7.own
                    have hb7 := hbr.trans (hR7.below HU hs5)
                    clear hR7 HU hbr hs5
                    go_wp2_with fail
                    go_loopw [10, 11] (fun s10 s11 wx => ∃ (k : Nat), k ≤ y ∧ s ≤ k ∧ s11 = .int .i64 k ∧ s10 = .int .i64 x ∧ Below w7.heap.size w7 wx) (fun _ s11 _ => n - (intOf s11).toNat)
                    case atStart => exact ⟨s, g3, Nat.le_refl _, rfl, rfl, Below.refl _ _⟩
                    case round =>
                      obtain ⟨k, hk, hsk, rfl, rfl, hbd⟩ := hrel
                      have hkn : k < n := by omega
                      have hkl : k < St.length := by have := hSl.out; omega
                      have hb5x : Below w5.heap.size w5 wr := hb7.trans (hbd.mono hb7.size)
                      have HSd := HS.out.below hb5x
                      have c3 := HSd.inti k hkl
                      have c4 := HSd.inti x hxl
                      rw [HXV.out] at c4
                      have hj := fun W (hW : IsEds W v E) => joined_any E x k v W hW (by omega)
                      have i3 : decide (k < n) = true := decide_eq_true hkn
                      have xk8 : IntKind.i64.wrap ((k : Int) + 1) = k + 1 := IntWalk.i64_in _ (by omega)
                      have hdrop : ∀ W, Below wr.heap.size wr W → IsEds W v E := fun W hW => (hE5.out.mono hb5x).mono hW
                      by_cases hky : k = y
                      · subst hky
                        have hy1 : St[k] = (m' : Int) := by rw [← getD_at hkl (-1)]; exact G5.out
                        have hje := hnxx.out
                        simp only [hje] at hj
                        rw [hy1] at c3
                        clear hy1 hje HSd
                        go_wp2_with fail
                        go_quiet ((go_at_call 21; exact Calls.quiet_of_same (hj _ (hdrop _ (below_drewN (Below.refl _ _) _)))))
                        have HUe := HU7.out.below (below_drewN hbd nq)
                        have hbe := below_drewN hb5x nq
                        generalize wr.drewN nq = we at *
                        clear c3 c4 hbd hb5x
                        go_wp2_with fail
                        go_roundw
                        case measure => have := HL.out; simp [vLen]; omega
                        case rel =>
                          refine ⟨k, m', ou ++ [x], rfl, hkn, ?_, hbe, G5, hT2, Lib.hid ⟨by simp, by have := HL.out; simp; omega⟩⟩
                          simpa using HUe
                      · have hlt : k < y := by omega
                        have hP := HBE.out k (List.mem_range.2 hkn) hlt
                        rw [getD_at hkl, decide_eq_true hsk] at hP
                        simp only [Bool.true_and] at hP
                        have HP := Lib.hid hP
                        clear hP HSd
                        generalize St[k] = z at *
                        by_cases hz : z = (m' : Int)
                        · subst hz
                          have hje : Gp.inE E x k = false := by
                            have := HP.out
                            simpa using this
                          simp only [hje] at hj
                          clear hje
                          go_wp2_with fail
                          go_quiet ((go_at_call 21; exact Calls.quiet_of_same (hj _ (hdrop _ (below_drewN (Below.refl _ _) _)))))
                          have hbe := below_drewN hbd nq
                          go_wp2_with fail
                          go_roundw
                          case measure => simp [intOf]; omega
                          case rel => exact ⟨k + 1, by omega, by omega, by go_num, rfl, hbe⟩
                        · have hz1 : (z == (m' : Int)) = false := by simpa using hz
                          go_wp2_with fail
                          go_quiet (fail)
                          have hbe := below_drewN hbd nq
                          go_wp2_with fail
                          go_roundw
                          case measure => simp [intOf]; omega
                          case rel => exact ⟨k + 1, by omega, by omega, by go_num, rfl, hbe⟩
              · obtain ⟨oa, oc, rfl⟩ := hO.isSlice
                have hml : m + 1 < out.length := by omega
                have j1 : decide (0 < out.length) = true := decide_eq_true hop
                have j2 : decide ((out.length : Int) ≤ m + 1) = false := decide_eq_false (by omega)
                have j3 : decide (out.length ≤ m + 1) = false := decide_eq_false (by omega)
                clear hO
                go_wp2_with fail
                go_loopw [5, 10] (fun s5 s10 wr => ∃ (x m : Nat) (ou : List Nat), s10 = .int .i64 x ∧ x < n ∧ Own w5.heap.size 3 eNat 1 wr s5 ou ∧ Below w5.heap.size w5 wr ∧ Hid (St.getD x (-1) = (m : Int)) ∧ Hid (ou ++ Gp.lpR n E St s m x = lopK n E (s + 1)) ∧ Hid (0 < ou.length ∧ ou.length + m ≤ n + 1)) (fun s5 _ _ => n + 2 - vLen s5)
                case atStart => exact ⟨u, m, [s], rfl, hun, hF, hA, HM, hT0, Lib.hid ⟨by simp, by simp; omega⟩⟩
                clear hF hA hT0 HM HUX c4 HSx hbx
                case round =>
                  obtain ⟨x, m, ou, rfl, hxn, HU, hbr, HM, HT, HL⟩ := hrel
                  obtain ⟨ua, uc, rfl⟩ := HU.isSlice
                  by_cases hxs : x = s
                  · subst hxs
                    have hm1 : m = 0 := by
                      have h1 := HM.out
                      rw [HIs.out.self hxn] at h1
                      omega
                    subst hm1
                    have hf2 : Hid (ou = lopK n E (x + 1)) := Lib.hid (by rw [← HT.out]; simp [Gp.lpR])
                    have hwb2 := hb55.trans (hbr.mono hb55.size)
                    have hUb := HU.base (base' := w.heap.size) hb55.size
                    have hup := HL.out.1
                    clear HU
                    go_wp2_with fail
                    go_roundw
                    case measure => simp [intOf]; omega
                    case rel => exact ⟨x + 1, ou, by omega, by go_num, hwb2, .inr ⟨hup, hUb⟩, hf2⟩
                  · obtain ⟨m', hm'⟩ : ∃ m', m = m' + 1 := by
                      cases m with
                      | zero => exact absurd (HIs.out.of_get hxn HM.out).1.1.zero' hxs
                      | succ m' => exact ⟨m', rfl⟩
                    subst hm'
                    obtain ⟨g1, g2, g3, g4, g5⟩ := Gp.nx_is hv HIs.out hsn hxn HM.out
                    have hbef := find_before (Gp.range_asc n) g1
                    have hT2 : Hid ((ou ++ [x]) ++ Gp.lpR n E St s m' (Gp.nx n E St s m' x) = lopK n E (s + 1)) := Lib.hid (by
                      rw [← HT.out, List.append_assoc]; rfl)
                    have hnxx : Hid (Gp.inE E x (Gp.nx n E St s m' x) = true) := Lib.hid g4
                    have G5 := Lib.hid g5
                    generalize Gp.nx n E St s m' x = y at *
                    have hxl : x < St.length := by have := hSl.out; omega
                    have hxv : St[x] = ((m' + 1 : Nat) : Int) := by rw [← getD_at hxl (-1)]; exact HM.out
                    have xm9 : IntKind.i64.wrap (((m' + 1 : Nat) : Int) - 1) = m' := by rw [IntWalk.i64_in _ (by have := HL.out.2; omega)]; omega
                    obtain ⟨M, hM⟩ : ∃ M, M = m' + 1 := ⟨_, rfl⟩
                    rw [← hM] at hxv xm9
                    have HMM := Lib.hid hM
                    have HXV := Lib.hid hxv
                    have hxs1 : ((x : Int) == (s : Int)) = false := by rw [beq_eq_false_iff_ne]; omega
                    have hxs2 : ((x : Int) != (s : Int)) = true := by rw [bne_iff_ne]; omega
                    have HBE := Lib.hid hbef
                    have hol3 : ou.length < 2147483648 := by have := HL.out.2; omega
                    have hs5 : w5.heap.size ≤ wr.heap.size := hbr.size
                    clear g1 g4 g5 hbef HT hM hxv
                    go_wp2_with (at_builtin; go_must (refine wpList_pushR rfl _ _ 25 rfl 3 _ 1 8 undInts infInt rfl (by decide) x (fun _ => rfl) (by simp [Value.oneCell']) _ ou rfl HU wr.heap.size rfl rfl hol3 (by decide) hs5 _ rfl ?_); intro g7 cap7 w7 hR7)
                    have HU7 := Lib.hid hR7.own
                    have hb7 := hbr.trans (hR7.below HU hs5)
                    clear hR7 HU hbr hs5
                    go_wp2_with fail
                    go_loopw [10, 11] (fun s10 s11 wx => ∃ (k : Nat), k ≤ y ∧ s ≤ k ∧ s11 = .int .i64 k ∧ s10 = .int .i64 x ∧ Below w7.heap.size w7 wx) (fun _ s11 _ => n - (intOf s11).toNat)
                    case atStart => exact ⟨s, g3, Nat.le_refl _, rfl, rfl, Below.refl _ _⟩
                    case round =>
                      obtain ⟨k, hk, hsk, rfl, rfl, hbd⟩ := hrel
                      have hkn : k < n := by omega
                      have hkl : k < St.length := by have := hSl.out; omega
                      have hb5x : Below w5.heap.size w5 wr := hb7.trans (hbd.mono hb7.size)
                      have HSd := HS.out.below hb5x
                      have c3 := HSd.inti k hkl
                      have c4 := HSd.inti x hxl
                      rw [HXV.out] at c4
                      have hj := fun W (hW : IsEds W v E) => joined_any E x k v W hW (by omega)
                      have i3 : decide (k < n) = true := decide_eq_true hkn
                      have xk8 : IntKind.i64.wrap ((k : Int) + 1) = k + 1 := IntWalk.i64_in _ (by omega)
                      have hdrop : ∀ W, Below wr.heap.size wr W → IsEds W v E := fun W hW => (hE5.out.mono hb5x).mono hW
                      by_cases hky : k = y
                      · subst hky
                        have hy1 : St[k] = (m' : Int) := by rw [← getD_at hkl (-1)]; exact G5.out
                        have hje := hnxx.out
                        simp only [hje] at hj
                        rw [hy1] at c3
                        clear hy1 hje HSd
                        go_wp2_with fail
                        go_quiet ((go_at_call 21; exact Calls.quiet_of_same (hj _ (hdrop _ (below_drewN (Below.refl _ _) _)))))
                        have HUe := HU7.out.below (below_drewN hbd nq)
                        have hbe := below_drewN hb5x nq
                        generalize wr.drewN nq = we at *
                        clear c3 c4 hbd hb5x
                        go_wp2_with fail
                        go_roundw
                        case measure => have := HL.out; simp [vLen]; omega
                        case rel =>
                          refine ⟨k, m', ou ++ [x], rfl, hkn, ?_, hbe, G5, hT2, Lib.hid ⟨by simp, by have := HL.out; simp; omega⟩⟩
                          simpa using HUe
                      · have hlt : k < y := by omega
                        have hP := HBE.out k (List.mem_range.2 hkn) hlt
                        rw [getD_at hkl, decide_eq_true hsk] at hP
                        simp only [Bool.true_and] at hP
                        have HP := Lib.hid hP
                        clear hP HSd
                        generalize St[k] = z at *
                        by_cases hz : z = (m' : Int)
                        · subst hz
                          have hje : Gp.inE E x k = false := by
                            have := HP.out
                            simpa using this
                          simp only [hje] at hj
                          clear hje
                          go_wp2_with fail
                          go_quiet ((go_at_call 21; exact Calls.quiet_of_same (hj _ (hdrop _ (below_drewN (Below.refl _ _) _)))))
                          have hbe := below_drewN hbd nq
                          go_wp2_with fail
                          go_roundw
                          case measure => simp [intOf]; omega
                          case rel => exact ⟨k + 1, by omega, by omega, by go_num, rfl, hbe⟩
                        · have hz1 : (z == (m' : Int)) = false := by simpa using hz
                          go_wp2_with fail
                          go_quiet (fail)
                          have hbe := below_drewN hbd nq
                          go_wp2_with fail
                          go_roundw
                          case measure => simp [intOf]; omega
                          case rel => exact ⟨k + 1, by omega, by omega, by go_num, rfl, hbe⟩
    · obtain rfl : n = s := by omega
      have i1 : decide (n < n) = false := by simp
      have hf2 := Lib.hid (hfin.out.trans HK.out.symm)
      rcases HB with ⟨rfl, rfl⟩ | ⟨hop, hO⟩
      · go_wp2_with fail
        go_ret
        exact ⟨⟨_, rfl, .inl ⟨hf2.out, rfl⟩⟩, hb⟩
      · obtain ⟨oa, oc, rfl⟩ := hO.isSlice
        go_wp2_with fail
        go_ret
        exact ⟨⟨_, rfl, .inr ⟨by rw [hf2.out]; exact hop, by rw [hf2.out]; exact hO⟩⟩, hb⟩

end Go.Proofs.Ythnhlaljnkdmfaa
