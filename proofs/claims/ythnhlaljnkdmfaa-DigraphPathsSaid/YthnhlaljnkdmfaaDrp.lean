/- The reference's least path. Conditions: the graph is valid, both nodes are its own. -/
import Derived.Test.YthnhlaljnkdmfaaDrj
namespace Go.Proofs.Ythnhlaljnkdmfaa
open Go.RowKit
set_option linter.unusedVariables false
set_option linter.unusedSimpArgs false

theorem lpR_head {n : Nat} {E : Gp.Gr} {St : List Int} {low m a b : Nat} (h : m = 0 → a = b) : Gp.lpR n E St low m a ++ [b] = a :: (Gp.lpR n E St low m a ++ [b]).tail := by
  cases m with
  | zero => rw [h rfl]; rfl
  | succ m => rfl
theorem find_before {p : Nat → Bool} : ∀ {l : List Nat}, l.Pairwise (· < ·) → ∀ {x : Nat}, l.find? p = some x → ∀ y ∈ l, y < x → p y = false
  | [], _, x, h, y, hy, _ => by cases hy
  | z :: r, ha, x, h, y, hy, hyx => by
    obtain ⟨h1, h2⟩ := List.pairwise_cons.1 ha
    by_cases hz : p z = true
    · rw [List.find?_cons_of_pos hz] at h
      injection h with h
      subst h
      rcases List.mem_cons.1 hy with e | e
      · omega
      · have := h1 y e; omega
    · rw [List.find?_cons_of_neg hz] at h
      rcases List.mem_cons.1 hy with e | e
      · subst e; simpa using hz
      · exact find_before h2 h y e hyx

set_option maxRecDepth 100000 in
set_option maxHeartbeats 8000000 in
theorem r8path_any (n : Nat) (E : List (Nat × Nat)) (a b : Nat) (v : Value) (w : World) (hE : IsEds w v E) (hv : Gp.vtx n E) (hn : n ≤ 300) (hl : E.length ≤ 1000) (ha : a < n) (hb : b < n) :
    Calls Try.prog 43 #[.int .i64 n, v, .int .i64 a, .int .i64 b] w fun e w' => (∃ u c, e = .returned (.tuple #[u, .bool c]) ∧ ((Gp.pthL n E a b = none ∧ c = false ∧ u = .slice none 0 0) ∨ ∃ l, Gp.pthL n E a b = some l ∧ c = true ∧ Own w.heap.size 3 eNat 1 w' u l)) ∧ Below w.heap.size w w' := by
  go_enter Try.func43, Try.ntmps43
  go_wp2_with fail
  refine Calls.to (steps_any n E b 0 v w hE hv (by omega) (by omega) hb) ?_
  rintro e w2 ⟨su, rfl, hS⟩ hb2
  have hIs := Gp.stepsL_is (low := 0) hv hb
  have hpd : Hid (Gp.pthL n E a b = if (Gp.stepsL n E b 0).getD a (-1) < 0 then none else some (Gp.lpR n E (Gp.stepsL n E b 0) 0 ((Gp.stepsL n E b 0).getD a (-1)).toNat a ++ [b])) := rfl
  obtain ⟨St, hSt⟩ : ∃ St, St = Gp.stepsL n E b 0 := ⟨_, rfl⟩
  rw [← hSt] at hS hIs hpd
  clear hSt
  have hSl : Hid (St.length = n) := Lib.hid hIs.len
  obtain ⟨sg, sc, rfl, _, hsg, _, _⟩ := hS.place (by rw [hIs.len]; omega)
  have hal : a < St.length := by rw [hIs.len]; exact ha
  have c1 := hS.inti a hal
  rw [getD_at hal] at hpd
  have hE2 := hE.mono hb2
  by_cases hx : St[a] < 0
  · rw [if_pos hx] at hpd
    have hx1 : decide (St[a] < 0) = true := decide_eq_true hx
    generalize St[a] = x at *
    go_wp2_with fail
    go_ret2
    exact ⟨⟨_, _, rfl, .inl ⟨hpd.out, rfl, rfl⟩⟩, hb2⟩
  · rw [if_neg hx] at hpd
    have hx1 : decide (St[a] < 0) = false := decide_eq_false hx
    obtain ⟨m0, hm0, hmd⟩ := hIs.nonneg ha (by rw [getD_at hal]; omega)
    have hm00 : St[a] = (m0 : Int) := by rw [← getD_at hal (-1)]; exact hm0
    rw [hm00, Int.toNat_natCast] at hpd
    have hmn : m0 ≤ n := Wk_small hv hb hmd
    have hz0 : m0 = 0 → a = b := fun h => by subst h; exact hmd.1.1.zero'
    have hT0 : Hid ([a] ++ (Gp.lpR n E St 0 m0 a ++ [b]).tail = Gp.lpR n E St 0 m0 a ++ [b]) := Lib.hid (lpR_head hz0).symm
    have HIs := Lib.hid hIs
    have HM0 := Lib.hid hm0
    obtain ⟨T, hT⟩ : ∃ T, T = Gp.lpR n E St 0 m0 a ++ [b] := ⟨_, rfl⟩
    rw [← hT] at hpd
    have hT0 : Hid ([a] ++ (Gp.lpR n E St 0 m0 a ++ [b]).tail = T) := Lib.hid (by rw [hT]; exact hT0.out)
    rw [hm00] at c1 hx1
    have hSk := fun W (hW : Below w2.heap.size w2 W) => hS.below hW
    have HS := Lib.hid hSk
    have hF := Own.fresh (enc := eNat) (k := 1) (fun _ => rfl) w2 w2.heap.size (Nat.le_refl _) 3 a #[.int .i64 a] rfl
    have hA := alloc_below w2 (.cells #[.int .i64 (a : Int)] 3)
    clear hm00 hx hm0 hT hS hSk hIs
    go_wp2_with fail
    go_loopw [2, 11] (fun s2 s11 wr => ∃ (x m : Nat) (out : List Nat), s2 = .int .i64 x ∧ x < n ∧ Own w2.heap.size 3 eNat 1 wr s11 out ∧ Below w2.heap.size w2 wr ∧ Hid (St.getD x (-1) = (m : Int)) ∧ Hid (out ++ (Gp.lpR n E St 0 m x ++ [b]).tail = T) ∧ Hid (out.length + m ≤ n + 1)) (fun _ s11 _ => n + 2 - vLen s11)
    case atStart => exact ⟨a, m0, [a], rfl, ha, hF, hA, HM0, hT0, Lib.hid (by simp; omega)⟩
    clear hF hA hT0 HM0 c1 hx1
    case round =>
      obtain ⟨x, m, out, rfl, hxn, HU, hbr, HM, HT, HL⟩ := hrel
      obtain ⟨oa, oc, rfl⟩ := HU.isSlice
      by_cases hxb : x = b
      · subst hxb
        have hm1 : m = 0 := by
          have h1 := HM.out
          rw [HIs.out.self hxn] at h1
          omega
        subst hm1
        have hfin : Hid (out = T) := Lib.hid (by rw [← HT.out]; simp [Gp.lpR])
        go_wp2_with fail
        go_ret2
        exact ⟨⟨_, _, rfl, .inr ⟨T, hpd.out, rfl, by rw [← hfin.out]; exact HU.base hb2.size⟩⟩, hb2.trans (hbr.mono hb2.size)⟩
      · obtain ⟨m', hm'⟩ : ∃ m', m = m' + 1 := by
          cases m with
          | zero => exact absurd (HIs.out.of_get hxn HM.out).1.1.zero' hxb
          | succ m' => exact ⟨m', rfl⟩
        subst hm'
        obtain ⟨g1, g2, g3, g4, g5⟩ := Gp.nx_is hv HIs.out hb hxn HM.out
        have hbef := find_before (Gp.range_asc n) g1
        have hz1 : m' = 0 → Gp.nx n E St 0 m' x = b := fun h => by
          subst h
          exact (HIs.out.of_get g2 g5).1.1.zero'
        have hT2 : Hid ((out ++ [Gp.nx n E St 0 m' x]) ++ (Gp.lpR n E St 0 m' (Gp.nx n E St 0 m' x) ++ [b]).tail = T) := Lib.hid (by
          rw [← HT.out, List.append_assoc]
          congr 1
          show _ = Gp.lpR n E St 0 m' (Gp.nx n E St 0 m' x) ++ [b]
          rw [lpR_head hz1]; rfl)
        have hnx : Hid (Gp.inE E x (Gp.nx n E St 0 m' x) = true) := Lib.hid g4
        have G5 := Lib.hid g5
        generalize Gp.nx n E St 0 m' x = y at *
        have hxl : x < St.length := by have := hSl.out; omega
        have hxv : St[x] = ((m' + 1 : Nat) : Int) := by rw [← getD_at hxl (-1)]; exact HM.out
        have x9 : IntKind.i64.wrap (((m' + 1 : Nat) : Int) - 1) = m' := by rw [IntWalk.i64_in _ (by have := HL.out; omega)]; omega
        obtain ⟨M, hM⟩ : ∃ M, M = m' + 1 := ⟨_, rfl⟩
        rw [← hM] at hxv x9
        have HMM := Lib.hid hM
        have HXV := Lib.hid hxv
        have hEr := hE2.mono hbr
        have HER := Lib.hid hEr
        have hxb1 : ((x : Int) == (b : Int)) = false := by rw [beq_eq_false_iff_ne]; omega
        have hxb2 : ((x : Int) != (b : Int)) = true := by rw [bne_iff_ne]; omega
        have HUr := Lib.hid HU
        have HBE := Lib.hid hbef
        clear g1 g3 g4 g5 hbef hz1 HT hM hxv hEr HU
        obtain ⟨w5, hw5⟩ : ∃ w5, w5 = wr := ⟨_, rfl⟩
        subst hw5
        go_wp2_with fail
        go_loopw [2, 12] (fun s2 s12 wx => ∃ (k : Nat), k ≤ y ∧ s12 = .int .i64 k ∧ s2 = .int .i64 x ∧ Below w5.heap.size w5 wx) (fun _ s12 _ => n - (intOf s12).toNat)
        case atStart => exact ⟨0, Nat.zero_le _, rfl, rfl, Below.refl _ _⟩
        case round =>
          obtain ⟨k, hk, rfl, rfl, hbd⟩ := hrel
          have hkn : k < n := by omega
          have hkl : k < St.length := by have := hSl.out; omega
          have hb2d := hbr.trans (hbd.mono hbr.size)
          have HSd := HS.out _ hb2d
          have c3 := HSd.inti k hkl
          have c4 := HSd.inti x hxl
          rw [HXV.out] at c4
          have hj := fun W (hW : IsEds W v E) => joined_any E x k v W hW (by omega)
          have i3 : decide (k < n) = true := decide_eq_true hkn
          have x8 : IntKind.i64.wrap ((k : Int) + 1) = k + 1 := IntWalk.i64_in _ (by omega)
          have hdrop : ∀ W, Below wr.heap.size wr W → IsEds W v E := fun W hW => (HER.out.mono hbd).mono hW
          by_cases hky : k = y
          · subst hky
            have hy1 : St[k] = (m' : Int) := by rw [← getD_at hkl (-1)]; exact G5.out
            have hje := hnx.out
            simp only [hje] at hj
            rw [hy1] at c3
            clear hy1 hje HSd
            have HU2 := HUr.out
            go_wp2_with fail
            go_quiet ((go_at_call 21; exact Calls.quiet_of_same (hj _ (hdrop _ (below_drewN (Below.refl _ _) _)))))
            have hbe : Below w5.heap.size w5 (wr.drewN nq) := below_drewN hbd _
            have HUe := HU2.below hbe
            have hbre := hbr.trans (hbe.mono hbr.size)
            have hse : w2.heap.size ≤ (wr.drewN nq).heap.size := hbre.size
            have hol : out.length < 2147483648 := by have := HL.out; omega
            generalize wr.drewN nq = we at *
            go_wp2_with (at_builtin; go_must (refine wpList_pushR rfl _ _ 25 rfl 3 _ 1 8 undInts infInt rfl (by decide) k (fun _ => rfl) (by simp [Value.oneCell']) _ out rfl HUe we.heap.size rfl rfl hol (by decide) hse _ rfl ?_); intro g7 cap7 w7 hR7)
            have HU7 := hR7.own
            have hb7 := hbre.trans (hR7.below HUe hse)
            clear hR7 HUe hbre hse hbe c3 c4 hbd hb2d HU2
            go_wp2_with fail
            go_roundw
            case measure => have := HL.out; simp [vLen]; omega
            case rel =>
              refine ⟨k, m', out ++ [k], rfl, hkn, ?_, hb7, G5, hT2, Lib.hid (by have := HL.out; simp; omega)⟩
              simpa using HU7
          · have hlt : k < y := by omega
            have hP := HBE.out k (List.mem_range.2 hkn) hlt
            rw [getD_at hkl] at hP
            simp only [Nat.zero_le, decide_true, Bool.true_and] at hP
            have HP := Lib.hid hP
            clear hP HSd
            generalize St[k] = z at *
            by_cases hz : z = (m' : Int)
            · subst hz
              have hje : Gp.inE E x k = false := by
                have := HP.out
                simpa using this
              simp only [hje] at hj
              clear hje
              go_wp2_with fail
              go_quiet ((go_at_call 21; exact Calls.quiet_of_same (hj _ (hdrop _ (below_drewN (Below.refl _ _) _)))))
              have hbe : Below w5.heap.size w5 (wr.drewN nq) := below_drewN hbd _
              go_wp2_with fail
              go_roundw
              case measure => simp [intOf]; omega
              case rel => exact ⟨k + 1, by omega, by go_num, rfl, hbe⟩
            · have hz1 : (z == (m' : Int)) = false := by simpa using hz
              go_wp2_with fail
              go_quiet (fail)
              have hbe : Below w5.heap.size w5 (wr.drewN nq) := below_drewN hbd _
              go_wp2_with fail
              go_roundw
              case measure => simp [intOf]; omega
              case rel => exact ⟨k + 1, by omega, by go_num, rfl, hbe⟩

end Go.Proofs.Ythnhlaljnkdmfaa
