/- What a state holds: the reference's Held. Conditions: the argument reads as data, its items lie between 0 and the greatest volume, one for each of at most 300 nodes. -/
import Derived.Test.YtjgfgbiohbgcaaaGreatMfp
namespace Go.Proofs.YtjgfgbiohbgcaaaGreat
open Go.RowKit
set_option linter.unusedVariables false
set_option linter.unusedSimpArgs false

set_option maxRecDepth 100000 in
set_option maxHeartbeats 4000000 in
theorem r29held_any (s : St) (w : World) (hgs : gSt w s) (hl : s.V.xs.length = s.P.xs.length) (hln : s.V.xs.length ≤ 300) (hv : ∀ x ∈ s.V.xs, 0 ≤ x ∧ x ≤ 1125899906842624) (hp : ∀ x ∈ s.P.xs, 0 ≤ x ∧ x ≤ 1125899906842624) :
    Calls Tryz.prog 34 #[vSt s] w fun e w' => e = .returned (.int .i64 (sumL s.V.xs s.P.xs)) ∧ Below w.heap.size w w' := by
  obtain ⟨⟨va, vc, vs⟩, ⟨pa, pc, ps⟩, ⟨ea, ec, ss⟩, ⟨oa, oc, os⟩⟩ := s
  have hV := hgs.1.2.2.1
  have hP := hgs.2.1.2.2.1
  have hb0 : Below w.heap.size w (w.alloc (.cells #[.slice va vs.length vc, .slice pa ps.length pc, .slice ea ss.length ec, .slice oa os.length oc] 54)) := (Below.refl _ _).alloc (Nat.le_refl _) _
  have HX := Lib.hid (StBx.new w ⟨⟨va, vc, vs⟩, ⟨pa, pc, ps⟩, ⟨ea, ec, ss⟩, ⟨oa, oc, os⟩⟩ 54)
  simp only at hV hP hl hln hv hp ⊢
  have HL := Lib.hid hl
  have HN := Lib.hid hln
  obtain ⟨T, hT⟩ : ∃ T, sumL vs ps = T := ⟨_, rfl⟩
  rw [hT]
  have HT := Lib.hid hT
  clear hgs hl hln hT
  simp only [vSt, vSl]
  go_enter Tryz.func34, Tryz.ntmps34
  go_wp2_with fail
  go_loopw [3, 4] (fun s3 s4 wr => ∃ (i : Nat) (k : Int), i ≤ vs.length ∧ s4 = .int .i64 i ∧ s3 = .int .i64 k ∧ Below w.heap.size w wr ∧ Hid (StBx wr w.heap.size ⟨⟨va, vc, vs⟩, ⟨pa, pc, ps⟩, ⟨ea, ec, ss⟩, ⟨oa, oc, os⟩⟩) ∧ Hid (k + sumL (vs.drop i) (ps.drop i) = T) ∧ 0 ≤ k ∧ k ≤ 2251799813685248 * (i : Int)) (fun _ i _ => vs.length - (intOf i).toNat)
  case atStart => exact ⟨0, 0, Nat.zero_le _, rfl, rfl, hb0, HX, Lib.hid (by rw [List.drop_zero, List.drop_zero, HT.out]; omega), Int.le_refl _, by simp⟩
  clear hb0 HX HT
  case round =>
    as_aux_lemma =>
    obtain ⟨i, k, hi, rfl, rfl, hb, HX, hm, hk0, hk1⟩ := hrel
    obtain ⟨f0, f1, f2, f3⟩ := HX.out
    simp only [vSl] at f0 f1 f2 f3
    by_cases hlt : i < vs.length
    · have kp : i < ps.length := by have := HL.out; omega
      obtain ⟨vb, vo, rfl, cv⟩ := (hV.mono hb).int i hlt
      obtain ⟨pb, po, rfl, cp⟩ := (hP.mono hb).int i kp
      have bv := hv _ (List.getElem_mem hlt)
      have bp := hp _ (List.getElem_mem kp)
      have hm2 := hm.out
      rw [List.drop_eq_getElem_cons hlt, List.drop_eq_getElem_cons kp] at hm2
      simp only [sumL] at hm2
      have i1 : (0 : Int) ≤ i := by omega
      have i2 : (i : Int) < vs.length := by omega
      have i3 : (i : Int) < ps.length := by omega
      have hn := HN.out
      have x9 : IntKind.i64.wrap ((i : Int) + 1) = i + 1 := IntWalk.i64_in _ (by omega)
      clear hV hP hv hp hm
      generalize vs[i] = x at *
      generalize ps[i] = y at *
      have x1 : IntKind.i64.wrap (k + x) = k + x := IntWalk.i64_in _ (by omega)
      have x2 : IntKind.i64.wrap (k + x + y) = k + x + y := IntWalk.i64_in _ (by omega)
      have HM : Hid (k + x + y + sumL (vs.drop (i + 1)) (ps.drop (i + 1)) = T) := Lib.hid (by omega)
      have hq : 0 ≤ k + x + y ∧ k + x + y ≤ 2251799813685248 * ((i + 1 : Nat) : Int) := by omega
      have HQ := Lib.hid hq
      clear hm2 hq bv bp hk0 hk1 hn
      go_wp2_with fail
      go_quiet (fail)
      go_wp2_with fail
      go_roundw
      case measure => simp [intOf]; omega
      case rel => exact ⟨i + 1, _, by omega, by go_num, rfl, by repeat' (first | exact Below.refl _ _ | assumption | refine Below.more ?_ ?_ _ | refine Below.alloc ?_ ?_ _ | refine Below.drew ?_ | refine below_drewN ?_ _ | refine Below.setCell ?_ ?_ _ | exact Below.size (by assumption) | (simp [go_sem, size_more]; done) | (simp [go_sem, size_more]; omega)), HX.out.mono (by repeat' (first | exact Below.refl _ _ | assumption | refine Below.more ?_ ?_ _ | refine Below.alloc ?_ ?_ _ | refine Below.drew ?_ | refine below_drewN ?_ _ | refine Below.setCell ?_ ?_ _ | exact Below.size (by assumption) | (simp [go_sem, size_more]; done) | (simp [go_sem, size_more]; omega))), HM, HQ.out.1, HQ.out.2⟩
    · have e1 : k = T := by
        have h := hm.out
        rw [List.drop_eq_nil_of_le (by omega)] at h
        simp only [sumL] at h
        omega
      subst e1
      clear hm
      go_wp2_with fail
      go_ret
      exact ⟨rfl, hb⟩

end Go.Proofs.YtjgfgbiohbgcaaaGreat
