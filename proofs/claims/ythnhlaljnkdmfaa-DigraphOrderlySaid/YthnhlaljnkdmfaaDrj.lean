/- The reference's Joined and Steps. Conditions: the edges lie among the nodes. -/
import Derived.Test.YthnhlaljnkdmfaaDro
namespace Go.Proofs.Ythnhlaljnkdmfaa
open Go.RowKit
set_option linter.unusedVariables false
set_option linter.unusedSimpArgs false

def joinB (E : List (Nat × Nat)) (a b : Nat) : Bool := Gp.inE E a b
theorem joinB_drop {E : List (Nat × Nat)} {k : Nat} (hk : k < E.length) (a b : Nat) : Gp.inE (E.drop k) a b = (((E[k]).1 == a && (E[k]).2 == b) || Gp.inE (E.drop (k + 1)) a b) := by
  rw [List.drop_eq_getElem_cons hk]; rfl

set_option maxRecDepth 100000 in
set_option maxHeartbeats 2000000 in
theorem joined_any (E : List (Nat × Nat)) (a b : Nat) (v : Value) (w : World) (hE : IsEds w v E) (hl : E.length ≤ 1000000) :
    Calls Try.prog 21 #[v, .int .i64 a, .int .i64 b] w fun e w' => e = .returned (.bool (Gp.inE E a b)) ∧ w' = w := by
  obtain ⟨ea, cap, rfl, hcap, hbig, hs⟩ := hE
  go_enter Try.func21, Try.ntmps21
  go_wp2_with fail
  go_loopw [7] (fun s7 wx => wx = w ∧ ∃ (k : Nat), k ≤ E.length ∧ s7 = .int .i64 k ∧ Hid (Gp.inE E a b = Gp.inE (E.drop k) a b)) (fun s7 _ => E.length - (intOf s7).toNat)
  case atStart => exact ⟨rfl, 0, Nat.zero_le _, rfl, rfl⟩
  case round =>
    obtain ⟨rfl, k, hk, rfl, hm⟩ := hrel
    by_cases hkl : k < E.length
    · obtain ⟨eb, eo, rfl, c2, c3⟩ := hs.ed k hkl
      have hst := Lib.hid (joinB_drop hkl a b)
      have x8 : IntKind.i64.wrap ((k : Int) + 1) = k + 1 := IntWalk.i64_in _ (by omega)
      have i3 : decide (k < E.length) = true := decide_eq_true hkl
      obtain ⟨p, hpe⟩ : ∃ p, p = (E[k]).1 := ⟨_, rfl⟩
      obtain ⟨q, hqe⟩ : ∃ q, q = (E[k]).2 := ⟨_, rfl⟩
      rw [← hpe] at c2 hst
      rw [← hqe] at c3 hst
      clear hpe hqe hs
      by_cases hpa : p = a
      · subst hpa
        by_cases hqb : q = b
        · subst hqb
          have hf : Hid (Gp.inE E p q = true) := Lib.hid (by rw [hm.out, hst.out]; simp)
          go_wp2_with fail
          go_ret
          exact ⟨ret_bool hf.out.symm, rfl⟩
        · have h1 : (q == b) = false := by simpa using hqb
          have h2 : ((q : Int) == (b : Int)) = false := by rw [beq_eq_false_iff_ne]; omega
          have hf : Hid (Gp.inE E p b = Gp.inE (E.drop (k + 1)) p b) := Lib.hid (by rw [hm.out, hst.out, h1]; simp)
          go_wp2_with fail
          go_roundw
          case measure => simp [intOf]; omega
          case rel => exact ⟨trivial, k + 1, by omega, by go_num, hf⟩
      · have h1 : (p == a) = false := by simpa using hpa
        have h2 : ((p : Int) == (a : Int)) = false := by rw [beq_eq_false_iff_ne]; omega
        have hf : Hid (Gp.inE E a b = Gp.inE (E.drop (k + 1)) a b) := Lib.hid (by rw [hm.out, hst.out, h1]; simp)
        go_wp2_with fail
        go_roundw
        case measure => simp [intOf]; omega
        case rel => exact ⟨trivial, k + 1, by omega, by go_num, hf⟩
    · obtain rfl : k = E.length := by omega
      have hf : Hid (Gp.inE E a b = false) := Lib.hid (by rw [hm.out, List.drop_length]; rfl)
      have i3 : decide (E.length < E.length) = false := by simp
      go_wp2_with fail
      go_ret
      exact ⟨ret_bool hf.out.symm, rfl⟩

set_option maxRecDepth 100000 in
set_option maxHeartbeats 8000000 in
theorem steps_any (n : Nat) (E : List (Nat × Nat)) (b low : Nat) (v : Value) (w : World) (hE : IsEds w v E) (hv : Gp.vtx n E) (hn : n ≤ 1000000) (hl : E.length ≤ 1000000) (hb : b < n) :
    Calls Try.prog 53 #[.int .i64 n, v, .int .i64 b, .int .i64 low] w fun e w' => (∃ u, e = .returned u ∧ Own w.heap.size 3 eInt 1 w' u (Gp.stepsL n E b low)) ∧ Below w.heap.size w w' := by
  obtain ⟨ea, cap, rfl, hcap, hbig, hs⟩ := hE
  have hll : n < 2147483648 := by omega
  have hfin : Hid (Gp.stepsL n E b low = Gp.stepsF E low n 0 (Gp.begS n b)) := rfl
  go_enter Try.func53, Try.ntmps53
  go_wp2_with (refine wpList_mk _ rfl _ _ 25 rfl w.heap.size 3 _ 8 undInts infInt eInt 0 rfl rfl _ _ n rfl rfl rfl rfl hll (by omega) (Nat.le_refl _) ?_; intro w1 hown1 hb1 hlt1)
  go_loopw [10] (fun s10 wr => ∃ k : Nat, k ≤ n ∧ s10 = .int .i64 k ∧ Below w.heap.size w wr ∧ w.heap.size < wr.heap.size ∧ Own w.heap.size 3 eInt 1 wr (.slice (some ⟨w.heap.size, 0, none⟩) n n) (List.replicate k (-1) ++ List.replicate (n - k) 0)) (fun i _ => n - (intOf i).toNat)
  case atStart => exact ⟨0, Nat.zero_le _, rfl, hb1, hlt1, by simpa using hown1⟩
  clear hown1 hb1 hlt1
  case round =>
    obtain ⟨k, hk, rfl, hb', hlt, HO⟩ := hrel
    by_cases hkn : k < n
    · have hO2 := HO.seti k (by simp; omega) (-1)
      rw [fill_set n k (-1) 0 hkn] at hO2
      have q3 := HO.inti k (by simp; omega)
      have f3 : wr.frozen? ⟨w.heap.size, k, none⟩ = false := Own.free HO _
      generalize (List.replicate k (-1) ++ List.replicate (n - k) 0)[k]'_ = z at q3
      have hb2 := hb'.setCell (p := ⟨w.heap.size, k, none⟩) (Nat.le_refl w.heap.size) (.int .i64 (-1))
      have hl2 : w.heap.size < (wr.setCell ⟨w.heap.size, k, none⟩ (.int .i64 (-1))).heap.size := by simp [World.setCell]; exact hlt
      have i3 : decide (k < n) = true := decide_eq_true hkn
      have x8 : IntKind.i64.wrap ((k : Int) + 1) = k + 1 := IntWalk.i64_in _ (by omega)
      clear HO
      go_wp2_with fail
      go_roundw
      case measure => simp [intOf]; omega
      case rel => exact ⟨k + 1, by omega, by go_num, hb2, hl2, hO2⟩
    · obtain rfl : n = k := by omega
      rw [Nat.sub_self, List.replicate_zero, List.append_nil] at HO
      have q3 := HO.inti b (by simpa using hb)
      have f3 : wr.frozen? ⟨w.heap.size, b, none⟩ = false := Own.free HO _
      rw [List.getElem_replicate] at q3
      have hOF := HO.seti b (by simpa using hb) 0
      have hbF := hb'.setCell (p := ⟨w.heap.size, b, none⟩) (Nat.le_refl w.heap.size) (.int .i64 0)
      have hlF : w.heap.size < (wr.setCell ⟨w.heap.size, b, none⟩ (.int .i64 0)).heap.size := by simp [World.setCell]; exact hlt
      have hOF : Own w.heap.size 3 eInt 1 (wr.setCell ⟨w.heap.size, b, none⟩ (.int .i64 0)) (.slice (some ⟨w.heap.size, 0, none⟩) n n) (Gp.begS n b) := hOF
      have hbl : Hid ((Gp.begS n b).length = n) := Lib.hid (by simp [Gp.begS])
      have i3 : decide (n < n) = false := by simp
      clear HO hb' hlt
      go_wp2_with fail
      go_loopw [11] (fun s11 wr => ∃ (d : Nat) (out : List Int), d ≤ n ∧ s11 = .int .i64 d ∧ Own w.heap.size 3 eInt 1 wr (.slice (some ⟨w.heap.size, 0, none⟩) n n) out ∧ Below w.heap.size w wr ∧ w.heap.size < wr.heap.size ∧ Hid (out.length = n) ∧ Hid (Gp.stepsF E low (n - d) d out = Gp.stepsL n E b low)) (fun s11 _ => n - (intOf s11).toNat)
      case atStart => exact ⟨0, Gp.begS n b, Nat.zero_le _, rfl, hOF, hbF, hlF, hbl, rfl⟩
      clear hOF hbF hlF hbl q3 f3
      case round =>
        obtain ⟨d, out, hd, rfl, HO, hb', hlt, HL, HF⟩ := hrel
        by_cases hdn : d < n
        · have hst : Hid (Gp.stepsF E low (n - d) d out = Gp.stepsF E low (n - (d + 1)) (d + 1) (Gp.scanE low d E out)) := Lib.hid (by
            rw [show n - d = (n - (d + 1)) + 1 by omega]; rfl)
          have i4 : decide (d < n) = true := decide_eq_true hdn
          have x7 : IntKind.i64.wrap ((d : Int) + 1) = d + 1 := IntWalk.i64_in _ (by omega)
          go_wp2_with fail
          go_loopw [12] (fun s12 wr => ∃ (k : Nat) (o3 : List Int), k ≤ E.length ∧ s12 = .int .i64 k ∧ Own w.heap.size 3 eInt 1 wr (.slice (some ⟨w.heap.size, 0, none⟩) n n) o3 ∧ Below w.heap.size w wr ∧ w.heap.size < wr.heap.size ∧ Hid (o3.length = n) ∧ Hid (Gp.scanE low d (E.drop k) o3 = Gp.scanE low d E out)) (fun s12 _ => E.length - (intOf s12).toNat)
          case atStart => exact ⟨0, out, Nat.zero_le _, rfl, HO, hb', hlt, HL, rfl⟩
          clear HO hb' hlt HL
          case round =>
            obtain ⟨k, o3, hk, rfl, HO, hb', hlt, HL3, HF3⟩ := hrel
            by_cases hkl : k < E.length
            · obtain ⟨eb, eo, rfl, c2, c3⟩ := (hs.mono hb').ed k hkl
              have he1 : (E[k]).1 < n ∧ (E[k]).2 < n := hv _ (List.getElem_mem hkl)
              have hp : (E[k]).1 < o3.length := by have := HL3.out; omega
              have hq : (E[k]).2 < o3.length := by have := HL3.out; omega
              have hst2 : Hid (Gp.scanE low d (E.drop k) o3 = if decide (low ≤ (E[k]).1) && decide (low ≤ (E[k]).2) && (o3.getD (E[k]).2 (-1) == (d : Int)) && decide (o3.getD (E[k]).1 (-1) < 0) then Gp.scanE low d (E.drop (k + 1)) (o3.set (E[k]).1 (d + 1)) else Gp.scanE low d (E.drop (k + 1)) o3) := by
                rw [List.drop_eq_getElem_cons hkl]; rfl
              rw [getD_at hp, getD_at hq] at hst2
              have hls : Hid ((o3.set (E[k]).1 ((d : Int) + 1)).length = n) := Lib.hid (by rw [List.length_set]; exact HL3.out)
              have x8 : IntKind.i64.wrap ((k : Int) + 1) = k + 1 := IntWalk.i64_in _ (by omega)
              have i3 : decide (k < E.length) = true := decide_eq_true hkl
              obtain ⟨x1, hx1⟩ : ∃ x1, x1 = o3[(E[k]).1] := ⟨_, rfl⟩
              obtain ⟨x2, hx2⟩ : ∃ x2, x2 = o3[(E[k]).2] := ⟨_, rfl⟩
              have c4 := HO.inti (E[k]).1 hp
              have c5 := HO.inti (E[k]).2 hq
              rw [← hx1] at c4 hst2
              rw [← hx2] at c5 hst2
              obtain ⟨p, hpe⟩ : ∃ p, p = (E[k]).1 := ⟨_, rfl⟩
              obtain ⟨q, hqe⟩ : ∃ q, q = (E[k]).2 := ⟨_, rfl⟩
              rw [← hpe] at c2 c4 hst2 he1 hls hp
              rw [← hqe] at c3 c5 hst2 he1
              clear hx1 hx2 hpe hqe hs
              go_wp2_with fail
              go_quiet (fail)
              have hbd : Below wr.heap.size wr (wr.drewN nq) := below_drewN (Below.refl _ _) _
              have HOd := HO.below hbd
              have hb2 := hb'.trans (hbd.mono hb'.size)
              have hl2 : w.heap.size < (wr.drewN nq).heap.size := by have := hbd.size; omega
              have d4 := cell_lt c4 hbd
              have d5 := cell_lt c5 hbd
              have f4 : (wr.drewN nq).frozen? ⟨w.heap.size, p, none⟩ = false := Own.free HOd _
              have hOs := HOd.seti p hp ((d : Int) + 1)
              have hbs := hb2.setCell (p := ⟨w.heap.size, p, none⟩) (Nat.le_refl w.heap.size) (.int .i64 ((d : Int) + 1))
              have hlss : w.heap.size < ((wr.drewN nq).setCell ⟨w.heap.size, p, none⟩ (.int .i64 ((d : Int) + 1))).heap.size := by simp [World.setCell]; exact hlt
              generalize wr.drewN nq = wd at *
              clear HO hb' hlt hbd c4 c5 c2 c3
              have skip : (decide (low ≤ p) && decide (low ≤ q) && (x2 == (d : Int)) && decide (x1 < 0)) = false → Hid (Gp.scanE low d (E.drop (k + 1)) o3 = Gp.scanE low d E out) := fun h => by
                rw [h] at hst2
                exact Lib.hid (hst2.out.symm.trans HF3.out)
              have take : (decide (low ≤ p) && decide (low ≤ q) && (x2 == (d : Int)) && decide (x1 < 0)) = true → Hid (Gp.scanE low d (E.drop (k + 1)) (o3.set p (d + 1)) = Gp.scanE low d E out) := fun h => by
                rw [h] at hst2
                exact Lib.hid (hst2.out.symm.trans HF3.out)
              clear hst2
              cases g1 : decide (low ≤ p)
              · have g1' : decide ((low : Int) ≤ p) = false := by simp at g1 ⊢; exact g1
                have hs2 := skip (by rw [g1]; rfl)
                clear skip take
                go_wp2_with fail
                go_roundw
                case measure => simp [intOf]; omega
                case rel => exact ⟨k + 1, o3, by omega, by go_num, HOd, hb2, hl2, HL3, hs2⟩
              have g1' : decide ((low : Int) ≤ p) = true := by simp at g1 ⊢; exact g1
              cases g2 : decide (low ≤ q)
              · have g2' : decide ((low : Int) ≤ q) = false := by simp at g2 ⊢; exact g2
                have hs2 := skip (by rw [g2]; simp)
                clear skip take
                go_wp2_with fail
                go_roundw
                case measure => simp [intOf]; omega
                case rel => exact ⟨k + 1, o3, by omega, by go_num, HOd, hb2, hl2, HL3, hs2⟩
              have g2' : decide ((low : Int) ≤ q) = true := by simp at g2 ⊢; exact g2
              by_cases g3 : x2 = (d : Int)
              rotate_left
              · have g3' : (x2 == (d : Int)) = false := by simpa using g3
                have hs2 := skip (by rw [g3']; simp)
                clear skip take
                go_wp2_with fail
                go_roundw
                case measure => simp [intOf]; omega
                case rel => exact ⟨k + 1, o3, by omega, by go_num, HOd, hb2, hl2, HL3, hs2⟩
              subst g3
              cases g4 : decide (x1 < 0)
              · have hs2 := skip (by rw [g4]; simp)
                clear skip take
                go_wp2_with fail
                go_roundw
                case measure => simp [intOf]; omega
                case rel => exact ⟨k + 1, o3, by omega, by go_num, HOd, hb2, hl2, HL3, hs2⟩
              · have hs2 := take (by rw [g1, g2, g4]; simp)
                clear skip take HOd hb2 hl2
                go_wp2_with fail
                go_roundw
                case measure => simp [intOf]; omega
                case rel => exact ⟨k + 1, o3.set p ((d : Int) + 1), by omega, by go_num, hOs, hbs, hlss, hls, hs2⟩
            · obtain rfl : k = E.length := by omega
              have h1 : Hid (Gp.scanE low d E out = o3) := Lib.hid (by rw [← HF3.out, List.drop_length]; rfl)
              have i3 : decide (E.length < E.length) = false := by simp
              have hF2 : Hid (Gp.stepsF E low (n - (d + 1)) (d + 1) o3 = Gp.stepsL n E b low) := Lib.hid (by
                rw [← h1.out, ← hst.out]; exact HF.out)
              clear HF3
              go_wp2_with fail
              go_roundw
              case measure => simp [intOf]; omega
              case rel => exact ⟨d + 1, o3, by omega, by go_num, HO, hb', hlt, HL3, hF2⟩
        · obtain rfl : n = d := by omega
          have hF2 : Hid (out = Gp.stepsL n E b low) := Lib.hid (by
            rw [← HF.out, Nat.sub_self]; rfl)
          have i4 : decide (n < n) = false := by simp
          clear HF
          go_wp2_with fail
          go_ret
          exact ⟨⟨_, rfl, by rw [← hF2.out]; exact HO⟩, hb'⟩

end Go.Proofs.Ythnhlaljnkdmfaa
