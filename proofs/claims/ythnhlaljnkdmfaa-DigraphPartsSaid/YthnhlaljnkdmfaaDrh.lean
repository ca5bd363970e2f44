/- The reference's reach. Conditions: the edges and the beginnings lie among the nodes. -/
import Derived.Test.YthnhlaljnkdmfaaDgh
namespace Go.Proofs.Ythnhlaljnkdmfaa
open Go.RowKit
set_option linter.unusedVariables false
set_option linter.unusedSimpArgs false

set_option maxRecDepth 100000 in
set_option maxHeartbeats 8000000 in
theorem r8reach_any (n : Nat) (E : List (Nat × Nat)) (f : List Nat) (v fv : Value) (w : World) (hE : IsEds w v E) (hv : Gp.vtx n E) (hn : n ≤ 1000000) (hl : E.length ≤ 1000000) (hF : IsNats w fv f) (hf : ∀ s ∈ f, s < n) (hfl : f.length ≤ 1000000) :
    Calls Try.prog 32 #[.int .i64 n, v, fv] w fun e w' => (∃ u, e = .returned u ∧ Own w.heap.size 4 eBool 1 w' u (Gp.reachL n E f)) ∧ Below w.heap.size w w' := by
  obtain ⟨a, cap, rfl, hcap, hbig, hs⟩ := hE
  obtain ⟨fa, fc, rfl, _, _, hfs⟩ := hF
  have hll : n < 2147483648 := by omega
  go_enter Try.func32, Try.ntmps32
  go_wp2_with (refine wpList_mk _ rfl _ _ 39 rfl w.heap.size 4 _ 1 undBools infBool eBool false rfl rfl _ _ n rfl rfl rfl rfl hll (by omega) (Nat.le_refl _) ?_; intro w1 hown1 hb1 hlt1)
  go_loopw [8] (fun s8 wr => ∃ (i : Nat) (out : List Bool), i ≤ f.length ∧ s8 = .int .i64 i ∧ Own w.heap.size 4 eBool 1 wr (.slice (some ⟨w.heap.size, 0, none⟩) n n) out ∧ Below w.heap.size w wr ∧ w.heap.size < wr.heap.size ∧ Hid (out.length = n) ∧ Hid (Gp.begL n (f.drop i) out = Gp.begL n f (List.replicate n false))) (fun s8 _ => f.length - (intOf s8).toNat)
  case atStart => exact ⟨0, _, Nat.zero_le _, rfl, hown1, hb1, hlt1, Lib.hid (by simp), rfl⟩
  clear hown1 hb1 hlt1
  case round =>
    obtain ⟨i, out, hi, rfl, HO, hb, hlt, HL, HF⟩ := hrel
    by_cases hif : i < f.length
    · obtain ⟨fb, fo, rfl, c1⟩ := (hfs.mono hb).nat i hif
      have hsn : f[i] < n := hf _ (List.getElem_mem hif)
      have hso : f[i] < out.length := by have := HL.out; omega
      have c2 := HO.boolAt f[i] hso
      have f2 : wr.frozen? ⟨w.heap.size, f[i], none⟩ = false := Own.free HO _
      have hst : Hid (Gp.begL n (f.drop i) out = Gp.begL n (f.drop (i + 1)) (out.set f[i] true)) := by
        rw [List.drop_eq_getElem_cons hif]; rfl
      have hOs := HO.setb f[i] hso true
      have hb2 := hb.setCell (p := ⟨w.heap.size, f[i], none⟩) (Nat.le_refl w.heap.size) (.bool true)
      have hl2 : w.heap.size < (wr.setCell ⟨w.heap.size, f[i], none⟩ (.bool true)).heap.size := by simp [World.setCell]; exact hlt
      have hls : Hid ((out.set f[i] true).length = n) := Lib.hid (by rw [List.length_set]; exact HL.out)
      have x8 : IntKind.i64.wrap ((i : Int) + 1) = i + 1 := IntWalk.i64_in _ (by omega)
      have i3 : decide (i < f.length) = true := decide_eq_true hif
      generalize out[f[i]] = cb at *
      generalize f[i] = s at *
      clear HO hb hlt hfs
      go_wp2_with fail
      go_roundw
      case measure => simp [intOf]; omega
      case rel => exact ⟨i + 1, out.set s true, by omega, by go_num, hOs, hb2, hl2, hls, Lib.hid (hst.out.symm.trans HF.out)⟩
    · obtain rfl : i = f.length := by omega
      have h0 : out = Gp.begL n f (List.replicate n false) := by
        rw [← HF.out, List.drop_length]; rfl
      have hI0 : Hid (Gp.MInv n E f out) := Lib.hid (by rw [h0]; exact Gp.MInv.start hf)
      have hG0 : Hid (Gp.unm out + 1 ≤ n + 1) := Lib.hid (by
        have := unm_le out
        have := HL.out
        omega)
      clear h0 hfs HF
      go_wp2_with fail
      go_loopg [9] (n + 1) (fun gk s9 wr => ∃ (m : Bool) (out : List Bool), s9 = .bool m ∧ Own w.heap.size 4 eBool 1 wr (.slice (some ⟨w.heap.size, 0, none⟩) n n) out ∧ Below w.heap.size w wr ∧ w.heap.size < wr.heap.size ∧ Hid (Gp.MInv n E f out) ∧ Hid (m = true → Gp.unm out + 1 ≤ gk) ∧ Hid (m = false → (Gp.markE E out false).2 = false))
      case atStart => exact ⟨true, out, rfl, HO, hb, hlt, hI0, Lib.hid (fun _ => hG0.out), Lib.hid (fun h => by cases h)⟩
      clear HO hb hlt hI0 hG0 HL
      case round =>
        obtain ⟨m, out, rfl, HO, hb, hlt, HI, HG, HM⟩ := hrel
        cases m
        · have hfin := Lib.hid (HI.out.done hv hf (HM.out rfl))
          go_wp2_with fail
          go_ret
          exact ⟨⟨_, rfl, by rw [← hfin.out]; exact HO⟩, hb⟩
        · have hG1 := HG.out rfl
          have HG2 := Lib.hid hG1
          have hL0 := Lib.hid HI.out.len
          clear HM HG hG1
          go_wp2_with fail
          go_loopw [9, 10] (fun s9 s10 wr => ∃ (k : Nat) (m : Bool) (o3 : List Bool), k ≤ E.length ∧ s10 = .int .i64 k ∧ s9 = .bool m ∧ Own w.heap.size 4 eBool 1 wr (.slice (some ⟨w.heap.size, 0, none⟩) n n) o3 ∧ Below w.heap.size w wr ∧ w.heap.size < wr.heap.size ∧ Hid (o3.length = n) ∧ Hid (Gp.markE (E.drop k) o3 m = Gp.markE E out false)) (fun _ s10 _ => E.length - (intOf s10).toNat)
          case atStart => exact ⟨0, false, out, Nat.zero_le _, rfl, rfl, HO, hb, hlt, hL0, rfl⟩
          clear HO hb hlt hL0
          case round =>
            obtain ⟨k, m, o3, hk, rfl, rfl, HO, hb, hlt, HL3, HF3⟩ := hrel
            by_cases hkl : k < E.length
            · obtain ⟨eb, eo, rfl, c2, c3⟩ := (hs.mono hb).ed k hkl
              have he1 : (E[k]).1 < n ∧ (E[k]).2 < n := hv _ (List.getElem_mem hkl)
              have hp : (E[k]).1 < o3.length := by have := HL3.out; omega
              have hq : (E[k]).2 < o3.length := by have := HL3.out; omega
              have c4 := HO.boolAt (E[k]).1 hp
              have c5 := HO.boolAt (E[k]).2 hq
              have f5 : wr.frozen? ⟨w.heap.size, (E[k]).2, none⟩ = false := Own.free HO _
              have hst : Hid (Gp.markE (E.drop k) o3 m = if o3.getD (E[k]).1 false && !o3.getD (E[k]).2 false then Gp.markE (E.drop (k + 1)) (o3.set (E[k]).2 true) true else Gp.markE (E.drop (k + 1)) o3 m) := by
                rw [List.drop_eq_getElem_cons hkl]; rfl
              rw [getD_at hp, getD_at hq] at hst
              have hOs := HO.setb (E[k]).2 hq true
              have hb2 := hb.setCell (p := ⟨w.heap.size, (E[k]).2, none⟩) (Nat.le_refl w.heap.size) (.bool true)
              have hl2 : w.heap.size < (wr.setCell ⟨w.heap.size, (E[k]).2, none⟩ (.bool true)).heap.size := by simp [World.setCell]; exact hlt
              have hls : Hid ((o3.set (E[k]).2 true).length = n) := Lib.hid (by rw [List.length_set]; exact HL3.out)
              have x8 : IntKind.i64.wrap ((k : Int) + 1) = k + 1 := IntWalk.i64_in _ (by omega)
              have i3 : decide (k < E.length) = true := decide_eq_true hkl
              generalize o3[(E[k]).1] = b1 at *
              generalize o3[(E[k]).2] = b2 at *
              obtain ⟨p, hpe⟩ : ∃ p, p = (E[k]).1 := ⟨_, rfl⟩
              obtain ⟨q, hqe⟩ : ∃ q, q = (E[k]).2 := ⟨_, rfl⟩
              rw [← hpe] at c2 c4 he1 hp
              rw [← hqe] at c3 c5 f5 hst he1 hOs hb2 hl2 hls hq
              clear hpe hqe hs
              cases b1
              · simp only [Bool.false_and, Bool.false_eq_true, if_false] at hst
                go_wp2_with fail
                go_roundw
                case measure => simp [intOf]; omega
                case rel => exact ⟨k + 1, m, o3, by omega, by go_num, rfl, HO, hb, hlt, HL3, Lib.hid (hst.out.symm.trans HF3.out)⟩
              · cases b2
                · simp only [Bool.true_and, Bool.not_false, if_true] at hst
                  clear HO hb hlt
                  go_wp2_with fail
                  go_roundw
                  case measure => simp [intOf]; omega
                  case rel => exact ⟨k + 1, true, o3.set q true, by omega, by go_num, rfl, hOs, hb2, hl2, hls, Lib.hid (hst.out.symm.trans HF3.out)⟩
                · simp only [Bool.true_and, Bool.not_true, Bool.false_eq_true, if_false] at hst
                  go_wp2_with fail
                  go_roundw
                  case measure => simp [intOf]; omega
                  case rel => exact ⟨k + 1, m, o3, by omega, by go_num, rfl, HO, hb, hlt, HL3, Lib.hid (hst.out.symm.trans HF3.out)⟩
            · obtain rfl : k = E.length := by omega
              have h1 : Gp.markE E out false = (o3, m) := by
                rw [← HF3.out, List.drop_length]; rfl
              have hI2 : Hid (Gp.MInv n E f o3) := Lib.hid (by
                have := Gp.markE_inv hv E out false (fun e he => he) HI.out
                rw [h1] at this; exact this)
              have hU := Gp.markE_unm E out false (fun e he => by rw [HI.out.len]; exact (hv e he).2)
              rw [h1] at hU
              have hG3 : Hid (m = true → Gp.unm o3 + 1 ≤ gk - 1) := Lib.hid (fun hm => by
                rcases hU.2 hm with h | h
                · cases h
                · have := HG2.out; simp only at h; omega)
              have hM3 : Hid (m = false → (Gp.markE E o3 false).2 = false) := Lib.hid (fun hm => by
                subst hm
                have h2 : (Gp.markE E out false).2 = false := by rw [h1]
                have h3 := (Gp.markE_false E out h2).1
                rw [h1] at h3
                simp only at h3
                rw [h3]; exact h2)
              have hgk : gk - 1 < gk := by have := HG2.out; omega
              have HGK := Lib.hid hgk
              clear h1 hU HF3 hgk
              go_wp2_with fail
              go_roundg (gk - 1)
              case measure => exact HGK.out
              case rel => exact ⟨m, o3, rfl, HO, hb, hlt, hI2, hG3, hM3⟩

end Go.Proofs.Ythnhlaljnkdmfaa
