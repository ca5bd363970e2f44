/- The law DigraphOrderly returns true for every number and every list of edges, and leaves its arguments as they were. Conditions: none beyond the row's own. -/
import Derived.Test.YthnhlaljnkdmfaaRows
import Derived.WalkKit
import Derived.ProofKit
import Derived.OpenShut
import Derived.ShutString
import Derived.ChangeOld
import Derived.Below
import Derived.Test.YthnhlaljnkdmfaaDor
import Derived.Test.YthnhlaljnkdmfaaDge
import Derived.Test.YthnhlaljnkdmfaaRowk
namespace Go.Proofs.Ythnhlaljnkdmfaa.digraphOrderly
open Go.ChangeShapes Go.WideShapes Go.ChangeAt Go.RowKit
set_option linter.unusedVariables false
set_option linter.unusedSimpArgs false
open Go.ChangeMaps (open_string shut_string)
set_option linter.unusedVariables false

theorem own : ownKnob Try.prog.godebug = none := by kernel_rfl
theorem laidOut : laidOutB Try.prog = true := by kernel_rfl

set_option maxRecDepth 100000 in
set_option maxHeartbeats 4000000 in
theorem ord1_any (e : Nat × Nat) (v : Nat) (kk : Int) (D : List Int) (da : Option Addr) (dc VB DB KB : Nat) (w : World) (hD : IsInts w (.slice da D.length dc) D) (he : e.1 < D.length) (hs : -1000000 ≤ kk ∧ kk ≤ 1000000)
    (h1 : w.cell? ⟨VB, 0, none⟩ = some (.int .i64 (v : Int))) (h2 : w.cell? ⟨DB, 0, none⟩ = some (.slice da D.length dc)) (h3 : w.cell? ⟨KB, 0, none⟩ = some (.int .i64 kk)) :
    Calls Try.prog 24 #[vEd e, .pointer (some ⟨VB, 0, none⟩), .pointer (some ⟨DB, 0, none⟩), .pointer (some ⟨KB, 0, none⟩)] w fun r w' => r = .returned (.bool (e.2 == v && D.getD e.1 0 == kk - 1)) ∧ Below w.heap.size w w' := by
  obtain ⟨p, q⟩ := e
  simp only at he ⊢
  obtain ⟨da', dcc, hde, _, _, hdc⟩ := hD
  simp only [Value.slice.injEq] at hde
  obtain ⟨rfl, _, rfl⟩ := hde
  obtain ⟨b, o, rfl, q1⟩ := hdc.int p he
  have hX := alloc_below w (.cells #[.int .i64 (p : Int), .int .i64 (q : Int)] 35)
  have d1 := cell_lt h1 hX
  have d2 := cell_lt h2 hX
  have d3 := cell_lt h3 hX
  have d4 := cell_lt q1 hX
  have e0 : (w.alloc (.cells #[.int .i64 (p : Int), .int .i64 (q : Int)] 35)).cell? ⟨w.heap.size, 0, none⟩ = some (.int .i64 (p : Int)) := by simp [go_sem]
  have e1 : (w.alloc (.cells #[.int .i64 (p : Int), .int .i64 (q : Int)] 35)).cell? ⟨w.heap.size, 1, none⟩ = some (.int .i64 (q : Int)) := by simp [go_sem]
  have x1 : IntKind.i64.wrap (kk - 1) = kk - 1 := IntWalk.i64_in _ (by omega)
  have l1 : (p : Int) < D.length := by omega
  rw [getD_at he]
  generalize D[p] = x at *
  clear hdc
  by_cases hqv : q = v
  · subst hqv
    have g0 : (q == q) = true := by simp
    by_cases hx : x = kk - 1
    · have g1 : (x == kk - 1) = true := by simpa using hx
      go_enter Try.func24, Try.ntmps24
      go_wp2_with fail
      go_quiet (fail)
      go_wp2_with fail
      go_ret
      exact ⟨ret_bool (by simp [g1]), by repeat' (first | exact Below.refl _ _ | assumption | refine Below.more ?_ ?_ _ | refine Below.alloc ?_ ?_ _ | refine Below.drew ?_ | refine below_drewN ?_ _ | refine Below.setCell ?_ ?_ _ | exact Below.size (by assumption) | (simp [go_sem, size_more]; done) | (simp [go_sem, size_more]; omega))⟩
    · have g1 : (x == kk - 1) = false := by simpa using hx
      go_enter Try.func24, Try.ntmps24
      go_wp2_with fail
      go_quiet (fail)
      go_wp2_with fail
      go_ret
      exact ⟨ret_bool (by simp [g1]), by repeat' (first | exact Below.refl _ _ | assumption | refine Below.more ?_ ?_ _ | refine Below.alloc ?_ ?_ _ | refine Below.drew ?_ | refine below_drewN ?_ _ | refine Below.setCell ?_ ?_ _ | exact Below.size (by assumption) | (simp [go_sem, size_more]; done) | (simp [go_sem, size_more]; omega))⟩
  · have g1 : (q == v) = false := by simpa using hqv
    have g2 : ((q : Int) == (v : Int)) = false := by rw [beq_eq_false_iff_ne]; omega
    go_enter Try.func24, Try.ntmps24
    go_wp2_with fail
    go_quiet (fail)
    go_wp2_with fail
    go_ret
    exact ⟨ret_bool (by simp [g1]), by repeat' (first | exact Below.refl _ _ | assumption | refine Below.more ?_ ?_ _ | refine Below.alloc ?_ ?_ _ | refine Below.drew ?_ | refine below_drewN ?_ _ | refine Below.setCell ?_ ?_ _ | exact Below.size (by assumption) | (simp [go_sem, size_more]; done) | (simp [go_sem, size_more]; omega))⟩

set_option maxRecDepth 100000 in
set_option maxHeartbeats 32000000 in
theorem walk (n : Int) (v1 : Value) (x1 : Sl (Int × Int)) (w : World) (w0 : (Lit.int .i64 n).wf = true) (w1 : v1 = vSl x1 ∧ gSl eEi 2 gEd w x1) :
    Calls Try.prog 4 #[.int .i64 n, v1] w fun e w' => e = .returned (.bool true) ∧ Below w.heap.size w w' := by
  obtain ⟨rfl, hx⟩ := w1
  have hE : IsEis w (vSl x1) x1.xs := hx.isL
  clear hx w0
  obtain ⟨xa, xc, E⟩ := x1
  simp only at hE
  have hE : IsEis w (.slice xa E.length xc) E := hE
  have hvr := fun W (hW : IsEis W (.slice xa E.length xc) E) => r8valid_any n E _ W hW
  show Calls Try.prog 4 #[.int .i64 n, .slice xa E.length xc] w _
  go_enter Try.func4, Try.ntmps4
  go_wp2_with fail
  refine Calls.to (d8awake_any _) ?_
  rintro e w1 rfl hb1
  have hE1 := hE.mono hb1
  cases g1 : decide (60 < n)
  rotate_left
  · go_wp2_with fail
    go_ret
    exact ⟨rfl, hb1⟩
  by_cases g2 : 200 < E.length
  · have j1 : decide (200 < E.length) = true := decide_eq_true g2
    have j2 : decide ((200 : Int) < E.length) = true := decide_eq_true (by omega)
    go_wp2_with fail
    go_ret
    exact ⟨rfl, hb1⟩
  have j1 : decide (200 < E.length) = false := decide_eq_false g2
  have j2 : decide ((200 : Int) < E.length) = false := decide_eq_false (by omega)
  cases hvb : validB n E
  · rw [hvb] at hvr
    go_wp2_with fail
    refine Calls.go hb1 (hvr _ hE1) ?_
    rintro e w2 rfl hb2 hbb2
    go_wp2_with fail
    go_ret
    exact ⟨rfl, hbb2⟩
  rw [hvb] at hvr
  obtain ⟨N, G, rfl, rfl, hv, hN, hG⟩ := validB_nat hvb
  simp only [edI_len] at hE hE1 hvr j1 j2
  rw [edI_len]
  have hEG := isL_edI.1 hE
  go_wp2_with fail
  refine Calls.go hb1 (hvr _ hE1) ?_
  rintro e w2 rfl hb2 hbb2
  clear hE1 hvr hb1 hb2 j1 j2 g1
  go_wp2_with fail
  refine Calls.go hbb2 (order_ok N G _ _ (hEG.mono hbb2) hv hN hG) ?_
  rintro e w3 ⟨u, c, rfl, hor⟩ hb3 hbb3
  by_cases hac : (Gp.ordL N G).length = N
  · have hac1 : ¬ (Gp.ordL N G).length < N := by omega
    simp only [hac, true_and, hac1, false_and, or_false, Nat.lt_irrefl] at hor
    obtain ⟨rfl, hO⟩ := hor
    have hOl := (hO.isL (fun _ => rfl))
    obtain ⟨oa, oc, rfl⟩ := hO.isSlice
    obtain ⟨L, hL⟩ : ∃ L, L = Gp.ordL N G := ⟨_, rfl⟩
    have HAC := Lib.hid hac
    have hOC := hO.isC
    rw [← hL] at hOC ⊢ hac
    have hLnd : L.Nodup := by rw [hL]; exact (Gp.ordL_inv N G).nd
    have hLlt : ∀ x ∈ L, x < N := by rw [hL]; exact (Gp.ordL_inv N G).lt
    have HON : Hid (∀ q, q < N → ∃ (j : Nat) (hj : j < L.length), L[j] = q ∧ ∀ p, Gp.inE G p q = true → ∃ (i : Nat) (hi : i < j), L[i]'(by omega) = p) := Lib.hid (fun q hq => by
      subst hL
      obtain ⟨j, hj, e⟩ := Gp.ordL_all HAC.out hq
      refine ⟨j, hj, e, fun p hp => ?_⟩
      rw [← e] at hp
      exact Gp.ordL_on hj hp)
    have HLN := Lib.hid hac
    clear hO hOl hac hac1 hL
    rw [HLN.out]
    go_wp2_with fail
    refine Calls.go hbb3 (depths_ok N G _ _ (hEG.mono hbb3) hv hN hG) ?_
    rintro e w4 ⟨du, dcc, rfl, hord⟩ hb4 hbb4
    rcases hord with ⟨_, rfl, hD⟩ | ⟨h, _, _⟩
    rotate_left
    · have := HAC.out; omega
    have hDI := Gp.depL_I N G
    have hDs := Gp.depF_small G (n := N) (Gp.ordL N G)
    have hDl : (Gp.depL N G).length = N := Gp.depF_len N G (Gp.ordL N G)
    have hDs : Gp.Small (Gp.ordL N G).length (Gp.depL N G) := hDs
    rw [HAC.out] at hDs
    obtain ⟨D, hDe⟩ : ∃ D, D = Gp.depL N G := ⟨_, rfl⟩
    rw [← hDe] at hD hDI hDs hDl
    have hDL := hD.isL (fun _ => rfl)
    have hordm : ∀ x, x < N → x ∈ Gp.ordL N G := fun x hx => by
      obtain ⟨i, hi, e⟩ := Gp.ordL_all HAC.out hx
      rw [← e]; exact List.getElem_mem hi
    have HUP : Hid (∀ p q, p < N → q < N → Gp.inE G p q = true → D.getD p 0 < D.getD q 0) := Lib.hid (fun p q hp hq he => by
      have := hDI.up p (hordm p hp) q hq he
      omega)
    have HBY : Hid (∀ y, y < N → D.getD y 0 = 0 ∨ ∃ x, x < N ∧ Gp.inE G x y = true ∧ D.getD y 0 = D.getD x 0 + 1) := Lib.hid (fun y hy => by
      rcases hDI.by' y hy with h | ⟨x, hx, h1, h2⟩
      · exact .inl h
      · exact .inr ⟨x, (Gp.vtx_in hv h1).1, h1, h2⟩)
    have HSM := Lib.hid hDs
    have HDL := Lib.hid hDl
    obtain ⟨da, dcc, hdv⟩ := hD.isSlice
    rw [hdv] at hDL
    clear hD hDI hDs hordm hDe hDl
    subst hdv
    have hOC4 := hOC.mono hb4
    have hA5 := alloc_below w4 (.cells #[.slice da D.length dcc] 25)
    have hbb5 := hbb4.trans (hA5.mono hbb4.size)
    have cD5 : (w4.alloc (.cells #[.slice da D.length dcc] 25)).cell? ⟨w4.heap.size, 0, none⟩ = some (.slice da D.length dcc) := by simp [go_sem]
    go_wp2_with fail
    refine Calls.go hbb5 (loop_ok N G _ _ (hEG.mono hbb5) hv hN hG) ?_
    rintro e w6 ⟨lu, lc, rfl, hlr⟩ hb6 hbb6
    rcases hlr with ⟨_, rfl, rfl⟩ | ⟨h, _, _⟩
    rotate_left
    · rw [Gp.lopL_no hv HAC.out] at h; simp at h
    have cD6 := cell_lt cD5 hb6
    have hb46 := hA5.trans (hb6.mono hA5.size)
    have HOC := Lib.hid (hOC4.mono hb46)
    have HDV := Lib.hid (hDL.mono hb46)
    have HE6 := Lib.hid (hEG.mono hbb6)
    have hll : N < 2147483648 := by omega
    have hDN : ((D.length : Int) != (N : Int)) = false := by rw [bne_eq_false_iff_eq]; have := HDL.out; omega
    have hDN2 : ((D.length : Int) == (N : Int)) = true := by rw [beq_iff_eq]; have := HDL.out; omega
    clear hOC hOC4 hDL hA5 hbb5 cD5 hb46 hb3 hb4 hb6 hbb2 hbb3 hbb4 hE hEG
    go_wp2_with (refine wpList_mk _ rfl _ _ 25 rfl w6.heap.size 3 _ 8 undInts infInt eInt 0 rfl rfl _ _ N rfl rfl rfl rfl hll (by omega) (Nat.le_refl _) ?_; intro w7 hown7 hb7 hlt7)
    go_loopw [131] (fun s131 wr => ∃ k : Nat, k ≤ N ∧ s131 = .int .i64 k ∧ Below w6.heap.size w6 wr ∧ w6.heap.size < wr.heap.size ∧ Own w6.heap.size 3 eInt 1 wr (.slice (some ⟨w6.heap.size, 0, none⟩) N N) (List.replicate k (-1) ++ List.replicate (N - k) 0)) (fun i _ => N - (intOf i).toNat)
    case atStart => exact ⟨0, Nat.zero_le _, rfl, hb7, hlt7, by simpa using hown7⟩
    clear hown7 hb7 hlt7
    case round =>
      obtain ⟨k, hk, rfl, hb, hlt, HO⟩ := hrel
      by_cases hkn : k < N
      · have hO2 := HO.seti k (by simp; omega) (-1)
        rw [fill_set N k (-1) 0 hkn] at hO2
        have q3 := HO.inti k (by simp; omega)
        have f3 : wr.frozen? ⟨w6.heap.size, k, none⟩ = false := Own.free HO _
        generalize (List.replicate k (-1) ++ List.replicate (N - k) 0)[k]'_ = z at q3
        have hb2 := hb.setCell (p := ⟨w6.heap.size, k, none⟩) (Nat.le_refl w6.heap.size) (.int .i64 (-1))
        have hl2 : w6.heap.size < (wr.setCell ⟨w6.heap.size, k, none⟩ (.int .i64 (-1))).heap.size := by simp [World.setCell]; exact hlt
        have i3 : decide (k < N) = true := decide_eq_true hkn
        have x8 : IntKind.i64.wrap ((k : Int) + 1) = k + 1 := IntWalk.i64_in _ (by omega)
        clear HO
        go_wp2_with fail
        go_roundw
        case measure => simp [intOf]; omega
        case rel => exact ⟨k + 1, by omega, by go_num, hb2, hl2, hO2⟩
      · obtain rfl : N = k := by omega
        rw [Nat.sub_self, List.replicate_zero, List.append_nil, ← atL_zero N L] at HO
        have i3 : decide (N < N) = false := by simp
        go_wp2_with fail
        go_loopw [140] (fun s140 wr => ∃ i : Nat, i ≤ N ∧ s140 = .int .i64 i ∧ Below w6.heap.size w6 wr ∧ w6.heap.size < wr.heap.size ∧ Own w6.heap.size 3 eInt 1 wr (.slice (some ⟨w6.heap.size, 0, none⟩) N N) (atL N L i)) (fun i _ => N - (intOf i).toNat)
        case atStart => exact ⟨0, Nat.zero_le _, rfl, hb, hlt, HO⟩
        clear HO hb hlt
        case round =>
          obtain ⟨i, hi, rfl, hb, hlt, HO⟩ := hrel
          by_cases hin : i < N
          · have hil : i < L.length := by rw [HLN.out]; exact hin
            obtain ⟨ob, oo, rfl, c1⟩ := (HOC.out.mono hb).nat i hil
            have hvn : L[i] < N := hLlt _ (List.getElem_mem hil)
            have hvl : L[i] < (atL N L i).length := by rw [atL_len]; exact hvn
            have c2 := HO.inti L[i] hvl
            rw [atL_new hLnd hil hvl] at c2
            have f2 : wr.frozen? ⟨w6.heap.size, L[i], none⟩ = false := Own.free HO _
            have hOs := HO.seti L[i] hvl (i : Int)
            rw [atL_set hLnd hil hvn] at hOs
            have hb2 := hb.setCell (p := ⟨w6.heap.size, L[i], none⟩) (Nat.le_refl w6.heap.size) (.int .i64 (i : Int))
            have hl2 : w6.heap.size < (wr.setCell ⟨w6.heap.size, L[i], none⟩ (.int .i64 (i : Int))).heap.size := by simp [World.setCell]; exact hlt
            have i3 : decide (i < N) = true := decide_eq_true hin
            have x8 : IntKind.i64.wrap ((i : Int) + 1) = i + 1 := IntWalk.i64_in _ (by omega)
            generalize L[i] = x at *
            have l1 : decide ((x : Int) < 0) = false := decide_eq_false (by omega)
            have l2 : decide ((N : Int) ≤ x) = false := decide_eq_false (by omega)
            have l3 : decide (N ≤ x) = false := decide_eq_false (by omega)
            clear HO hb hlt
            go_wp2_with fail
            go_roundw
            case measure => simp [intOf]; omega
            case rel => exact ⟨i + 1, by omega, by go_num, hb2, hl2, hOs⟩
          · obtain rfl : N = i := by omega
            have i3 : decide (N < N) = false := by simp
            have HAT := Lib.hid HO
            have cD8 := cell_lt cD6 (hb.mono (Nat.le_refl _))
            have HE8 := Lib.hid (HE6.out.mono hb)
            have HDV8 := Lib.hid (HDV.out.mono hb)
            have hbb8 := hbb6.trans (hb.mono hbb6.size)
            obtain ⟨w8, hw8⟩ : ∃ w8, w8 = wr := ⟨_, rfl⟩
            subst hw8
            clear HO hb hlt
            go_wp2_with fail
            go_loopw [166] (fun s166 wr => ∃ k : Nat, k ≤ G.length ∧ s166 = .int .i64 k ∧ Below w8.heap.size w8 wr) (fun i _ => G.length - (intOf i).toNat)
            case atStart => exact ⟨0, Nat.zero_le _, rfl, Below.refl _ _⟩
            case round =>
              obtain ⟨k, hk, rfl, hb⟩ := hrel
              by_cases hkl : k < G.length
              · obtain ⟨eb, eo, hee, c1, c2⟩ := (show IsC eEd 2 wr xa G from by
                  obtain ⟨a', c', e, _, _, h⟩ := HE8.out.mono hb
                  simp only [Value.slice.injEq] at e
                  obtain ⟨rfl, _, _⟩ := e
                  exact h).ed k hkl
                subst hee
                have he := hv _ (List.getElem_mem hkl)
                have hin : Gp.inE G (G[k]).1 (G[k]).2 = true := Gp.inE_iff.2 (List.getElem_mem hkl)
                obtain ⟨jq, hjq, ejq, hon⟩ := HON.out _ he.2
                obtain ⟨ip, hip, eip⟩ := hon _ hin
                have hpA : (G[k]).1 < (atL N L N).length := by rw [atL_len]; exact he.1
                have hqA : (G[k]).2 < (atL N L N).length := by rw [atL_len]; exact he.2
                have hATx := HAT.out.below hb
                have c3 := hATx.inti _ hpA
                have c4 := hATx.inti _ hqA
                have a3 : (atL N L N)[(G[k]).1] = (ip : Int) := by
                  have h1 := atL_at (n := N) (L := L) hLnd (j := ip) (i := N) (by have := HLN.out; omega) (by have := HLN.out; omega) (by rw [eip]; exact hpA)
                  simp only [eip] at h1
                  exact h1
                have a4 : (atL N L N)[(G[k]).2] = (jq : Int) := by
                  have h1 := atL_at (n := N) (L := L) hLnd (j := jq) (i := N) (by have := HLN.out; omega) (by have := HLN.out; omega) (by rw [ejq]; exact hqA)
                  simp only [ejq] at h1
                  exact h1
                rw [a3] at c3
                rw [a4] at c4
                have hup := HUP.out _ _ he.1 he.2 hin
                have hpD : (G[k]).1 < D.length := by rw [HDL.out]; exact he.1
                have hqD : (G[k]).2 < D.length := by rw [HDL.out]; exact he.2
                rw [getD_at hpD, getD_at hqD] at hup
                obtain ⟨db, dof, hdb, c5⟩ := (show IsC eInt 1 wr da D from by
                  obtain ⟨a', c', e, _, _, h⟩ := HDV8.out.mono hb
                  simp only [Value.slice.injEq] at e
                  obtain ⟨rfl, _, _⟩ := e
                  exact h).int _ hpD
                obtain ⟨db', dof', hdb', c6⟩ := (show IsC eInt 1 wr da D from by
                  obtain ⟨a', c', e, _, _, h⟩ := HDV8.out.mono hb
                  simp only [Value.slice.injEq] at e
                  obtain ⟨rfl, _, _⟩ := e
                  exact h).int _ hqD
                rw [hdb] at hdb'
                simp only [Option.some.injEq, Addr.mk.injEq] at hdb'
                obtain ⟨rfl, rfl, _⟩ := hdb'
                subst hdb
                have c7 := cell_lt cD8 hb
                have u1 : decide ((jq : Int) ≤ ip) = false := decide_eq_false (by omega)
                have u2 : decide (jq ≤ ip) = false := decide_eq_false (by omega)
                have u3 : decide (D[(G[k]).2] ≤ D[(G[k]).1]) = false := decide_eq_false (by omega)
                have x8 : IntKind.i64.wrap ((k : Int) + 1) = k + 1 := IntWalk.i64_in _ (by omega)
                have i4 : decide (k < G.length) = true := decide_eq_true hkl
                generalize D[(G[k]).1] = dp at *
                generalize D[(G[k]).2] = dq at *
                obtain ⟨p, hpe⟩ : ∃ p, p = (G[k]).1 := ⟨_, rfl⟩
                obtain ⟨q, hqe⟩ : ∃ q, q = (G[k]).2 := ⟨_, rfl⟩
                rw [← hpe] at c1 c3 c5 he hpD
                rw [← hqe] at c2 c4 c6 he hqD
                have hA := alloc_below wr (.cells #[.int .i64 (p : Int), .int .i64 (q : Int)] 35)
                have d3 := cell_lt c3 hA
                have d4 := cell_lt c4 hA
                have d5 := cell_lt c5 hA
                have d6 := cell_lt c6 hA
                have d7 := cell_lt c7 hA
                have e0 : (wr.alloc (.cells #[.int .i64 (p : Int), .int .i64 (q : Int)] 35)).cell? ⟨wr.heap.size, 0, none⟩ = some (.int .i64 (p : Int)) := by simp [go_sem]
                have e1 : (wr.alloc (.cells #[.int .i64 (p : Int), .int .i64 (q : Int)] 35)).cell? ⟨wr.heap.size, 1, none⟩ = some (.int .i64 (q : Int)) := by simp [go_sem]
                have hbA := hb.trans (hA.mono hb.size)
                have l1 : (p : Int) < N := by omega
                have l2 : (q : Int) < N := by omega
                have l3 : (p : Int) < D.length := by omega
                have l4 : (q : Int) < D.length := by omega
                clear hpe hqe hin hon ejq eip a3 a4 hup hATx hpA hqA hA hjq hip
                go_wp2_with fail
                go_quiet (fail)
                have hbd := below_drewN hbA nq
                clear c1 c2 c3 c4 c5 c6 d3 d4 d5 d6 d7 e0 e1 hbA
                go_wp2_with fail
                go_roundw
                case measure => simp [intOf]; omega
                case rel => exact ⟨k + 1, by omega, by go_num, hbd⟩
              · obtain rfl : k = G.length := by omega
                have i4 : decide (G.length < G.length) = false := by simp
                have cD9 := cell_lt cD8 hb
                have HE9 := Lib.hid (HE8.out.mono hb)
                have HDV9 := Lib.hid (HDV8.out.mono hb)
                have hbb9 := hbb8.trans (hb.mono hbb8.size)
                obtain ⟨w9, hw9⟩ : ∃ w9, w9 = wr := ⟨_, rfl⟩
                subst hw9
                clear hb
                go_wp2_with fail
                go_loopw [197] (fun s197 wr => ∃ y : Nat, y ≤ D.length ∧ s197 = .int .i64 y ∧ Below w9.heap.size w9 wr) (fun i _ => D.length - (intOf i).toNat)
                case atStart => exact ⟨0, Nat.zero_le _, rfl, Below.refl _ _⟩
                case round =>
                  obtain ⟨y, hy, rfl, hb⟩ := hrel
                  by_cases hyl : y < D.length
                  · have hyN : y < N := by rw [← HDL.out]; exact hyl
                    have i5 : decide (y < D.length) = true := decide_eq_true hyl
                    have x8 : IntKind.i64.wrap ((y : Int) + 1) = y + 1 := IntWalk.i64_in _ (by omega)
                    obtain ⟨db, dof, hdb, c5⟩ := (show IsC eInt 1 wr da D from by
                      obtain ⟨a', c', e, _, _, h⟩ := HDV9.out.mono hb
                      simp only [Value.slice.injEq] at e
                      obtain ⟨rfl, _, _⟩ := e
                      exact h).int _ hyl
                    subst hdb
                    have hsm := HSM.out y
                    have hby := HBY.out y hyN
                    rw [getD_at hyl] at hsm hby
                    have hcon := fun (VB KB : Nat) (W : World) (hW : Below wr.heap.size wr W) (hV : W.cell? ⟨VB, 0, none⟩ = some (.int .i64 (y : Int))) (hK : W.cell? ⟨KB, 0, none⟩ = some (.int .i64 D[y])) => containsE 24 #[.pointer (some ⟨VB, 0, none⟩), .pointer (some ⟨w4.heap.size, 0, none⟩), .pointer (some ⟨KB, 0, none⟩)] (fun _ _ => by kernel_rfl) (fun e => e.2 == (y : Int) && D.getD e.1.toNat 0 == D[y] - 1) (edI G) _ W (isL_edI.2 ((HE9.out.mono hb).mono hW)) (fun X hX x hx => by
                      obtain ⟨e, he, rfl⟩ := List.mem_map.1 hx
                      have hWX := hW.trans (hX.mono hW.size)
                      have := ord1_any e y D[y] D _ dcc VB w4.heap.size KB X ((HDV9.out.mono hb).mono hWX) (by rw [HDL.out]; exact (hv e he).1) (by omega) (cell_lt hV hX) (cell_lt (cell_lt cD9 hb) hWX) (cell_lt hK hX)
                      have hbq : ((e.2 : Int) == (y : Int)) = (e.2 == y) := by
                        by_cases h : e.2 = y
                        · subst h; simp
                        · rw [show (e.2 == y) = false by simpa using h, beq_eq_false_iff_ne]; omega
                      simp only [Int.toNat_natCast, hbq]
                      exact this)
                    have hany : 0 < D[y] → (edI G).any (fun e => e.2 == (y : Int) && D.getD e.1.toNat 0 == D[y] - 1) = true := fun h => by
                      rcases hby with h1 | ⟨x, hx, h1, h2⟩
                      · omega
                      · rw [List.any_eq_true]
                        refine ⟨((x : Int), (y : Int)), List.mem_map.2 ⟨(x, y), Gp.inE_iff.1 h1, rfl⟩, ?_⟩
                        simp only [beq_self_eq_true, Int.toNat_natCast, Bool.true_and]
                        rw [beq_iff_eq]; omega
                    have hA1 := alloc_below wr (.cells #[.int .i64 (y : Int)] 3)
                    have hA2 := alloc_below (wr.alloc (.cells #[.int .i64 (y : Int)] 3)) (.cells #[.int .i64 D[y]] 3)
                    have hA := hA1.trans (hA2.mono hA1.size)
                    have cV : ((wr.alloc (.cells #[.int .i64 (y : Int)] 3)).alloc (.cells #[.int .i64 D[y]] 3)).cell? ⟨wr.heap.size, 0, none⟩ = some (.int .i64 (y : Int)) := by simp [go_sem]
                    have cK : ((wr.alloc (.cells #[.int .i64 (y : Int)] 3)).alloc (.cells #[.int .i64 D[y]] 3)).cell? ⟨wr.heap.size + 1, 0, none⟩ = some (.int .i64 D[y]) := by simp [go_sem]
                    have hbA := hb.trans (hA.mono hb.size)
                    have k0 : decide (D[y] < 0) = false := decide_eq_false (by omega)
                    by_cases hpos : 0 < D[y]
                    · have k1 : decide (0 < D[y]) = true := decide_eq_true hpos
                      have hc2 := hcon _ _ _ hA cV cK
                      rw [hany hpos] at hc2
                      have HC2 := Lib.hid hc2
                      clear hcon hany hc2 hby hsm
                      generalize D[y] = kk at *
                      go_wp2_with fail
                      refine Calls.to HC2.out ?_
                      rintro e w11 rfl hb11
                      have hbd := hbA.trans (hb11.mono hbA.size)
                      clear c5 cV cK hA1 hA2 hA hbA HC2
                      go_wp2_with fail
                      go_roundw
                      case measure => simp [intOf]; omega
                      case rel => exact ⟨y + 1, by omega, by go_num, hbd⟩
                    · have k1 : decide (0 < D[y]) = false := decide_eq_false hpos
                      clear hcon hany hby hsm
                      generalize D[y] = kk at *
                      go_wp2_with fail
                      clear c5 cV cK hA1 hA2 hA
                      go_roundw
                      case measure => simp [intOf]; omega
                      case rel => exact ⟨y + 1, by omega, by go_num, hbA⟩
                  · obtain rfl : y = D.length := by omega
                    have i5 : decide (D.length < D.length) = false := by simp
                    have hbr := hbb9.trans (hb.mono hbb9.size)
                    go_wp2_with fail
                    go_ret
                    exact ⟨rfl, hbr⟩
  · have hle := (Gp.ordL_inv N G).len
    have hlt : (Gp.ordL N G).length < N := by omega
    simp only [hac, false_and, hlt, true_and, false_or] at hor
    obtain ⟨rfl, rfl⟩ := hor
    go_wp2_with fail
    refine Calls.go hbb3 (depths_ok N G _ _ (hEG.mono hbb3) hv hN hG) ?_
    rintro e w4 ⟨du, dcc, rfl, hord⟩ hb4 hbb4
    simp only [hac, false_and, hlt, true_and, false_or] at hord
    obtain ⟨rfl, rfl⟩ := hord
    have hA5 := alloc_below w4 (.cells #[.slice none 0 0] 25)
    have hbb5 := hbb4.trans (hA5.mono hbb4.size)
    go_wp2_with fail
    refine Calls.go hbb5 (loop_ok N G _ _ (hEG.mono hbb5) hv hN hG) ?_
    rintro e w6 ⟨lu, lc, rfl, hlr⟩ hb6 hbb6
    have hne := Gp.lopL_ne hv hlt
    rcases hlr with ⟨h, _, _⟩ | ⟨hp, rfl, hO⟩
    · exact absurd h hne
    have hLI : Gp.LopI N G (Gp.lopL N G) := by
      rcases Gp.lopL_I hv with h | h
      · exact absurd h hne
      · exact h
    obtain ⟨la, lcc, rfl⟩ := hO.isSlice
    have hOL := hO.isL (fun _ => rfl)
    have hOC := hO.isC
    obtain ⟨L, hL⟩ : ∃ L, L = Gp.lopL N G := ⟨_, rfl⟩
    rw [← hL] at hOL hOC hLI ⊢
    have HLI := Lib.hid hLI
    have HOC := Lib.hid hOC
    have HOL := Lib.hid hOL
    have HE6 := Lib.hid (hEG.mono hbb6)
    have t1 : ((L.length : Int) == 0) = false := by rw [beq_eq_false_iff_ne]; have := hLI.pos; omega
    have t2 : (L.length == 0) = false := by rw [beq_eq_false_iff_ne]; have := hLI.pos; omega
    have t3 : decide ((N : Int) < L.length) = false := decide_eq_false (by have := hLI.le; omega)
    have t4 : decide (N < L.length) = false := decide_eq_false (by have := hLI.le; omega)
    have hln : L.length ≤ 300 := by have := hLI.le; omega
    clear hO hOC hOL hL hne hLI hA5 hbb5 hbb4 hbb3 hbb2 hb3 hb4 hb6 hE hEG hlt hle hac hp
    go_wp2_with fail
    clear t1 t2 t3 t4
    go_loopw [85] (fun s85 wx => wx = w6 ∧ ∃ i : Nat, i ≤ L.length ∧ s85 = .int .i64 i) (fun s85 _ => L.length - (intOf s85).toNat)
    case atStart => exact ⟨rfl, 0, Nat.zero_le _, rfl⟩
    case round =>
      obtain ⟨rfl, i, hi, rfl⟩ := hrel
      by_cases hil : i < L.length
      · have i1 : decide (i < L.length) = true := decide_eq_true hil
        have x8 : IntKind.i64.wrap ((i : Int) + 1) = i + 1 := IntWalk.i64_in _ (by omega)
        have h0l : 0 < L.length := by omega
        obtain ⟨m, hm⟩ : ∃ m, m = (i + 1) % L.length := ⟨_, rfl⟩
        have hml : m < L.length := by rw [hm]; exact Nat.mod_lt _ h0l
        obtain ⟨lb, lo, rfl, c0⟩ := HOC.out.nat 0 h0l
        obtain ⟨lb', lo', hle, c1⟩ := HOC.out.nat i hil
        simp only [Option.some.injEq, Addr.mk.injEq] at hle
        obtain ⟨rfl, rfl, _⟩ := hle
        obtain ⟨lb', lo', hle, c2⟩ := HOC.out.nat m hml
        simp only [Option.some.injEq, Addr.mk.injEq] at hle
        obtain ⟨rfl, rfl, _⟩ := hle
        rw [Nat.add_zero] at c0
        have hge := HLI.out.ge i hil
        have hnx := HLI.out.nxt i hil
        rw [getD_at h0l, getD_at hil] at hge
        rw [← hm, getD_at hil, getD_at hml] at hnx
        have hix := indexN_any L L[i] _ wr HOL.out (by omega)
        have hidx : idxFrom (fun y => L[i] == y) L 0 = (i : Int) := by
          have := idxFrom_at (fun y => L[i] == y) L 0 i hil (by simp) (fun j hj hjl => by
            have : L[i] ≠ L[j] := fun e => by
              have := HLI.out.inj i j hil hjl (by rw [getD_at hil, getD_at hjl]; exact e)
              omega
            simpa using this)
          rw [this]; simp
        rw [hidx] at hix
        have hjc := joined_any G L[i] L[m] _ wr HE6.out (by omega)
        rw [hnx] at hjc
        have u1 : decide ((L[i] : Int) < L[0]) = false := decide_eq_false (by omega)
        have u2 : decide (L[i] < L[0]) = false := decide_eq_false (by omega)
        have hmod : ((i : Int) + 1).tmod (L.length : Int) = (m : Int) := by
          rw [hm]; rfl
        have HMOD := hmod
        have y1 : (m : Int) < L.length := by omega
        have y2 : (0 : Int) ≤ m := by omega
        have y3 : ¬ ((L.length : Int) = 0) := by omega
        have HIX := Lib.hid hix
        have HJC := Lib.hid hjc
        clear hix hjc hidx hnx hge hm
        generalize L[i] = x at *
        generalize L[m] = z at *
        generalize L[0] = x0 at *
        go_wp2_with fail
        refine HJC.out.mono ?_
        rintro e w9 ⟨rfl, rfl⟩
        go_wp2_with fail
        refine HIX.out.mono ?_
        rintro e w9 ⟨rfl, rfl⟩
        go_wp2_with fail
        go_roundw
        case measure => simp [intOf]; omega
        case rel => exact ⟨trivial, i + 1, by omega, by go_num⟩
      · obtain rfl : i = L.length := by omega
        have i1 : decide (L.length < L.length) = false := by simp
        go_wp2_with fail
        go_ret
        exact ⟨rfl, hbb6⟩

/-! ### The row -/
set_option maxRecDepth 100000 in
theorem lifted (os : Os) (started : os.Started) (H : Type) (enc : TypeId × Value → H) :
    ReturnsInHanded {} Try.checked os 4 .any (Rows.digraphOrderlySpec.pre6 enc Try.prog Try.f4 Rows.digraphOrderlyRow.domain false) (Rows.digraphOrderlySpec.post enc Try.prog Try.f4 false true false false) := by
  refine returnsInHanded_of_change (C := Try.checked) own started (by kernel_rfl) Try.func4
    (ChangeSpec.witness6 (enc := enc) (C := Try.checked) false ⟨#[], #[.int .i64 0, .slice none 0 0], []⟩ 8 (by kernel_rfl) (by kernel_rfl) (by kernel_rfl) (by kernel_rfl)) ?_
  intro W base args ds gs before hval0 hW hcnd _
  have hval : ∀ (j : Nat) t v, Try.f4.params[j]? = some t → args[j]? = some v → Value.okWide Try.prog W .any base t v := hval0
  have hW' := hW
  obtain ⟨p, q, hA0, hV, rfl, hfz, hnd⟩ := hW
  have hA : DataW.TrodAll enc Try.prog W 0 (fun _ => true) true Try.f4.params.toList args.toList ds p := hA0
  rw [Try.params4] at hA hval
  obtain ⟨v0, vs0, d0, ds0, p0, q0, hargs, rfl, rfl, h0, r0⟩ := trodAll_cons hA
  obtain ⟨v1, vs1, d1, ds1, p1, q1, rfl, rfl, rfl, h1, r1⟩ := trodAll_cons r0
  obtain ⟨rfl, rfl, rfl⟩ := trodAll_nil r1
  obtain rfl : args = #[v0, v1] := by cases args; simp_all
  obtain ⟨rfl, rfl⟩ := trodVars_none hV
  obtain ⟨a0, rfl, rfl, rfl, w0⟩ := open_int Try.underlying3 (hval 0 3 v0 rfl rfl) h0
  have k1 := h1
  have lt1 : ∀ x ∈ p1, x.block < W.heap.size := by obtain ⟨m, hm⟩ := k1; exact DataW.trod_lt m _ _ _ hm
  obtain ⟨x1, w1⟩ := openEds (hval 1 22 v1 rfl rfl) h1
  clear hA0 hval0
  refine (walk a0 v1 x1 W w0 w1).mono fun e W' ⟨he, bel⟩ => ?_
  subst he
  exact ⟨_, rfl, _, _, _, [], _, [], hW', trodAll_mk1 (shut_bool Try.underlying4 _), (trodAll_cons_mk (shut_int Try.underlying3 w0) (trodAll_cons_mk (Below.trod laidOut (by kernel_rfl) (of_decide_eq_true (by kernel_rfl)) k1 bel lt1) trodAll_mk0)), rfl, bel.frame _, fun h => by cases h⟩

theorem over : Rows.digraphOrderlyRow.holds Try.pinned (OpenSpec.ofChange Rows.digraphOrderlySpec) :=
  OpenClaim.holds_of_wide 4 Try.f4 rfl rfl rfl rfl rfl rfl rfl ⟨rfl, rfl, rfl, rfl, rfl⟩ rfl rfl rfl rfl rfl (by kernel_rfl) Try.func4 (by kernel_rfl)
    (of_decide_eq_true (by kernel_rfl)) (by unfold Func.isWrapper; first | (rw [if_pos (by decide +kernel)]; kernel_rfl) | (rw [if_neg (by decide +kernel)]; exact ⟨rfl, rfl⟩))
    (fun os started H enc _ => lifted os started H enc)

end Go.Proofs.Ythnhlaljnkdmfaa.digraphOrderly
namespace Go.Proofs.Ythnhlaljnkdmfaa
/-- The statement. -/
theorem digraphOrderly_holds : Rows.DigraphOrderlySaid := digraphOrderly.over
#print axioms digraphOrderly_holds
end Go.Proofs.Ythnhlaljnkdmfaa
