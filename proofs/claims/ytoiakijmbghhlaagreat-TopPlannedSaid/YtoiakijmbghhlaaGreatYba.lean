/- catalogue: a section is right. Conditions: the section reads as data. -/
import Derived.Test.YtoiakijmbghhlaaGreatYca
namespace Go.Proofs.YtoiakijmbghhlaaGreat
open Go.RowKit
set_option linter.unusedVariables false
set_option linter.unusedSimpArgs false

structure SecD where
  N : ByteArray
  Ht : Int
  Pr : Int
  A : Sl Kn
  B : Sl Kn
abbrev eSec (s : SecD) : List Value := [.string s.N, .int .i64 s.Ht, .int .i64 s.Pr, vSl s.A, vSl s.B]
abbrev vSec (s : SecD) : Value := .agg #[.string s.N, .int .i64 s.Ht, .int .i64 s.Pr, vSl s.A, vSl s.B]
structure IsSec (w : World) (s : SecD) : Prop where
  n : s.N.size ≤ maxLen
  a : IsKns w (vSl s.A) s.A.xs
  b : IsKns w (vSl s.B) s.B.xs
theorem IsSec.mono {w w' : World} {s : SecD} (h : IsSec w s) (hb : Below w.heap.size w w') : IsSec w' s := ⟨h.n, h.a.mono hb, h.b.mono hb⟩
def curvB (xs : List Kn) (H lim : Int) : Bool :=
  tabB xs && (((xs.getD 0 default).X == 0 && (xs.getD 0 default).Y == 0) && ((xs.getD (xs.length - 1) default).X == H && decide ((xs.getD (xs.length - 1) default).Y ≤ lim)))
set_option maxRecDepth 100000 in
set_option maxHeartbeats 8000000 in
theorem curve_any (xs : List Kn) (v : Value) (H lim : Int) (w : World) (hv : IsKns w v xs) :
    Calls Tryz.prog 184 #[v, .int .i64 H, .int .i64 lim] w fun e w' => e = .returned (.bool (curvB xs H lim)) ∧ Below w.heap.size w w' := by
  have ht := tvalid_any xs v w hv
  have HV := Lib.hid hv
  obtain ⟨a, cap, rfl, -, -, hC⟩ := hv
  obtain ⟨res, hres⟩ : ∃ res, res = curvB xs H lim := ⟨_, rfl⟩
  rw [← hres]
  have HR := Lib.hid hres
  clear hres
  cases hT : tabB xs
  · have HF : Hid (res = false) := Lib.hid (by rw [HR.out, curvB, hT]; rfl)
    rw [hT] at ht
    go_enter Tryz.func184, Tryz.ntmps184
    go_wp2_with fail
    refine Calls.to ht ?_
    rintro e w1 rfl hb1
    go_wp2_with fail
    go_ret
    exact ⟨ret_bool HF.out.symm, hb1⟩
  rw [hT] at ht
  have hl := tabB_len hT
  have HC := Lib.hid hC
  obtain ⟨n, hn⟩ : ∃ n, n = xs.length := ⟨_, rfl⟩
  have HN := Lib.hid hn
  have HT := Lib.hid hT
  rw [← hn] at ht hl ⊢
  clear hn hC hT
  go_enter Tryz.func184, Tryz.ntmps184
  go_wp2_with fail
  refine Calls.to ht ?_
  rintro e w1 rfl hb1
  have hC := HC.out.mono hb1
  have h0 : 0 < xs.length := by rw [← HN.out]; omega
  obtain ⟨l, hl1⟩ : ∃ l, l = n - 1 := ⟨_, rfl⟩
  have hll : l < xs.length := by rw [← HN.out]; omega
  obtain ⟨b, off, rfl, d0, d1⟩ := hC.kn 0 h0
  obtain ⟨_, _, he, d2, d3⟩ := hC.kn l hll
  simp only [Option.some.injEq, Addr.mk.injEq] at he
  obtain ⟨rfl, rfl, -⟩ := he
  have g0 : xs.getD 0 default = xs[0] := by simp [List.getD, List.getElem?_eq_getElem h0]
  have g1 : xs.getD (xs.length - 1) default = xs[l] := by rw [← HN.out, ← hl1]; simp [List.getD, List.getElem?_eq_getElem hll]
  obtain ⟨f, hf⟩ : ∃ f, f = xs[0] := ⟨_, rfl⟩
  obtain ⟨z, hz⟩ : ∃ z, z = xs[l] := ⟨_, rfl⟩
  rw [← hf] at d0 d1 g0
  rw [← hz] at d2 d3 g1
  have hres := HR.out
  unfold curvB at hres
  rw [HT.out, g0, g1, Bool.true_and] at hres
  have x1 : IntKind.i64.wrap ((n : Int) - 1) = l := by rw [IntWalk.i64_in _ (by omega)]; omega
  have i1 : (0 : Int) ≤ l := by omega
  have i2 : (l : Int) < n := by omega
  have i3 : (0 : Int) < n := by omega
  rw [Nat.zero_mul, Nat.add_zero] at d0 d1
  obtain ⟨fX, fY⟩ := f
  obtain ⟨zX, zY⟩ := z
  simp only at d0 d1 d2 d3 hres
  obtain ⟨b1, e1⟩ : ∃ b, (fX == 0) = b := ⟨_, rfl⟩
  obtain ⟨b2, e2⟩ : ∃ b, (fY == 0) = b := ⟨_, rfl⟩
  obtain ⟨b3, e3⟩ : ∃ b, (zX == H) = b := ⟨_, rfl⟩
  obtain ⟨b4, e4⟩ : ∃ b, decide (zY ≤ lim) = b := ⟨_, rfl⟩
  rw [e1, e2, e3, e4] at hres
  have HRES := Lib.hid hres
  clear hres hf hz g0 g1 hl1 hll h0 hC HR HC HV
  cases b1 <;> cases b2 <;> cases b3
  all_goals go_wp2_with fail
  all_goals go_ret
  all_goals exact ⟨ret_bool (by rw [HRES.out]; rfl), hb1.alloc hb1.size _⟩

def secB (s : SecD) : Bool :=
  nameB s.N && (decide (1 ≤ s.Ht) && (decide (s.Ht ≤ 32768) && (decide ((0 : Int) ≤ s.Pr) && (decide (s.Pr ≤ 1073741824) && (curvB s.A.xs s.Ht 1073741824 && curvB s.B.xs s.Ht 1099511627776)))))
theorem boxSec (w W : World) (T : TypeId) (s : SecD) (cs : Array Value) (hcs : cs = (eSec s).toArray) (B : Nat) (hB : B = w.heap.size + 1) (hb : Below B (w.alloc (.cells cs T)) W) :
    W.cell? ⟨w.heap.size, 0, none⟩ = some (.string s.N) ∧ W.cell? ⟨w.heap.size, 1, none⟩ = some (.int .i64 s.Ht) ∧ W.cell? ⟨w.heap.size, 2, none⟩ = some (.int .i64 s.Pr) ∧
    W.cell? ⟨w.heap.size, 3, none⟩ = some (.slice s.A.a s.A.xs.length s.A.cap) ∧ W.cell? ⟨w.heap.size, 4, none⟩ = some (.slice s.B.a s.B.xs.length s.B.cap) := by
  subst hB; subst hcs
  exact ⟨(hb.cell (p := ⟨w.heap.size, 0, none⟩) (by simp)).trans (by simp [go_sem]), (hb.cell (p := ⟨w.heap.size, 1, none⟩) (by simp)).trans (by simp [go_sem]), (hb.cell (p := ⟨w.heap.size, 2, none⟩) (by simp)).trans (by simp [go_sem]),
    (hb.cell (p := ⟨w.heap.size, 3, none⟩) (by simp)).trans (by simp [go_sem]), (hb.cell (p := ⟨w.heap.size, 4, none⟩) (by simp)).trans (by simp [go_sem])⟩
set_option maxRecDepth 100000 in
set_option maxHeartbeats 16000000 in
theorem secvalid_any (s : SecD) (w : World) (hs : IsSec w s) : Calls Tryz.prog 120 #[vSec s] w fun e w' => e = .returned (.bool (secB s)) ∧ Below w.heap.size w w' := by
  have hb0 : Below w.heap.size w (w.alloc (.cells (eSec s).toArray 102)) := (Below.refl _ _).alloc (Nat.le_refl _) _
  obtain ⟨W, hW⟩ : ∃ W, W = w.alloc (.cells (eSec s).toArray 102) := ⟨_, rfl⟩
  obtain ⟨c0, c1, c2, c3, c4⟩ := boxSec w (w.alloc (.cells (eSec s).toArray 102)) 102 s _ rfl _ rfl (Below.refl _ _)
  obtain ⟨res, hres⟩ : ∃ res, res = secB s := ⟨_, rfl⟩
  rw [← hres]
  unfold secB at hres
  have hn := isName_any s.N W hs.n
  have HW := Lib.hid hW
  rw [← hW] at hb0 c0 c1 c2 c3 c4
  have HS := Lib.hid (hs.mono hb0)
  obtain ⟨N, Ht, Pr, ⟨aa, ac, al⟩, ⟨ba, bc, bl⟩⟩ := s
  simp only at c0 c1 c2 c3 c4 hn hres
  obtain ⟨b0, e0⟩ : ∃ b, nameB N = b := ⟨_, rfl⟩
  obtain ⟨b1, e1⟩ : ∃ b, decide (1 ≤ Ht) = b := ⟨_, rfl⟩
  obtain ⟨b2, e2⟩ : ∃ b, decide (Ht ≤ 32768) = b := ⟨_, rfl⟩
  obtain ⟨b3, e3⟩ : ∃ b, decide ((0 : Int) ≤ Pr) = b := ⟨_, rfl⟩
  obtain ⟨b4, e4⟩ : ∃ b, decide (Pr ≤ 1073741824) = b := ⟨_, rfl⟩
  obtain ⟨b5, e5⟩ : ∃ b, curvB al Ht 1073741824 = b := ⟨_, rfl⟩
  obtain ⟨b6, e6⟩ : ∃ b, curvB bl Ht 1099511627776 = b := ⟨_, rfl⟩
  rw [e0, e1, e2, e3, e4, e5, e6] at hres
  rw [e0] at hn
  have HRES := Lib.hid hres
  have h5 := fun W' (hb : Below W.heap.size W W') => curve_any al (.slice aa al.length ac) Ht 1073741824 W' (HS.out.mono hb).a
  have h6 := fun W' (hb : Below W.heap.size W W') => curve_any bl (.slice ba bl.length bc) Ht 1099511627776 W' (HS.out.mono hb).b
  simp only [e5] at h5
  simp only [e6] at h6
  have H5 := Lib.hid h5
  have H6 := Lib.hid h6
  clear hres hs hW h5 h6 e5 e6 e0
  go_enter Tryz.func120, Tryz.ntmps120
  go_upto_region 1 with (fail)
  simp only [vSl]
  rw [← HW.out]
  clear HW
  go_wp2_with fail
  refine hn.mono ?_
  rintro e w' ⟨rfl, rfl⟩
  clear hn
  cases b0
  · go_wp2_with fail
    go_ret
    exact ⟨ret_bool (by rw [HRES.out]; rfl), hb0⟩
  cases b1
  · go_wp2_with fail
    go_ret
    exact ⟨ret_bool (by rw [HRES.out]; rfl), hb0⟩
  cases b2
  · go_wp2_with fail
    go_ret
    exact ⟨ret_bool (by rw [HRES.out]; rfl), hb0⟩
  cases b3
  · go_wp2_with fail
    go_ret
    exact ⟨ret_bool (by rw [HRES.out]; rfl), hb0⟩
  cases b4
  · go_wp2_with fail
    go_ret
    exact ⟨ret_bool (by rw [HRES.out]; rfl), hb0⟩
  go_wp2_with fail
  refine Calls.to (H5.out w' (Below.refl _ _)) ?_
  rintro e w2 rfl hb2
  have hb3 := hb0.trans (hb2.mono hb0.size)
  have c0 := cel_lt c0 hb2
  have c1 := cel_lt c1 hb2
  have c2 := cel_lt c2 hb2
  have c3 := cel_lt c3 hb2
  have c4 := cel_lt c4 hb2
  cases b5
  · go_wp2_with fail
    go_ret
    exact ⟨ret_bool (by rw [HRES.out]; rfl), hb3⟩
  go_wp2_with fail
  refine Calls.to (H6.out w2 hb2) ?_
  rintro e w3 rfl hb4
  have hb5 := hb3.trans (hb4.mono hb3.size)
  go_wp2_with fail
  go_ret
  exact ⟨ret_bool (by rw [HRES.out]; rfl), hb5⟩

end Go.Proofs.YtoiakijmbghhlaaGreat
