/- sizing at one pipe: Valid. Conditions: the pipe lies in memory. | sizing at one pipe: least, cost, values, bound, where the tree of the job lies in memory. Conditions: the tree of one pipe lies in memory. | sizing at one pipe: values, bound, where the tree of the job lies in memory. Conditions: the tree of one pipe lies in memory. -/
import Derived.Test.YtoiakijmbghhlaaGreatMBa
import Derived.Test.YtoiakijmbghhlaaGreatMSa
import Derived.Test.YtoiakijmbghhlaaGreatOrw
import Derived.Test.YtoiakijmbghhlaaGreatYpe
namespace Go.Proofs.YtoiakijmbghhlaaGreat
open Go.RowKit
set_option linter.unusedVariables false
set_option linter.unusedSimpArgs false

/-- One pipe: where it goes, its length, flow, fall, cover, and the one section on offer. -/
structure Pip (w : World) (a0 a1 a2 a3 a4 a5 : Nat) (s : SecD) : Prop where
  c0 : w.cell? ⟨a0, 0, none⟩ = some (.int .i64 (-1))
  c1 : w.cell? ⟨a1, 0, none⟩ = some (.int .i64 7)
  c2 : w.cell? ⟨a2, 0, none⟩ = some (.int .i64 0)
  c3 : w.cell? ⟨a3, 0, none⟩ = some (.int .i64 0)
  c4 : w.cell? ⟨a4, 0, none⟩ = some (.int .i64 100)
  d0 : w.cell? ⟨a5, 0, none⟩ = some (.string s.N)
  d1 : w.cell? ⟨a5, 1, none⟩ = some (.int .i64 s.Ht)
  d2 : w.cell? ⟨a5, 2, none⟩ = some (.int .i64 s.Pr)
  d3 : w.cell? ⟨a5, 3, none⟩ = some (.slice s.A.a s.A.xs.length s.A.cap)
  d4 : w.cell? ⟨a5, 4, none⟩ = some (.slice s.B.a s.B.xs.length s.B.cap)
  sec : IsSec w s
theorem Pip.mono {w w' : World} {a0 a1 a2 a3 a4 a5 : Nat} {s : SecD} (h : Pip w a0 a1 a2 a3 a4 a5 s) (hb : Below w.heap.size w w') : Pip w' a0 a1 a2 a3 a4 a5 s :=
  ⟨cel_lt h.c0 hb, cel_lt h.c1 hb, cel_lt h.c2 hb, cel_lt h.c3 hb, cel_lt h.c4 hb, cel_lt h.d0 hb, cel_lt h.d1 hb, cel_lt h.d2 hb, cel_lt h.d3 hb, cel_lt h.d4 hb, h.sec.mono hb⟩
abbrev one (a : Nat) : Value := .slice (some ⟨a, 0, none⟩) 1 1
abbrev vPip (a0 a1 a2 a3 a4 a5 : Nat) : Value := .agg #[one a0, one a1, one a2, one a3, one a4, one a5]
theorem Pip.secs {w : World} {a0 a1 a2 a3 a4 a5 : Nat} {s : SecD} (h : Pip w a0 a1 a2 a3 a4 a5 s) : IsSecs w (one a5) [s] := by
  refine ⟨⟨some ⟨a5, 0, none⟩, 1, rfl, by simp, by decide, fun i hi => ?_⟩, fun t ht => by rw [List.mem_singleton] at ht; subst ht; exact h.sec⟩
  have hi0 : i = 0 := by simpa using hi
  subst hi0
  refine ⟨a5, 0, rfl, fun j hj => ?_⟩
  obtain ⟨_, _, _, _, _, d0, d1, d2, d3, d4, _⟩ := h
  match j, hj with
  | 0, _ => simpa using d0
  | 1, _ => simpa using d1
  | 2, _ => simpa using d2
  | 3, _ => simpa using d3
  | 4, _ => simpa using d4

set_option maxHeartbeats 1000000 in
theorem szwithin_any (a b c : Int) (w : World) (h : b ≤ a ∧ a ≤ c) : Calls Tryz.prog 178 #[.int .i64 a, .int .i64 b, .int .i64 c] w fun e w' => e = .returned (.bool true) ∧ w' = w := by
  have i1 : decide (b ≤ a) = true := decide_eq_true h.1
  have i2 : decide (a ≤ c) = true := decide_eq_true h.2
  clear h
  go_enter Tryz.func178, Tryz.ntmps178
  go_wp2_with fail
  go_ret
  exact ⟨rfl, rfl⟩

theorem boxPip (w W : World) (T : TypeId) (a0 a1 a2 a3 a4 a5 : Nat) (B : Nat) (hB : B = w.heap.size + 1) (hb : Below B (w.alloc (.cells #[one a0, one a1, one a2, one a3, one a4, one a5] T)) W) :
    W.cell? ⟨w.heap.size, 0, none⟩ = some (one a0) ∧ W.cell? ⟨w.heap.size, 1, none⟩ = some (one a1) ∧ W.cell? ⟨w.heap.size, 2, none⟩ = some (one a2) ∧
    W.cell? ⟨w.heap.size, 3, none⟩ = some (one a3) ∧ W.cell? ⟨w.heap.size, 4, none⟩ = some (one a4) ∧ W.cell? ⟨w.heap.size, 5, none⟩ = some (one a5) := by
  subst hB
  exact ⟨(hb.cell (p := ⟨w.heap.size, 0, none⟩) (by simp)).trans (by simp [go_sem]), (hb.cell (p := ⟨w.heap.size, 1, none⟩) (by simp)).trans (by simp [go_sem]), (hb.cell (p := ⟨w.heap.size, 2, none⟩) (by simp)).trans (by simp [go_sem]),
    (hb.cell (p := ⟨w.heap.size, 3, none⟩) (by simp)).trans (by simp [go_sem]), (hb.cell (p := ⟨w.heap.size, 4, none⟩) (by simp)).trans (by simp [go_sem]), (hb.cell (p := ⟨w.heap.size, 5, none⟩) (by simp)).trans (by simp [go_sem])⟩

set_option maxRecDepth 100000 in
set_option maxHeartbeats 8000000 in
theorem szvalid_one {a0 a1 a2 a3 a4 a5 : Nat} {s : SecD} (w : World) (h : Pip w a0 a1 a2 a3 a4 a5 s) (hs : catB [s] = true) :
    Calls Tryz.prog 107 #[vPip a0 a1 a2 a3 a4 a5] w fun e w' => e = .returned (.bool true) ∧ Below w.heap.size w w' := by
  have hb0 : Below w.heap.size w (w.alloc (.cells #[one a0, one a1, one a2, one a3, one a4, one a5] 105)) := (Below.refl _ _).alloc (Nat.le_refl _) _
  obtain ⟨b0, b1, b2, b3, b4, b5⟩ := boxPip w (w.alloc (.cells #[one a0, one a1, one a2, one a3, one a4, one a5] 105)) 105 a0 a1 a2 a3 a4 a5 _ rfl (Below.refl _ _)
  obtain ⟨W, hW⟩ : ∃ W, W = w.alloc (.cells #[one a0, one a1, one a2, one a3, one a4, one a5] 105) := ⟨_, rfl⟩
  have HW := Lib.hid hW
  rw [← hW] at hb0 b0 b1 b2 b3 b4 b5
  have HP := Lib.hid (h.mono hb0)
  have hcv := catvalid_any [s] _ W HP.out.secs
  rw [hs] at hcv
  clear hW h hs
  go_enter Tryz.func107, Tryz.ntmps107
  go_upto_region 1 with (fail)
  rw [← HW.out]
  clear HW
  go_wp2_with fail
  refine Calls.to hcv ?_
  rintro e w1 rfl hb1
  have hbw := hb0.trans (hb1.mono hb0.size)
  have b0 := cel_lt b0 hb1
  have b1 := cel_lt b1 hb1
  have b2 := cel_lt b2 hb1
  have b3 := cel_lt b3 hb1
  have b4 := cel_lt b4 hb1
  have b5 := cel_lt b5 hb1
  obtain ⟨c0, c1, c2, c3, c4, -, -, -, -, -, -⟩ := HP.out.mono hb1
  clear hb1 hb0 hcv
  go_wp2_with fail
  refine wp_loop_rounds 2 ?_
  rw [rounds_succ]
  go_wp2_with fail
  iterate 4
    refine (szwithin_any _ _ _ _ (by omega)).mono ?_
    rintro e w' ⟨rfl, rfl⟩
    go_wp2_with fail
  rw [rounds_succ]
  go_wp2_with fail
  go_ret
  exact ⟨rfl, hbw⟩

end Go.Proofs.YtoiakijmbghhlaaGreat

namespace Go.Proofs.YtoiakijmbghhlaaGreat
open Go.RowKit
set_option linter.unusedVariables false
set_option linter.unusedSimpArgs false

/-- The tree of one pipe in block g. -/
structure OneT (w : World) (g a0 a1 a2 a3 a4 a5 : Nat) (s : SecD) : Prop where
  j0 : w.cell? ⟨g, 0, none⟩ = some (one a0)
  j1 : w.cell? ⟨g, 1, none⟩ = some (one a1)
  j2 : w.cell? ⟨g, 2, none⟩ = some (one a2)
  j3 : w.cell? ⟨g, 3, none⟩ = some (one a3)
  j4 : w.cell? ⟨g, 4, none⟩ = some (one a4)
  j5 : w.cell? ⟨g, 5, none⟩ = some (one a5)
  p6 : ∃ p r c, w.cell? ⟨g, 6, none⟩ = some (one p) ∧ w.cell? ⟨p, 0, none⟩ = some (.slice (some ⟨r, 0, none⟩) 1 c) ∧ w.cell? ⟨r, 0, none⟩ = some (.bool true)
  p7 : ∃ q, w.cell? ⟨g, 7, none⟩ = some (one q) ∧ w.cell? ⟨q, 0, none⟩ = some (.slice none 0 0)
  pip : Pip w a0 a1 a2 a3 a4 a5 s
theorem OneT.mono {w w' : World} {g a0 a1 a2 a3 a4 a5 : Nat} {s : SecD} (h : OneT w g a0 a1 a2 a3 a4 a5 s) (hb : Below w.heap.size w w') : OneT w' g a0 a1 a2 a3 a4 a5 s := by
  obtain ⟨p, r, c, h1, h2, h3⟩ := h.p6
  obtain ⟨q, h4, h5⟩ := h.p7
  exact ⟨cel_lt h.j0 hb, cel_lt h.j1 hb, cel_lt h.j2 hb, cel_lt h.j3 hb, cel_lt h.j4 hb, cel_lt h.j5 hb, ⟨p, r, c, cel_lt h1 hb, cel_lt h2 hb, cel_lt h3 hb⟩, ⟨q, cel_lt h4 hb, cel_lt h5 hb⟩, h.pip.mono hb⟩

set_option maxRecDepth 100000 in
set_option maxHeartbeats 8000000 in
theorem szleast_one {g a0 a1 a2 a3 a4 a5 : Nat} {s : SecD} (b c : Nat) (H : Int) (w : World) (h : OneT w g a0 a1 a2 a3 a4 a5 s) (hv : w.cell? ⟨b, 0, none⟩ = some (.int .i64 21)) (hH : s.Ht ≤ H) :
    Calls Tryz.prog 111 #[.pointer (some ⟨g, 0, none⟩), .slice (some ⟨b, 0, none⟩) 1 c, .int .i64 0, .int .i64 H] w fun e w' => e = .returned (.tuple #[.int .i64 21, .int .i64 0]) ∧ w' = w := by
  obtain ⟨j0, j1, j2, j3, j4, j5, ⟨p, r, c', h1, h2, h3⟩, ⟨q, h4, h5⟩, hp⟩ := h
  obtain ⟨c0, c1, c2, c3, c4, d0, d1, d2, d3, d4, -⟩ := hp
  have i1 : decide (s.Ht ≤ H) = true := decide_eq_true hH
  clear hH
  go_enter Tryz.func111, Tryz.ntmps111
  go_wp2_with fail
  refine wp_loop_rounds 2 ?_
  rw [rounds_succ]
  go_wp2_with fail
  rw [rounds_succ]
  go_wp2_with fail
  go_ret2
  exact ⟨rfl, rfl⟩

set_option maxRecDepth 100000 in
set_option maxHeartbeats 8000000 in
theorem szcost_one {g a0 a1 a2 a3 a4 a5 : Nat} {s : SecD} (u : Value) (w : World) (h : OneT w g a0 a1 a2 a3 a4 a5 s) (hP : s.Pr = 3) :
    Calls Tryz.prog 180 #[.pointer (some ⟨g, 0, none⟩), u, .int .i64 0, .int .i64 0] w fun e w' => e = .returned (.int .i64 21) ∧ Below w.heap.size w w' := by
  obtain ⟨j0, j1, j2, j3, j4, j5, ⟨p, r, c', h1, h2, h3⟩, ⟨q, h4, h5⟩, hp⟩ := h
  obtain ⟨c0, c1, c2, c3, c4, d0, d1, d2, d3, d4, -⟩ := hp
  rw [hP] at d2
  clear hP
  go_enter Tryz.func180, Tryz.ntmps180
  go_wp2_with fail
  go_quiet (fail)
  have hbW : Below w.heap.size w (w.drewN nq) := below_drewN (Below.refl _ _) nq
  have h4 := cel_lt h4 hbW
  have h5 := cel_lt h5 hbW
  clear j0 j1 j2 j3 j4 j5 h1 h2 h3 c0 c1 c2 c3 c4 d0 d1 d2 d3 d4
  go_wp2_with fail
  refine wp_loop_rounds 1 ?_
  rw [rounds_succ]
  go_wp2_with fail
  go_ret
  exact ⟨rfl, hbW⟩

end Go.Proofs.YtoiakijmbghhlaaGreat

namespace Go.Proofs.YtoiakijmbghhlaaGreat
open Go.RowKit
set_option linter.unusedVariables false
set_option linter.unusedSimpArgs false

set_option maxRecDepth 100000 in
set_option maxHeartbeats 8000000 in
theorem szbound_one {g a0 a1 a2 a3 a4 a5 : Nat} {s : SecD} (o b c : Nat) (w : World) (h : OneT w g a0 a1 a2 a3 a4 a5 s) (ho : w.cell? ⟨o, 0, none⟩ = some (.slice (some ⟨b, 0, none⟩) 1 c)) (hv : w.cell? ⟨b, 0, none⟩ = some (.int .i64 21)) (hH : s.Ht ≤ 4194304) :
    Calls Tryz.prog 110 #[.pointer (some ⟨g, 0, none⟩), one o] w fun e w' => e = .returned (.int .i64 21) ∧ w' = w := by
  have hl := szleast_one b c 4194304 w h hv hH
  obtain ⟨j0, j1, j2, j3, j4, j5, ⟨p, r, c', h1, h2, h3⟩, ⟨q, h4, h5⟩, hp⟩ := h
  obtain ⟨c0, c1, c2, c3, c4, d0, d1, d2, d3, d4, -⟩ := hp
  clear hH
  go_enter Tryz.func110, Tryz.ntmps110
  go_wp2_with fail
  refine wp_loop_rounds 2 ?_
  rw [rounds_succ]
  go_wp2_with fail
  refine hl.mono ?_
  rintro e w' ⟨rfl, rfl⟩
  go_wp2_with fail
  rw [rounds_succ]
  go_wp2_with fail
  go_ret
  exact ⟨rfl, rfl⟩

set_option maxRecDepth 100000 in
set_option maxHeartbeats 8000000 in
theorem szvalues_one {g a0 a1 a2 a3 a4 a5 : Nat} {s : SecD} (w : World) (h : OneT w g a0 a1 a2 a3 a4 a5 s) (hP : s.Pr = 3) :
    Calls Tryz.prog 109 #[.pointer (some ⟨g, 0, none⟩)] w fun e w' => (∃ o b c, e = .returned (one o) ∧ w'.cell? ⟨o, 0, none⟩ = some (.slice (some ⟨b, 0, none⟩) 1 c) ∧ w'.cell? ⟨b, 0, none⟩ = some (.int .i64 21)) ∧ Below w.heap.size w w' := by
  have HT := Lib.hid h
  have j0 := h.j0
  clear h
  go_enter Tryz.func109, Tryz.ntmps109
  go_wp2_with (refine wpList_mk _ rfl _ _ 70 rfl w.heap.size 28 _ 24 undRws infRw eV (.slice none 0 0) rfl rfl _ _ 1 rfl rfl rfl rfl (by decide) (by omega) (Nat.le_refl _) ?_; intro w1 hown1 hb1 hlt1)
  have HO := Lib.hid hown1
  have HT1 := HT.out.mono hb1
  have hco := szcost_one (one w.heap.size) w1 HT1 hP
  obtain ⟨j0, j1, j2, j3, j4, j5, ⟨p, r, c', h1, h2, h3⟩, -, hp⟩ := HT1
  have d1 := hp.d1
  have HB1 := Lib.hid hb1
  have HL1 := Lib.hid hlt1
  clear hown1 hb1 hlt1 hp j0 j1 j2 j3 j4 d1 hP
  go_wp2_with fail
  refine wp_loop_rounds 2 ?_
  rw [rounds_succ]
  go_wp2_with fail
  refine wp_loop_rounds 2 ?_
  rw [rounds_succ]
  go_wp2_with fail
  refine Calls.to hco ?_
  rintro e w2 rfl hb2
  have ho2 := HO.out.below hb2
  have hl2 : w.heap.size < w2.heap.size := Nat.lt_of_lt_of_le HL1.out hb2.size
  have hc2 : w2.cell? ⟨w.heap.size, 0, none⟩ = some (.slice none 0 0) := by
    have := Own.cellAt' (enc := eV) (fun _ => rfl) ho2 0 0 (by simp) (by simp)
    simpa using this
  have hbw2 := HB1.out.trans (hb2.mono HB1.out.size)
  have hown3 : Own w2.heap.size 3 eInt 1 w2 (.slice none 0 0) ([] : List Int) := World.ownsRow_nil _ _ _ _
  have h1c : ∀ u ∈ eInt 21, u.oneCell' = true := by simp [Value.oneCell']
  have hyl : ([] : List Int).length < 2147483648 := by decide
  clear h1 h2 h3 hb2 hco j5
  go_wp2_with (at_builtin; go_must (refine wpList_pushR rfl _ _ 28 rfl 3 _ 1 8 undInts infInt rfl (by decide) 21 (fun _ => rfl) h1c _ [] rfl hown3 w2.heap.size rfl rfl hyl (by decide) (Nat.le_refl _) _ rfl ?_); intro g3 k3 w3 hR3; have hb3 := hR3.below hown3 (Nat.le_refl _); have hc3 := cel_lt hc2 hb3; have hf3 := (ho2.below hb3).free 0)
  have hv3 : w3.cell? ⟨g3, 0, none⟩ = some (.int .i64 21) := by
    have := Own.cellAt' (enc := eInt) (fun _ => rfl) hR3.own 0 0 (by simp) (by simp)
    simpa using this
  have hg3 : g3 ≠ w.heap.size := fun e => by have := (hR3.own.lt g3 rfl).1; omega
  have hbe := (hbw2.trans (hb3.mono hbw2.size)).setCell (p := ⟨w.heap.size, 0, none⟩) (Nat.le_refl _) (.slice (some ⟨g3, 0, none⟩) (([] : List Int).length + 1) k3)
  have hcE : (w3.setCell ⟨w.heap.size, 0, none⟩ (.slice (some ⟨g3, 0, none⟩) (([] : List Int).length + 1) k3)).cell? ⟨w.heap.size, 0, none⟩ = some (.slice (some ⟨g3, 0, none⟩) 1 k3) := by
    exact (World.cell?_setCell_same _ _ _ hc3).trans rfl
  have hvE : (w3.setCell ⟨w.heap.size, 0, none⟩ (.slice (some ⟨g3, 0, none⟩) (([] : List Int).length + 1) k3)).cell? ⟨g3, 0, none⟩ = some (.int .i64 21) := by
    rw [← hv3]; exact World.cell?_of_block (Below.heap_setCell _ _ _ _ (fun e => hg3 e))
  clear hR3 hb3 hc3 hf3 hv3 hown3
  rw [rounds_succ]
  go_wp2_with fail
  rw [rounds_succ]
  go_wp2_with fail
  go_ret
  exact ⟨⟨w.heap.size, g3, k3, rfl, hcE, hvE⟩, hbe⟩

end Go.Proofs.YtoiakijmbghhlaaGreat
