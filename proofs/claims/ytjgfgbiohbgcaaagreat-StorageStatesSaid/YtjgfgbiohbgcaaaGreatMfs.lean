/- Few nodes and links, short lists, slight states. Conditions: the arguments read as data. | Slight states. Conditions: none. -/
import Derived.Test.YtjgfgbiohbgcaaaGreatMls
namespace Go.Proofs.YtjgfgbiohbgcaaaGreat
open Go.RowKit
set_option linter.unusedVariables false
set_option linter.unusedSimpArgs false

abbrev SI := Sl Int
abbrev eSI (s : SI) : List Value := [.slice s.a s.xs.length s.cap]
abbrev vSI (s : SI) : Value := .slice s.a s.xs.length s.cap
abbrev IsSIs (w : World) (v : Value) (xs : List SI) : Prop := IsL eSI 1 w v xs
theorem IsC.si {w : World} {a : Option Addr} {xs : List SI} (h : IsC eSI 1 w a xs) (i : Nat) (hi : i < xs.length) : ∃ b off, a = some ⟨b, off, none⟩ ∧ w.cell? ⟨b, off + i, none⟩ = some (.slice xs[i].a xs[i].xs.length xs[i].cap) := by
  obtain ⟨b, off, e, hc⟩ := h i hi
  refine ⟨b, off, e, ?_⟩
  simpa using hc 0 (by omega)
set_option maxHeartbeats 1000000 in
theorem indexSI (g : Nat) (lb : Array Value) (eg : ∀ args w, (callFunc g args).run Tryz.prog w = .ok (.enter g args) w) (p : SI → Bool) (xs : List SI) (v : Value) (w : World)
    (hv : IsSIs w v xs) (hp : PredOn Tryz.prog g lb vSI p xs w) :
    Calls Tryz.prog 77 #[v, .func (.func g) #[] lb] w fun e w' => e = .returned (.int .i64 (idxFrom p xs 0)) ∧ Below w.heap.size w w' := by
  obtain ⟨a, cap, rfl, hcap, hbig, hs⟩ := hv
  go_enter Tryz.func77, Tryz.ntmps77
  go_wp2
  go_loopw [5, 8] (fun _ s8 wr => ∃ k : Nat, k ≤ xs.length ∧ s8 = .int .i64 k ∧ Below w.heap.size w wr ∧ Hid (idxFrom p xs 0 = idxFrom p (xs.drop k) k)) (fun _ i _ => xs.length - (intOf i).toNat)
  case atStart => exact ⟨0, Nat.zero_le _, rfl, Below.refl _ _, rfl⟩
  case round =>
    obtain ⟨k, hk, rfl, hb, hm⟩ := hrel
    by_cases hlt : k < xs.length
    · obtain ⟨b, off, rfl, c0⟩ := (hs.mono hb).si k hlt
      have hx := hp wr hb xs[k] (List.getElem_mem hlt)
      have hstep : Hid (idxFrom p (xs.drop k) k = if p xs[k] then (k : Int) else idxFrom p (xs.drop (k + 1)) (k + 1)) := by
        rw [List.drop_eq_getElem_cons hlt]; rfl
      clear hs hp
      generalize xs[k] = y at *
      cases hpy : p y
      all_goals
        rw [hpy] at hx hstep
        clear hpy
        go_wp2_with fail
        refine (Calls.to hx ?_)
        rintro e w1 rfl hb1
        have hbb := hb.trans (hb1.mono hb.size)
        go_wp2_with fail
      · go_roundw
        case rel => exact ⟨k + 1, by omega, by go_num, by repeat' (first | exact Below.refl _ _ | assumption | refine Below.more ?_ ?_ _ | refine Below.alloc ?_ ?_ _ | refine Below.drew ?_ | refine below_drewN ?_ _ | refine Below.setCell ?_ ?_ _ | exact Below.size (by assumption) | (simp [go_sem, size_more]; done) | (simp [go_sem, size_more]; omega)), hm.out.trans (hstep.out.trans (by simp))⟩
        case measure => simp [intOf]; omega
      · go_ret
        exact ⟨ret_int (hm.out.trans (hstep.out.trans (by simp))).symm, by repeat' (first | exact Below.refl _ _ | assumption | refine Below.more ?_ ?_ _ | refine Below.alloc ?_ ?_ _ | refine Below.drew ?_ | refine below_drewN ?_ _ | refine Below.setCell ?_ ?_ _ | exact Below.size (by assumption) | (simp [go_sem, size_more]; done) | (simp [go_sem, size_more]; omega))⟩
    · go_wp2
      go_ret
      refine ⟨ret_int ?_, by repeat' (first | exact Below.refl _ _ | assumption | refine Below.more ?_ ?_ _ | refine Below.alloc ?_ ?_ _ | refine Below.drew ?_ | refine below_drewN ?_ _ | refine Below.setCell ?_ ?_ _ | exact Below.size (by assumption) | (simp [go_sem, size_more]; done) | (simp [go_sem, size_more]; omega))⟩
      rw [hm.out, List.drop_eq_nil_of_le (by omega)]; rfl

set_option maxHeartbeats 400000 in
theorem containsSI (g : Nat) (lb : Array Value) (eg : ∀ args w, (callFunc g args).run Tryz.prog w = .ok (.enter g args) w) (p : SI → Bool) (xs : List SI) (v : Value) (w : World)
    (hv : IsSIs w v xs) (hp : PredOn Tryz.prog g lb vSI p xs w) :
    Calls Tryz.prog 50 #[v, .func (.func g) #[] lb] w fun e w' => e = .returned (.bool (xs.any p)) ∧ Below w.heap.size w w' := by
  go_enter Tryz.func50, Tryz.ntmps50
  go_wp2_with fail
  refine Calls.to (indexSI g lb eg p xs v w hv hp) ?_
  rintro e w1 rfl hb
  go_wp2_with fail
  go_ret
  exact ⟨ret_bool (idxFrom_any p xs 0), hb⟩


theorem ent51 : ∀ args w, (callFunc 51 args).run Tryz.prog w = .ok (.enter 51 args) w := by
  intro args w
  simp [go_sem]
theorem short1_any (s : SI) (w : World) : Calls Tryz.prog 51 #[vSI s] w fun e w' => e = .returned (.bool (decide ((60 : Int) < (s.xs.length : Int)))) ∧ Below w.heap.size w w' := by
  obtain ⟨a, c, xs⟩ := s
  cases h : decide ((60 : Int) < (xs.length : Int))
  all_goals
    go_enter Tryz.func51, Tryz.ntmps51
    go_wp2_with fail
    go_ret
    exact ⟨rfl, by repeat' (first | exact Below.refl _ _ | assumption | refine Below.more ?_ ?_ _ | refine Below.alloc ?_ ?_ _ | refine Below.drew ?_ | refine below_drewN ?_ _ | refine Below.setCell ?_ ?_ _ | exact Below.size (by assumption) | (simp [go_sem, size_more]; done) | (simp [go_sem, size_more]; omega))⟩
set_option maxHeartbeats 1000000 in
theorem s9short_any (L : List SI) (v : Value) (w : World) (hv : IsSIs w v L) : Calls Tryz.prog 17 #[v] w fun e w' => e = .returned (.bool (!(L.any fun s => decide ((60 : Int) < (s.xs.length : Int))))) ∧ Below w.heap.size w w' := by
  have hc := containsSI 51 #[] ent51 (fun s : SI => decide ((60 : Int) < (s.xs.length : Int))) L v w hv (fun W _ s _ => short1_any s W)
  generalize (L.any fun s => decide ((60 : Int) < (s.xs.length : Int))) = b at *
  obtain ⟨a, cap, rfl, _⟩ := hv
  go_enter Tryz.func17, Tryz.ntmps17
  go_wp2_with fail
  refine Calls.to hc ?_
  rintro e w1 rfl hb1
  go_wp2_with fail
  go_ret
  exact ⟨rfl, hb1⟩
set_option maxHeartbeats 1000000 in
theorem s9few_any (n : Net) (w : World) : Calls Tryz.prog 16 #[vNet n] w fun e w' => e = .returned (.bool (decide ((n.Ns.xs.length : Int) ≤ 30) && decide ((n.Ls.xs.length : Int) ≤ 40))) ∧ Below w.heap.size w w' := by
  obtain ⟨⟨na, nc, nx⟩, ⟨la, lc, lx⟩⟩ := n
  simp only
  cases u1 : decide ((nx.length : Int) ≤ 30)
  · go_enter Tryz.func16, Tryz.ntmps16
    go_wp2_with fail
    go_ret
    exact ⟨rfl, by repeat' (first | exact Below.refl _ _ | assumption | refine Below.more ?_ ?_ _ | refine Below.alloc ?_ ?_ _ | refine Below.drew ?_ | refine below_drewN ?_ _ | refine Below.setCell ?_ ?_ _ | exact Below.size (by assumption) | (simp [go_sem, size_more]; done) | (simp [go_sem, size_more]; omega))⟩
  · cases u2 : decide ((lx.length : Int) ≤ 40)
    all_goals
      go_enter Tryz.func16, Tryz.ntmps16
      go_wp2_with fail
      go_ret
      exact ⟨rfl, by repeat' (first | exact Below.refl _ _ | assumption | refine Below.more ?_ ?_ _ | refine Below.alloc ?_ ?_ _ | refine Below.drew ?_ | refine below_drewN ?_ _ | refine Below.setCell ?_ ?_ _ | exact Below.size (by assumption) | (simp [go_sem, size_more]; done) | (simp [go_sem, size_more]; omega))⟩

end Go.Proofs.YtjgfgbiohbgcaaaGreat

namespace Go.Proofs.YtjgfgbiohbgcaaaGreat
open Go.RowKit
set_option linter.unusedVariables false
set_option linter.unusedSimpArgs false

def shortB (s : St) : Bool := !([s.V, s.P, s.S].any fun x : SI => decide ((60 : Int) < (x.xs.length : Int)))
def slightB (s : St) : Bool := shortB s && decide ((s.O.xs.length : Int) ≤ 60)
set_option maxRecDepth 100000 in
set_option maxHeartbeats 1000000 in
theorem s9slight_any (s : St) (w : World) : Calls Tryz.prog 25 #[vSt s] w fun e w' => e = .returned (.bool (slightB s)) ∧ Below w.heap.size w w' := by
  obtain ⟨⟨va, vc, vs⟩, ⟨pa, pc, ps⟩, ⟨ea, ec, ss⟩, ⟨oa, oc, os⟩⟩ := s
  have hsh := fun v W hv => s9short_any [(⟨va, vc, vs⟩ : SI), ⟨pa, pc, ps⟩, ⟨ea, ec, ss⟩] v W hv
  have hq : IsSIs ((w.alloc (.cells #[.slice va vs.length vc, .slice pa ps.length pc, .slice ea ss.length ec, .slice oa os.length oc] 54)).alloc (.cells #[.slice va vs.length vc, .slice pa ps.length pc, .slice ea ss.length ec] 43)) (.slice (some ⟨w.heap.size + 1, 0, none⟩) 3 3) [(⟨va, vc, vs⟩ : SI), ⟨pa, pc, ps⟩, ⟨ea, ec, ss⟩] := by
    refine isL_lit eSI 1 (fun _ => rfl) _ (w.heap.size + 1) 43 _ _ 3 3 ?_ rfl rfl (Nat.le_refl 3) (by decide)
    have h := heap_alloc_new (w.alloc (.cells #[.slice va vs.length vc, .slice pa ps.length pc, .slice ea ss.length ec, .slice oa os.length oc] 54)) (.cells #[.slice va vs.length vc, .slice pa ps.length pc, .slice ea ss.length ec] 43)
    rw [show (w.alloc (.cells #[.slice va vs.length vc, .slice pa ps.length pc, .slice ea ss.length ec, .slice oa os.length oc] 54)).heap.size = w.heap.size + 1 from by simp] at h
    exact h
  obtain ⟨b, hb⟩ : ∃ b, shortB ⟨⟨va, vc, vs⟩, ⟨pa, pc, ps⟩, ⟨ea, ec, ss⟩, ⟨oa, oc, os⟩⟩ = b := ⟨_, rfl⟩
  have hb' : (!([(⟨va, vc, vs⟩ : SI), ⟨pa, pc, ps⟩, ⟨ea, ec, ss⟩].any fun x : SI => decide ((60 : Int) < (x.xs.length : Int)))) = b := hb
  rw [hb'] at hsh
  unfold slightB
  rw [hb]
  clear hb hb'
  cases b
  · go_enter Tryz.func25, Tryz.ntmps25
    go_wp2_with fail
    refine Calls.to (hsh _ _ hq) ?_
    rintro e w1 rfl hb1
    have hb2 : Below w.heap.size w w1 := (((Below.refl _ _).alloc (Nat.le_refl _) _).alloc (by simp) _).trans (hb1.mono (by first | (simp; done) | (simp; omega)))
    go_wp2_with fail
    go_ret
    exact ⟨rfl, hb2⟩
  · cases u : decide ((os.length : Int) ≤ 60)
    all_goals
      go_enter Tryz.func25, Tryz.ntmps25
      go_wp2_with fail
      refine Calls.to (hsh _ _ hq) ?_
      rintro e w1 rfl hb1
      have hb2 : Below w.heap.size w w1 := (((Below.refl _ _).alloc (Nat.le_refl _) _).alloc (by simp) _).trans (hb1.mono (by first | (simp; done) | (simp; omega)))
      have f3 : w1.cell? ⟨w.heap.size, 3, none⟩ = some (.slice oa os.length oc) := (hb1.cell (p := ⟨w.heap.size, 3, none⟩) (by simp; omega)).trans (by simp [go_sem])
      go_wp2_with fail
      go_ret
      exact ⟨rfl, hb2⟩

end Go.Proofs.YtjgfgbiohbgcaaaGreat
