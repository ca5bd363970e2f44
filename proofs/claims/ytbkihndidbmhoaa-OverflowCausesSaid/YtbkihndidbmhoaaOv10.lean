/- Count. Conditions: none. -/
import Derived.Test.YtbkihndidbmhoaaMOv
import Derived.Test.YtbkihndidbmhoaaMBase
namespace Go.Proofs.Ytbkihndidbmhoaa
open Go.RowKit
set_option linter.unusedVariables false
set_option linter.unusedSimpArgs false

theorem undInts' : Try.prog.underlying 22 = some (.slice (Try.prog.elem 22)) := by kernel_rfl
theorem szInt (W : World) : (sizeOf (Try.prog.elem 22)).run Try.prog W = .ok 1 W := by kernel_rfl

def countGo (s g : Int) : List Ev → Option (Int × Int)
  | [] => some (s, g)
  | x :: r => if 1152921504606846976 < wrap64 (s + x.Total) then none else countGo (wrap64 (s + x.Total)) (if g < x.Total then x.Total else g) r

def lsumE : List Ev → Int
  | [] => 0
  | x :: r => x.Total + lsumE r
theorem lsumE_nonneg : ∀ l : List Ev, (∀ x ∈ l, 0 ≤ x.Total) → 0 ≤ lsumE l
  | [], _ => Int.le_refl 0
  | x :: r, h => by
    have h0 := h x (by simp)
    have h1 := lsumE_nonneg r (fun y hy => h y (by simp [hy]))
    simp only [lsumE]; omega

def CountIs (xs : List Ev) (e : Ending) : Prop :=
  if rightM xs = true then
    match countGo 0 0 xs with
    | some (s, g) => e = .returned (.tuple #[.int .i64 xs.length, .int .i64 s, .int .i64 g, .int .i64 0])
    | none => e = .returned (.tuple #[.int .i64 0, .int .i64 0, .int .i64 0, .int .i64 5])
  else e = .returned (.tuple #[.int .i64 0, .int .i64 0, .int .i64 0, .int .i64 1])

set_option maxHeartbeats 1000000 in
theorem count_any (xs : List Ev) (v : Value) (w : World) (hv : IsEvs w v xs) :
    Calls Try.prog 19 #[v] w fun e w' => CountIs xs e ∧ Below w.heap.size w w' := by
  obtain ⟨a, cap, rfl, hcap, hbig, hs⟩ := hv
  have hv : IsEvs w (.slice a xs.length cap) xs := ⟨a, cap, rfl, hcap, hbig, hs⟩
  cases hr : rightM xs
  · have HR := Lib.hid hr
    clear hr
    go_enter Try.func19, Try.ntmps19
    go_wp2_with fail
    refine Calls.to (right_any xs _ _ hv) ?_
    rintro e w1 rfl hb
    rw [HR.out]
    go_wp2_with fail
    ((try simp only [Exit.inBlock, Exit.then]); refine bodyPost_ret (results_tmp4 rfl _ _ _) rfl ?_)
    exact ⟨by simp [CountIs, HR.out], hb⟩
  · have HR := Lib.hid hr
    clear hr
    go_enter Try.func19, Try.ntmps19
    go_wp2_with fail
    refine Calls.to (right_any xs _ _ hv) ?_
    rintro e w1 rfl hb1
    rw [HR.out]
    go_wp2_with fail
    go_loopw [6, 7, 15] (fun s6 s7 s15 wr => ∃ (k : Nat) (s g : Int), k ≤ xs.length ∧ s15 = .int .i64 k ∧ s6 = .int .i64 s ∧ s7 = .int .i64 g ∧ Below w.heap.size w wr ∧ Hid (countGo 0 0 xs = countGo s g (xs.drop k))) (fun _ _ i _ => xs.length - (intOf i).toNat)
    case atStart => exact ⟨0, 0, 0, Nat.zero_le _, rfl, rfl, rfl, hb1, rfl⟩
    case round =>
      obtain ⟨k, s, g, hk, rfl, rfl, rfl, hb, hm⟩ := hrel
      by_cases hlt : k < xs.length
      · obtain ⟨b, off, rfl, c1, c2, c3, c4⟩ := (hs.mono hb).ev k hlt
        have hdrop : Hid (xs.drop k = xs[k] :: xs.drop (k + 1)) := List.drop_eq_getElem_cons hlt
        clear hs
        generalize xs[k] = x at *
        by_cases hq : 1152921504606846976 < wrap64 (s + x.Total)
        · go_wp2_with fail
          ((try simp only [Exit.inBlock, Exit.then]); refine bodyPost_ret (results_tmp4 rfl _ _ _) rfl ?_)
          exact ⟨by simp [CountIs, HR.out, hm.out, hdrop.out, countGo, hq], by repeat' (first | exact Below.refl _ _ | assumption | refine Below.more ?_ ?_ _ | refine Below.alloc ?_ ?_ _ | refine Below.drew ?_ | refine below_drewN ?_ _ | refine Below.setCell ?_ ?_ _ | exact Below.size (by assumption) | (simp [go_sem, size_more]; done) | (simp [go_sem, size_more]; omega))⟩
        · by_cases hg : g < x.Total
          all_goals
            go_wp2_with fail
            go_roundw
            case measure => simp [intOf]; omega
            case rel => exact ⟨k + 1, _, _, by omega, by go_num, rfl, rfl, by repeat' (first | exact Below.refl _ _ | assumption | refine Below.more ?_ ?_ _ | refine Below.alloc ?_ ?_ _ | refine Below.drew ?_ | refine below_drewN ?_ _ | refine Below.setCell ?_ ?_ _ | exact Below.size (by assumption) | (simp [go_sem, size_more]; done) | (simp [go_sem, size_more]; omega)), hm.out.trans (by rw [hdrop.out]; simp [countGo, hq, hg])⟩
      · go_wp2_with fail
        ((try simp only [Exit.inBlock, Exit.then]); refine bodyPost_ret (results_tmp4 rfl _ _ _) rfl ?_)
        have h1 := hm.out
        rw [List.drop_eq_nil_of_le (by omega)] at h1
        exact ⟨by simp [CountIs, HR.out, h1, countGo], hb⟩

theorem countGo_ok : ∀ (xs : List Ev) (s g : Int), 0 ≤ s → g ≤ s → (∀ x ∈ xs, 0 ≤ x.Total) → s + lsumE xs ≤ 1152921504606846976 → ∃ m, countGo s g xs = some (s + lsumE xs, m) ∧ m ≤ s + lsumE xs
  | [], s, g, _, hg, _, _ => ⟨g, by simp [countGo, lsumE], by simp [lsumE]; exact hg⟩
  | x :: r, s, g, h0, hg, hx, hs => by
    have hx0 := hx x (by simp)
    have hr : ∀ x ∈ r, 0 ≤ x.Total := fun y hy => hx y (by simp [hy])
    have hn := lsumE_nonneg r hr
    simp only [lsumE] at hs ⊢
    rw [countGo, IntWalk.wrap64_in _ (by omega), if_neg (by omega)]
    obtain ⟨m, h1, h2⟩ := countGo_ok r (s + x.Total) (if g < x.Total then x.Total else g) (by omega) (by split <;> omega) hr (by omega)
    exact ⟨m, by rw [h1]; congr 2; omega, by omega⟩

end Go.Proofs.Ytbkihndidbmhoaa
