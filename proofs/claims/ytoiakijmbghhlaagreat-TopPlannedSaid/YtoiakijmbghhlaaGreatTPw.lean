/- The walk of the law. The law TopPlanned returns true for every plan, every choice and all values, and leaves its arguments as they were. Conditions: none beyond the row's own. -/
import Derived.Test.YtoiakijmbghhlaaGreatRows
import Derived.WalkKit
import Derived.ProofKit
import Derived.OpenShut
import Derived.ShutString
import Derived.ChangeOld
import Derived.Below
import Derived.Test.YtoiakijmbghhlaaGreatMPb
import Derived.Test.YtoiakijmbghhlaaGreatYaw
import Derived.Test.YtoiakijmbghhlaaGreatRowk
namespace Go.Proofs.YtoiakijmbghhlaaGreat.topPlanned
open Go.ChangeShapes Go.WideShapes Go.ChangeAt Go.RowKit
set_option linter.unusedVariables false
set_option linter.unusedSimpArgs false
open Go.ChangeMaps (open_string shut_string)
set_option linter.unusedVariables false


theorem getD_setI (os : List Int) (k j : Nat) (y : Int) (h : k < os.length) : (os.set k y).getD j 0 = if j = k then y else os.getD j 0 := by
  simp only [List.getD, List.getElem?_set]
  by_cases hj : j = k
  · subst hj; simp [h]
  · rw [if_neg hj, if_neg (fun e => hj e.symm)]
/-- What the law knows when a plan is solved. -/
structure Known (p : PlD) (m : Int) (vs : List Int) : Prop where
  ok : planB p = true
  fits : Fits p
  V : Pn.V (plOf p) p.I.xs p.St = some m
  rl : (rels p).length = p.I.xs.length
  rm : ∀ r ∈ rels p, r ∈ p.L.xs
  mb : 0 ≤ m ∧ m ≤ 1152921504606846976
  cost : Pn.costK (plOf p) p.I.xs ((rels p).map (ixL p.L.xs)) p.St = some (m, vs)
  vl : vs.length = p.I.xs.length
  vb : ∀ x ∈ vs, p.Rs ≤ x ∧ x ≤ p.Cp
theorem known {p : PlD} {m : Int} (h1 : planB p = true) (h2 : Fits p) (h3 : Pn.V (plOf p) p.I.xs p.St = some m) : ∃ vs, Known p m vs := by
  obtain ⟨a, b, c, vs, d, e, f⟩ := rels_ok h1 h3
  exact ⟨vs, h1, h2, h3, a, b, c, d, e, f⟩
/-- What Myopic says, with the least cost in sight. -/
theorem myo_of {p : PlD} {m : Int} {vs : List Int} (hk : Known p m vs) {v : Value} (h : MyoR p v) : ∃ (d : Int) (u : Value) (e : Int), v = .tuple #[.int .i64 d, u, .int .i64 e] ∧ (e == 0 && decide (d < m)) = false := by
  cases h with
  | bad h => rw [hk.ok] at h; cases h
  | none => exact ⟨0, _, 12, rfl, by simp⟩
  | ok d u ks vs' h1 h2 h3 h4 =>
    have := cost_ge hk.V h2 h3 h4
    exact ⟨d, u, 0, rfl, by simp; omega⟩
/-- What Cost says of any list of releases of the plan. -/
theorem cost_of {p : PlD} {m : Int} {vs : List Int} (hk : Known p m vs) {os : List Int} (hl : os.length = p.I.xs.length) (hm : ∀ r ∈ os, r ∈ p.L.xs) {w : World} {v : Value} (h : CostR p os w v) :
    ∃ (d : Int) (u : Value) (e : Int), v = .tuple #[.int .i64 d, u, .int .i64 e] ∧ ((e == 0 && decide (d < m)) = false ∧ ∀ rows b, CertOk p rows b → (e == 0 && decide (d < b)) = false) := by
  cases h with
  | bad h => rw [hk.ok] at h; cases h
  | size _ h => exact absurd hl h
  | range _ h => obtain ⟨r, h1, h2⟩ := h; exact absurd (hm r h1) h2
  | dry => exact ⟨0, _, 27, rfl, by simp, fun _ _ _ => by simp⟩
  | ok d u vs' h1 h2 h3 h4 h5 =>
    have hx := ix_lt (p := p) hm
    have hl2 : (os.map (ixL p.L.xs)).length = p.I.xs.length := by rw [List.length_map, hl]
    have := cost_ge hk.V hl2 hx h4
    refine ⟨d, u, 0, rfl, by simp; omega, fun rows b hb => ?_⟩
    have := hb.le hl2 hx h4
    simp; omega
/-- What Bound says of any rows. -/
theorem bound_of {p : PlD} {m : Int} {vs : List Int} (hk : Known p m vs) {rows : List (List Int)} {v : Value} (h : BoundR p rows v) :
    ∃ (b e : Int), v = .tuple #[.int .i64 b, .int .i64 e] ∧ (e == 0 && decide (m < b)) = false ∧ (e = 0 → CertOk p rows b) := by
  cases h with
  | bad e he hn => exact ⟨0, e, rfl, by simp [he], fun h => absurd h he⟩
  | ok b hb =>
    have hx := ix_lt (p := p) hk.rm
    have := hb.le (by rw [List.length_map, hk.rl]) hx hk.cost
    exact ⟨b, 0, rfl, by simp; omega, fun _ => hb⟩
theorem tmod_nat (a b : Nat) : (a : Int).tmod b = ((a % b : Nat) : Int) := rfl

set_option maxRecDepth 100000 in
set_option maxHeartbeats 32000000 in
theorem walk (v0 : Value) (p : PlD) (v1 : Value) (x1 : Sl Int) (v2 : Value) (x2 : Sl (Sl Int)) (w : World) (w0 : v0 = vPl p ∧ gPl w p) (w1 : v1 = vSl x1 ∧ gSl eU8 1 gU8 w x1) (w2 : v2 = vSl x2 ∧ gSl (fun s : Sl Int => [vSl s]) 1 gInts w x2) :
    Calls Tryz.prog 4 #[v0, v1, v2] w fun e w' => e = .returned (.bool true) ∧ Below w.heap.size w w' := by
  obtain ⟨rfl, hg⟩ := w0
  obtain ⟨rfl, hch⟩ := w1
  obtain ⟨rfl, hvs⟩ := w2
  have hrw : IsRws w (vSl x2) x2.xs := ⟨hvs.isL, fun s hs => (hvs.2.2.2 s hs).isL⟩
  have HG := Lib.hid hg
  have HCH := Lib.hid hch
  have HRW := Lib.hid hrw
  have hb0 : Below w.heap.size w (w.alloc (.cells (ePl p).toArray 68)) := (Below.refl _ _).alloc (Nat.le_refl _) _
  obtain ⟨va, vc, vl⟩ := x2
  obtain ⟨ca, cc, cl⟩ := x1
  simp only at HRW HCH
  simp only [vPl, vSl]
  obtain ⟨b1, e1⟩ : ∃ b, decide (10 < p.I.xs.length) = b := ⟨_, rfl⟩
  obtain ⟨b2, e2⟩ : ∃ b, decide (6 < p.L.xs.length) = b := ⟨_, rfl⟩
  obtain ⟨b3, e3⟩ : ∃ b, decide (20 < p.T.xs.length) = b := ⟨_, rfl⟩
  obtain ⟨b4, e4⟩ : ∃ b, decide (12 < vl.length) = b := ⟨_, rfl⟩
  obtain ⟨b6, e6⟩ : ∃ b, decide (cl.length = 0) = b := ⟨_, rfl⟩
  have i1 : decide ((10 : Int) < p.I.xs.length) = b1 := by rw [← e1]; congr 1; apply propext; omega
  have i2 : decide ((6 : Int) < p.L.xs.length) = b2 := by rw [← e2]; congr 1; apply propext; omega
  have i3 : decide ((20 : Int) < p.T.xs.length) = b3 := by rw [← e3]; congr 1; apply propext; omega
  have i4 : decide ((12 : Int) < vl.length) = b4 := by rw [← e4]; congr 1; apply propext; omega
  have HB4 : Hid (b4 = false → vl.length ≤ 12) := Lib.hid (fun h => by rw [h] at e4; simpa using e4)
  have HB6 : Hid ((b6 = false → 0 < cl.length) ∧ (b6 = true → ((cl.length : Int) == 0) = true) ∧ (b6 = false → ((cl.length : Int) == 0) = false)) := Lib.hid ⟨fun h => by rw [h] at e6; simp at e6; exact List.length_pos_iff.2 e6, fun h => by rw [h] at e6; simp at e6; simp [e6], fun h => by rw [h] at e6; simp at e6; simpa using e6⟩
  clear hg hch hvs hrw e6
  go_enter Tryz.func4, Tryz.ntmps4
  go_wp2_with fail
  refine Calls.to (planAwake_any _) ?_
  rintro e w1 rfl hb1
  have hbw := hb0.trans (hb1.mono hb0.size)
  obtain ⟨c0, c1, c2, c3, c4, c5, c6⟩ := boxPl w w1 68 p _ rfl _ rfl (hb1.mono (by simp))
  clear hb1 hb0
  cases b1
  rotate_left
  · go_wp2_with fail
    go_ret
    exact ⟨rfl, hbw⟩
  cases b2
  rotate_left
  · go_wp2_with fail
    go_ret
    exact ⟨rfl, hbw⟩
  cases b3
  rotate_left
  · go_wp2_with fail
    go_ret
    exact ⟨rfl, hbw⟩
  cases b4
  rotate_left
  · go_wp2_with fail
    go_ret
    exact ⟨rfl, hbw⟩
  have hcon := containsRowsL 18 #[] ent18 r200 vl _ w1 (HRW.out.mono hbw).1 (fun W hW x hx => planned1_any x W)
  have HVL := Lib.hid (HB4.out rfl)
  simp only [vSl] at hcon
  generalize vl.any r200 = b5 at hcon
  go_wp2_with fail
  refine Calls.to hcon ?_
  rintro e w2 rfl hb2
  have hbw := hbw.trans (hb2.mono hbw.size)
  have c0 := cel_lt c0 hb2
  have c1 := cel_lt c1 hb2
  have c2 := cel_lt c2 hb2
  have c3 := cel_lt c3 hb2
  have c4 := cel_lt c4 hb2
  have c5 := cel_lt c5 hb2
  have c6 := cel_lt c6 hb2
  clear hb2 hcon i1 i2 i3 i4 e1 e2 e3 e4
  cases b5
  rotate_left
  · go_wp2_with fail
    go_ret
    exact ⟨rfl, hbw⟩
  have hso := psolve_any p w2 (rdPl.mono HG.out hbw)
  simp only [vPl, vSl] at hso
  go_wp2_with fail
  refine Calls.to hso ?_
  rintro e w3 ⟨v, rfl, hv⟩ hb2
  have hbw := hbw.trans (hb2.mono hbw.size)
  have c0 := cel_lt c0 hb2
  have c1 := cel_lt c1 hb2
  have c2 := cel_lt c2 hb2
  have c3 := cel_lt c3 hb2
  have c4 := cel_lt c4 hb2
  have c5 := cel_lt c5 hb2
  have c6 := cel_lt c6 hb2
  clear hb2 hso
  cases hv with
  | bad h =>
    clear h
    go_wp2_with fail
    go_ret
    exact ⟨rfl, hbw⟩
  | limit h1 h2 =>
    clear h1 h2
    go_wp2_with fail
    go_ret
    exact ⟨rfl, hbw⟩
  | none h1 h2 h3 =>
    clear h1 h2 h3
    go_wp2_with fail
    go_ret
    exact ⟨rfl, hbw⟩
  | ok m u h1 h2 h3 hu =>
  obtain ⟨vs, hk⟩ := known h1 h2 h3
  have HK := Lib.hid hk
  have HU := Lib.hid hu
  have hu0 := hu
  obtain ⟨ua, uc, rfl, -, -, -⟩ := hu0
  clear h1 h2 h3 hk hu
  have hmk := cmake_any p w3 (rdPl.mono HG.out hbw)
  simp only [vPl, vSl] at hmk
  go_wp2_with fail
  refine Calls.to hmk ?_
  rintro e w4 ⟨v, rfl, hv⟩ hb4
  have hbw := hbw.trans (hb4.mono hbw.size)
  have c0 := cel_lt c0 hb4
  have c1 := cel_lt c1 hb4
  have c2 := cel_lt c2 hb4
  have c3 := cel_lt c3 hb4
  have c4 := cel_lt c4 hb4
  have c5 := cel_lt c5 hb4
  have c6 := cel_lt c6 hb4
  have HU := Lib.hid (HU.out.mono hb4)
  clear hb4 hmk
  cases hv with
  | bad h => rw [HK.out.ok] at h; cases h
  | limit h1 h2 => exact absurd HK.out.fits h2
  | ok R u2 us g1 g2 g3 g4 =>
  obtain ⟨rs, q1, q2, q3⟩ := g4.sls (fun _ => rfl)
  have hrws : IsRws w4 u2 rs := ⟨q2, fun s hs => ⟨s.a, s.cap, rfl, (q3 s hs).1, (q3 s hs).2.1, (q3 s hs).2.2⟩⟩
  have hcert : CertOk p (rs.map (·.xs)) m := by rw [q1]; exact make_ok g1 g2 g3 HK.out.V
  have hrsl : rs.length < 2147483648 := by
    have h1 : rs.length = R.length := by rw [← List.length_map (f := fun s : Sl Int => s.xs), q1, certI_len]
    have h2 := (planB_ok HK.out.ok).il
    omega
  have HCE := Lib.hid hcert
  have HRS := Lib.hid hrws
  have HRL := Lib.hid hrsl
  obtain ⟨ra, rc, rfl, -, -, -⟩ := q2
  clear g1 g2 g3 g4 q1 q3 hcert hrsl
  have hck := ccheck_any p rs _ w4 (rdPl.mono HG.out hbw) hrws HRL.out
  simp only [vPl, vSl] at hck
  clear hrws
  go_wp2_with fail
  refine Calls.to hck ?_
  rintro e w5 ⟨v, rfl, hv⟩ hb5
  have hbw := hbw.trans (hb5.mono hbw.size)
  have c0 := cel_lt c0 hb5
  have c1 := cel_lt c1 hb5
  have c2 := cel_lt c2 hb5
  have c3 := cel_lt c3 hb5
  have c4 := cel_lt c4 hb5
  have c5 := cel_lt c5 hb5
  have c6 := cel_lt c6 hb5
  have HU := Lib.hid (HU.out.mono hb5)
  have HRS := Lib.hid (HRS.out.mono hb5)
  clear hb5 hck
  cases hv with
  | bad h => exact absurd HCE.out.given h
  | no k h1 h2 h3 => rw [HCE.out.all k h2] at h3; cases h3
  | yes h1 h2 =>
  clear h1 h2
  have hbd := cbound_any p rs _ w5 (rdPl.mono HG.out hbw) HRS.out HRL.out
  simp only [vPl, vSl] at hbd
  go_wp2_with fail
  refine Calls.to hbd ?_
  rintro e w6 ⟨v, rfl, hv⟩ hb5
  have hbw := hbw.trans (hb5.mono hbw.size)
  have c0 := cel_lt c0 hb5
  have c1 := cel_lt c1 hb5
  have c2 := cel_lt c2 hb5
  have c3 := cel_lt c3 hb5
  have c4 := cel_lt c4 hb5
  have c5 := cel_lt c5 hb5
  have c6 := cel_lt c6 hb5
  have HU := Lib.hid (HU.out.mono hb5)
  have HRS := Lib.hid (HRS.out.mono hb5)
  clear hb5 hbd
  cases hv with
  | bad e he hn => exact absurd HCE.out (hn m)
  | ok b hb =>
  obtain rfl : b = m := by
    have h1 := hb.at0
    rw [HCE.out.at0] at h1
    cases h1; rfl
  clear hb
  have hct := pcost_any p (rels p) _ w6 (rdPl.mono HG.out hbw) HU.out
  simp only [vPl, vSl] at hct
  go_wp2_with fail
  refine Calls.to hct ?_
  rintro e w7 ⟨v, rfl, hv⟩ hb5
  have hbw := hbw.trans (hb5.mono hbw.size)
  have c0 := cel_lt c0 hb5
  have c1 := cel_lt c1 hb5
  have c2 := cel_lt c2 hb5
  have c3 := cel_lt c3 hb5
  have c4 := cel_lt c4 hb5
  have c5 := cel_lt c5 hb5
  have c6 := cel_lt c6 hb5
  have HU := Lib.hid (HU.out.mono hb5)
  have HRS := Lib.hid (HRS.out.mono hb5)
  clear hb5 hct
  cases hv with
  | bad h => rw [HK.out.ok] at h; cases h
  | size h1 h2 => exact absurd HK.out.rl h2
  | range h1 h2 => obtain ⟨r, hr, hn⟩ := h2; exact absurd (HK.out.rm r hr) hn
  | dry h1 h2 h3 h4 => rw [HK.out.cost] at h4; cases h4
  | ok m' u' vs' h1 h2 h3 h4 h5 =>
  rw [HK.out.cost] at h4
  simp only [Option.some.injEq, Prod.mk.injEq] at h4
  obtain ⟨rfl, rfl⟩ := h4
  have hcv := containsInts 25 #[.pointer (some ⟨w.heap.size, 0, none⟩)] ent25 (fun _ => false) vs _ w7 h5 (fun W hW x hx => planned2_any x p.Rs p.Cp w.heap.size W (cel_lt c1 hW) (cel_lt c2 hW) (HK.out.vb x hx))
  obtain ⟨ka, kc, rfl, -, -, -⟩ := h5
  rw [HK.out.vl] at hcv ⊢
  rw [show vs.any (fun _ => false) = false from by simp] at hcv
  clear h1 h2 h3
  go_wp2_with fail
  refine Calls.to hcv ?_
  rintro e w8 rfl hb5
  have hbw := hbw.trans (hb5.mono hbw.size)
  have c0 := cel_lt c0 hb5
  have c1 := cel_lt c1 hb5
  have c2 := cel_lt c2 hb5
  have c3 := cel_lt c3 hb5
  have c4 := cel_lt c4 hb5
  have c5 := cel_lt c5 hb5
  have c6 := cel_lt c6 hb5
  have HU := Lib.hid (HU.out.mono hb5)
  have HRS := Lib.hid (HRS.out.mono hb5)
  clear hb5 hcv
  have hgp := cgap_any p rs _ (rels p) _ b b vs w8 (rdPl.mono HG.out hbw) HRS.out HRL.out HU.out HCE.out (by have := HK.out.mb; omega) HK.out.rl HK.out.rm HK.out.cost HK.out.mb
  rw [Int.sub_self] at hgp
  simp only [vPl, vSl] at hgp
  go_wp2_with fail
  refine Calls.to hgp ?_
  rintro e w9 rfl hb5
  have hbw := hbw.trans (hb5.mono hbw.size)
  have c0 := cel_lt c0 hb5
  have c1 := cel_lt c1 hb5
  have c2 := cel_lt c2 hb5
  have c3 := cel_lt c3 hb5
  have c4 := cel_lt c4 hb5
  have c5 := cel_lt c5 hb5
  have c6 := cel_lt c6 hb5
  clear hb5 hgp HU HRS HRL HCE
  have hrx := prelax_any p w9 (rdPl.mono HG.out hbw)
  simp only [vPl, vSl] at hrx
  go_wp2_with fail
  refine Calls.to hrx ?_
  rintro e w10 ⟨v, rfl, hv⟩ hb5
  have hbw := hbw.trans (hb5.mono hbw.size)
  have c0 := cel_lt c0 hb5
  have c1 := cel_lt c1 hb5
  have c2 := cel_lt c2 hb5
  have c3 := cel_lt c3 hb5
  have c4 := cel_lt c4 hb5
  have c5 := cel_lt c5 hb5
  have c6 := cel_lt c6 hb5
  clear hb5 hrx
  cases hv with
  | bad h => rw [HK.out.ok] at h; cases h
  | ok r h1 hr =>
  have hle := relaxed_le HK.out.ok HK.out.V hr
  have l1 : decide (b < r) = false := decide_eq_false (by omega)
  clear h1 hr hle
  have hmy := pmyopic_any p w10 (rdPl.mono HG.out hbw)
  simp only [vPl, vSl] at hmy
  go_wp2_with fail
  refine Calls.to hmy ?_
  rintro e w11 ⟨v, rfl, hv⟩ hb5
  have hbw := hbw.trans (hb5.mono hbw.size)
  have c0 := cel_lt c0 hb5
  have c1 := cel_lt c1 hb5
  have c2 := cel_lt c2 hb5
  have c3 := cel_lt c3 hb5
  have c4 := cel_lt c4 hb5
  have c5 := cel_lt c5 hb5
  have c6 := cel_lt c6 hb5
  clear hb5 hmy
  obtain ⟨d, u, ee, rfl, hde⟩ := myo_of HK.out hv
  clear hv
  have hn2 : p.I.xs.length ≤ 200 := (planB_ok HK.out.ok).il
  have hl1 : 1 ≤ p.L.xs.length ∧ p.L.xs.length ≤ 20 := (planB_ok HK.out.ok).ll
  obtain ⟨y1, hy1⟩ : ∃ y, (ee == 0) = y := ⟨_, rfl⟩
  obtain ⟨y2, hy2⟩ : ∃ y, decide (d < b) = y := ⟨_, rfl⟩
  rw [hy1, hy2] at hde
  cases y1
  · clear hy2 hde
    cases b6
    rotate_left
    · have z := HB6.out.2.1 rfl
      clear c0 c1 c2 c3 c4 c5 c6
      go_wp2_with fail
      go_ret
      exact ⟨rfl, hbw⟩
    have hc0 := HB6.out.1 rfl
    have z := HB6.out.2.2 rfl
    have hnI : p.I.xs.length < 2147483648 := by omega
    have HN2 := Lib.hid hn2
    have HL1 := Lib.hid hl1
    have HC0 := Lib.hid hc0
    clear hn2 hl1 hc0
    go_wp2_with (refine wpList_mk _ rfl _ _ 28 rfl w11.heap.size 3 _ 8 undInts infInt eInt 0 rfl rfl _ _ p.I.xs.length rfl rfl rfl rfl hnI (by omega) (Nat.le_refl _) ?_; intro w12 hown hb12 hlt12)
    have HOW := Lib.hid hown
    clear hown hnI l1
    go_wp2_with fail
    go_loopw [203] (fun s203 wr => ∃ (k : Nat) (os : List Int), k ≤ p.I.xs.length ∧ s203 = .int .i64 k ∧ Below w11.heap.size w11 wr ∧ Hid (Own w11.heap.size 3 eInt 1 wr (.slice (some ⟨w11.heap.size, 0, none⟩) p.I.xs.length p.I.xs.length) os) ∧ Hid (os.length = p.I.xs.length) ∧ Hid (∀ j, j < k → os.getD j 0 ∈ p.L.xs)) (fun s203 _ => p.I.xs.length - (RowKit.intOf s203).toNat)
    case atStart => exact ⟨0, _, Nat.zero_le _, rfl, hb12, HOW, Lib.hid (by simp), Lib.hid (fun j hj => absurd hj (Nat.not_lt_zero _))⟩
    case round =>
      obtain ⟨k, os, hk, rfl, hb, hO, hol, hom⟩ := hrel
      obtain ⟨wo, hwo⟩ : ∃ wo, wo = wr := ⟨_, rfl⟩
      subst hwo
      have hbr := hbw.trans (hb.mono hbw.size)
      by_cases hkn : k < p.I.xs.length
      · have i1 : decide (k < p.I.xs.length) = true := decide_eq_true hkn
        obtain ⟨j1, hj1⟩ : ∃ j1, j1 = k % cl.length := ⟨_, rfl⟩
        have hj1l : j1 < cl.length := by rw [hj1]; exact Nat.mod_lt _ HC0.out
        obtain ⟨cb, co, ea, hcc⟩ := (HCH.out.2.2.1.mono hbr) j1 hj1l
        have hcc0 := hcc 0 (by omega)
        have hxb := u8_bd (HCH.out.2.2.2 _ (List.getElem_mem hj1l))
        obtain ⟨x, hx⟩ : ∃ x, x = cl[j1] := ⟨_, rfl⟩
        rw [← hx] at hcc0 hxb
        obtain ⟨xn, rfl⟩ : ∃ xn : Nat, x = xn := ⟨x.toNat, by omega⟩
        obtain ⟨j2, hj2⟩ : ∃ j2, j2 = xn % p.L.xs.length := ⟨_, rfl⟩
        have hj2l : j2 < p.L.xs.length := by rw [hj2]; exact Nat.mod_lt _ (by have := HL1.out; omega)
        obtain ⟨lb, lo, el, d0⟩ := (HG.out.l.2.2.1.mono hbr).int j2 hj2l
        obtain ⟨y, hy⟩ : ∃ y, y = p.L.xs[j2] := ⟨_, rfl⟩
        have hym : Hid (y ∈ p.L.xs) := Lib.hid (by rw [hy]; exact List.getElem_mem hj2l)
        rw [← hy] at d0
        have r1 : (k : Int).tmod cl.length = j1 := by rw [hj1]; exact tmod_nat k cl.length
        have r2 : (xn : Int).tmod p.L.xs.length = j2 := by rw [hj2]; exact tmod_nat xn p.L.xs.length
        have x1 : IntKind.i64.wrap (j1 : Int) = j1 := IntWalk.i64_in _ (by have := HN2.out; have hjk : j1 ≤ k := hj1 ▸ Nat.mod_le _ _; omega)
        have x2 : IntKind.i64.wrap (j2 : Int) = j2 := IntWalk.i64_in _ (by have := HL1.out; omega)
        have x3 : IntKind.i64.wrap (xn : Int) = xn := IntWalk.i64_in _ (by omega)
        have x4 : IntKind.i64.wrap ((k : Int) + 1) = k + 1 := IntWalk.i64_in _ (by have := HN2.out; omega)
        have z1 : ¬ (cl.length : Int) = 0 := by have := HC0.out; omega
        have z2 : ¬ cl.length = 0 := by have := HC0.out; omega
        have z3 : ¬ (p.L.xs.length : Int) = 0 := by have := HL1.out; omega
        have z4 : ¬ p.L.xs.length = 0 := by have := HL1.out; omega
        have i2 : (0 : Int) ≤ j1 := by omega
        have i3 : (j1 : Int) < cl.length := by omega
        have i4 : (0 : Int) ≤ j2 := by omega
        have i5 : (j2 : Int) < p.L.xs.length := by omega
        have i6 : (0 : Int) ≤ k := by omega
        have i7 : (k : Int) < p.I.xs.length := by omega
        have c4o := cel_lt c4 hb
        rw [el] at c4o
        have hko : k < os.length := by have := hol.out; omega
        have hvk : wo.cell? ⟨w11.heap.size, k, none⟩ = some (.int .i64 os[k]) := by
          have := Own.cellAt' (enc := eInt) (fun _ => rfl) hO.out k 0 hko (by simp)
          simpa using this
        have hfk := hO.out.free k
        obtain ⟨ok, hok⟩ : ∃ ok, ok = os[k] := ⟨_, rfl⟩
        rw [← hok] at hvk
        simp only [Nat.mul_one, Nat.add_zero] at hcc0
        subst ea
        have hst := Own.store (enc := eInt) (fun _ => rfl) hO.out k 0 hko (by simp) (.int .i64 y) y rfl
        rw [Nat.mul_one, Nat.add_zero] at hst
        have HST := Lib.hid hst
        have HKO := Lib.hid hko
        have HKN := Lib.hid hkn
        clear hx hy hj1 hj2 hj1l hj2l hcc hxb el hok hko hst hkn HOW
        go_upto_region 27 with (fail)
        go_region
        have hb2 : Below w11.heap.size w11 (wo.setCell ⟨w11.heap.size, k, none⟩ (.int .i64 y)).drew := (hb.setCell (p := ⟨w11.heap.size, k, none⟩) (Nat.le_refl _) _).drew
        have hO2 := Lib.hid (HST.out.below (Below.drew (Below.refl _ (wo.setCell ⟨w11.heap.size, k, none⟩ (.int .i64 y)))))
        clear hb hO hvk hfk c4o hcc0 d0
        go_wp2_with fail
        go_roundw
        case measure =>
          have := HKN.out
          simp [RowKit.intOf, x4]; omega
        case rel => exact ⟨k + 1, os.set k y, HKN.out, by go_num, hb2, hO2, Lib.hid (by rw [List.length_set]; exact hol.out), Lib.hid (fun j hj => by
          rw [getD_setI os k j y HKO.out]
          by_cases hjk : j = k
          · rw [if_pos hjk]; exact hym.out
          · rw [if_neg hjk]; exact hom.out j (by omega))⟩
      · have i1 : decide (k < p.I.xs.length) = false := decide_eq_false hkn
        have hmem : ∀ r ∈ os, r ∈ p.L.xs := by
          intro r hr
          obtain ⟨j, hj, rfl⟩ := List.mem_iff_getElem.1 hr
          have h := hom.out j (by have := hol.out; omega)
          rwa [List.getD, List.getElem?_eq_getElem hj, Option.getD_some] at h
        have HM := Lib.hid hmem
        have hIs : IsInts wo (.slice (some ⟨w11.heap.size, 0, none⟩) p.I.xs.length p.I.xs.length) os := hO.out.isL (fun _ => rfl)
        have hct := pcost_any p os _ wo (rdPl.mono HG.out hbr) hIs
        simp only [vPl, vSl] at hct
        have c0 := cel_lt c0 hb
        have c1 := cel_lt c1 hb
        have c2 := cel_lt c2 hb
        have c3 := cel_lt c3 hb
        have c4 := cel_lt c4 hb
        have c5 := cel_lt c5 hb
        have c6 := cel_lt c6 hb
        clear hmem hIs hb hkn hO hom HOW hb12 hlt12
        go_wp2_with fail
        refine Calls.to hct ?_
        rintro e w13 ⟨v, rfl, hv⟩ hb5
        have hbr := hbr.trans (hb5.mono hbr.size)
        have c0 := cel_lt c0 hb5
        have c1 := cel_lt c1 hb5
        have c2 := cel_lt c2 hb5
        have c3 := cel_lt c3 hb5
        have c4 := cel_lt c4 hb5
        have c5 := cel_lt c5 hb5
        have c6 := cel_lt c6 hb5
        clear hct hb5 i1
        obtain ⟨d2, u2, e2, rfl, hd1, hd2⟩ := cost_of HK.out hol.out HM.out hv
        obtain ⟨y7, hy7⟩ : ∃ y, (e2 == 0) = y := ⟨_, rfl⟩
        obtain ⟨y9, hy9⟩ : ∃ y, decide (d2 < b) = y := ⟨_, rfl⟩
        rw [hy7, hy9] at hd1
        have HD2 := Lib.hid hd2
        clear hv hd2
        cases y7
        · clear hy9 hd1
          have hbd2 := cbound_any p vl _ w13 (rdPl.mono HG.out hbr) (HRW.out.mono hbr) (by have := HVL.out; omega)
          simp only [vPl, vSl] at hbd2
          go_wp2_with fail
          refine Calls.to hbd2 ?_
          rintro e w14 ⟨v, rfl, hv⟩ hb6
          have hbr := hbr.trans (hb6.mono hbr.size)
          obtain ⟨b3, e3, rfl, h5, h6⟩ := bound_of HK.out hv
          obtain ⟨y5, hy5⟩ : ∃ y, (e3 == 0) = y := ⟨_, rfl⟩
          obtain ⟨y6, hy6⟩ : ∃ y, decide (b < b3) = y := ⟨_, rfl⟩
          rw [hy5, hy6] at h5
          have H8 : Hid (y5 = true → (e2 == 0 && decide (d2 < b3)) = false) := Lib.hid (fun h => HD2.out _ _ (h6 (by rw [h] at hy5; simpa using hy5)))
          clear hv h6 c0 c1 c2 c3 c4 c5 c6 hbd2 hb6
          cases y5
          · clear h5 hy6
            go_wp2_with fail
            go_ret
            exact ⟨rfl, hbr⟩
          · cases y6
            · have h8 := H8.out rfl
              obtain ⟨y8, hy8⟩ : ∃ y, decide (d2 < b3) = y := ⟨_, rfl⟩
              rw [hy7, hy8] at h8
              clear h5
              cases y8
              · clear h8
                go_wp2_with fail
                go_ret
                exact ⟨rfl, hbr⟩
              · clear h8
                (go_wp2_with fail; go_ret; exact ⟨rfl, hbr⟩)
            · cases h5
        · cases y9
          · clear hd1
            have hbd2 := cbound_any p vl _ w13 (rdPl.mono HG.out hbr) (HRW.out.mono hbr) (by have := HVL.out; omega)
            simp only [vPl, vSl] at hbd2
            go_wp2_with fail
            refine Calls.to hbd2 ?_
            rintro e w14 ⟨v, rfl, hv⟩ hb6
            have hbr := hbr.trans (hb6.mono hbr.size)
            obtain ⟨b3, e3, rfl, h5, h6⟩ := bound_of HK.out hv
            obtain ⟨y5, hy5⟩ : ∃ y, (e3 == 0) = y := ⟨_, rfl⟩
            obtain ⟨y6, hy6⟩ : ∃ y, decide (b < b3) = y := ⟨_, rfl⟩
            rw [hy5, hy6] at h5
            have H8 : Hid (y5 = true → (e2 == 0 && decide (d2 < b3)) = false) := Lib.hid (fun h => HD2.out _ _ (h6 (by rw [h] at hy5; simpa using hy5)))
            clear hv h6 c0 c1 c2 c3 c4 c5 c6 hbd2 hb6
            cases y5
            · clear h5 hy6
              go_wp2_with fail
              go_ret
              exact ⟨rfl, hbr⟩
            · cases y6
              · have h8 := H8.out rfl
                obtain ⟨y8, hy8⟩ : ∃ y, decide (d2 < b3) = y := ⟨_, rfl⟩
                rw [hy7, hy8] at h8
                clear h5
                cases y8
                · clear h8
                  go_wp2_with fail
                  go_ret
                  exact ⟨rfl, hbr⟩
                · skip
                  cases h8
              · cases h5
          · cases hd1
  · cases y2
    · clear hde
      cases b6
      rotate_left
      · have z := HB6.out.2.1 rfl
        clear c0 c1 c2 c3 c4 c5 c6
        go_wp2_with fail
        go_ret
        exact ⟨rfl, hbw⟩
      have hc0 := HB6.out.1 rfl
      have z := HB6.out.2.2 rfl
      have hnI : p.I.xs.length < 2147483648 := by omega
      have HN2 := Lib.hid hn2
      have HL1 := Lib.hid hl1
      have HC0 := Lib.hid hc0
      clear hn2 hl1 hc0
      go_wp2_with (refine wpList_mk _ rfl _ _ 28 rfl w11.heap.size 3 _ 8 undInts infInt eInt 0 rfl rfl _ _ p.I.xs.length rfl rfl rfl rfl hnI (by omega) (Nat.le_refl _) ?_; intro w12 hown hb12 hlt12)
      have HOW := Lib.hid hown
      clear hown hnI l1
      go_wp2_with fail
      go_loopw [203] (fun s203 wr => ∃ (k : Nat) (os : List Int), k ≤ p.I.xs.length ∧ s203 = .int .i64 k ∧ Below w11.heap.size w11 wr ∧ Hid (Own w11.heap.size 3 eInt 1 wr (.slice (some ⟨w11.heap.size, 0, none⟩) p.I.xs.length p.I.xs.length) os) ∧ Hid (os.length = p.I.xs.length) ∧ Hid (∀ j, j < k → os.getD j 0 ∈ p.L.xs)) (fun s203 _ => p.I.xs.length - (RowKit.intOf s203).toNat)
      case atStart => exact ⟨0, _, Nat.zero_le _, rfl, hb12, HOW, Lib.hid (by simp), Lib.hid (fun j hj => absurd hj (Nat.not_lt_zero _))⟩
      case round =>
        obtain ⟨k, os, hk, rfl, hb, hO, hol, hom⟩ := hrel
        obtain ⟨wo, hwo⟩ : ∃ wo, wo = wr := ⟨_, rfl⟩
        subst hwo
        have hbr := hbw.trans (hb.mono hbw.size)
        by_cases hkn : k < p.I.xs.length
        · have i1 : decide (k < p.I.xs.length) = true := decide_eq_true hkn
          obtain ⟨j1, hj1⟩ : ∃ j1, j1 = k % cl.length := ⟨_, rfl⟩
          have hj1l : j1 < cl.length := by rw [hj1]; exact Nat.mod_lt _ HC0.out
          obtain ⟨cb, co, ea, hcc⟩ := (HCH.out.2.2.1.mono hbr) j1 hj1l
          have hcc0 := hcc 0 (by omega)
          have hxb := u8_bd (HCH.out.2.2.2 _ (List.getElem_mem hj1l))
          obtain ⟨x, hx⟩ : ∃ x, x = cl[j1] := ⟨_, rfl⟩
          rw [← hx] at hcc0 hxb
          obtain ⟨xn, rfl⟩ : ∃ xn : Nat, x = xn := ⟨x.toNat, by omega⟩
          obtain ⟨j2, hj2⟩ : ∃ j2, j2 = xn % p.L.xs.length := ⟨_, rfl⟩
          have hj2l : j2 < p.L.xs.length := by rw [hj2]; exact Nat.mod_lt _ (by have := HL1.out; omega)
          obtain ⟨lb, lo, el, d0⟩ := (HG.out.l.2.2.1.mono hbr).int j2 hj2l
          obtain ⟨y, hy⟩ : ∃ y, y = p.L.xs[j2] := ⟨_, rfl⟩
          have hym : Hid (y ∈ p.L.xs) := Lib.hid (by rw [hy]; exact List.getElem_mem hj2l)
          rw [← hy] at d0
          have r1 : (k : Int).tmod cl.length = j1 := by rw [hj1]; exact tmod_nat k cl.length
          have r2 : (xn : Int).tmod p.L.xs.length = j2 := by rw [hj2]; exact tmod_nat xn p.L.xs.length
          have x1 : IntKind.i64.wrap (j1 : Int) = j1 := IntWalk.i64_in _ (by have := HN2.out; have hjk : j1 ≤ k := hj1 ▸ Nat.mod_le _ _; omega)
          have x2 : IntKind.i64.wrap (j2 : Int) = j2 := IntWalk.i64_in _ (by have := HL1.out; omega)
          have x3 : IntKind.i64.wrap (xn : Int) = xn := IntWalk.i64_in _ (by omega)
          have x4 : IntKind.i64.wrap ((k : Int) + 1) = k + 1 := IntWalk.i64_in _ (by have := HN2.out; omega)
          have z1 : ¬ (cl.length : Int) = 0 := by have := HC0.out; omega
          have z2 : ¬ cl.length = 0 := by have := HC0.out; omega
          have z3 : ¬ (p.L.xs.length : Int) = 0 := by have := HL1.out; omega
          have z4 : ¬ p.L.xs.length = 0 := by have := HL1.out; omega
          have i2 : (0 : Int) ≤ j1 := by omega
          have i3 : (j1 : Int) < cl.length := by omega
          have i4 : (0 : Int) ≤ j2 := by omega
          have i5 : (j2 : Int) < p.L.xs.length := by omega
          have i6 : (0 : Int) ≤ k := by omega
          have i7 : (k : Int) < p.I.xs.length := by omega
          have c4o := cel_lt c4 hb
          rw [el] at c4o
          have hko : k < os.length := by have := hol.out; omega
          have hvk : wo.cell? ⟨w11.heap.size, k, none⟩ = some (.int .i64 os[k]) := by
            have := Own.cellAt' (enc := eInt) (fun _ => rfl) hO.out k 0 hko (by simp)
            simpa using this
          have hfk := hO.out.free k
          obtain ⟨ok, hok⟩ : ∃ ok, ok = os[k] := ⟨_, rfl⟩
          rw [← hok] at hvk
          simp only [Nat.mul_one, Nat.add_zero] at hcc0
          subst ea
          have hst := Own.store (enc := eInt) (fun _ => rfl) hO.out k 0 hko (by simp) (.int .i64 y) y rfl
          rw [Nat.mul_one, Nat.add_zero] at hst
          have HST := Lib.hid hst
          have HKO := Lib.hid hko
          have HKN := Lib.hid hkn
          clear hx hy hj1 hj2 hj1l hj2l hcc hxb el hok hko hst hkn HOW
          go_upto_region 27 with (fail)
          go_region
          have hb2 : Below w11.heap.size w11 (wo.setCell ⟨w11.heap.size, k, none⟩ (.int .i64 y)).drew := (hb.setCell (p := ⟨w11.heap.size, k, none⟩) (Nat.le_refl _) _).drew
          have hO2 := Lib.hid (HST.out.below (Below.drew (Below.refl _ (wo.setCell ⟨w11.heap.size, k, none⟩ (.int .i64 y)))))
          clear hb hO hvk hfk c4o hcc0 d0
          go_wp2_with fail
          go_roundw
          case measure =>
            have := HKN.out
            simp [RowKit.intOf, x4]; omega
          case rel => exact ⟨k + 1, os.set k y, HKN.out, by go_num, hb2, hO2, Lib.hid (by rw [List.length_set]; exact hol.out), Lib.hid (fun j hj => by
            rw [getD_setI os k j y HKO.out]
            by_cases hjk : j = k
            · rw [if_pos hjk]; exact hym.out
            · rw [if_neg hjk]; exact hom.out j (by omega))⟩
        · have i1 : decide (k < p.I.xs.length) = false := decide_eq_false hkn
          have hmem : ∀ r ∈ os, r ∈ p.L.xs := by
            intro r hr
            obtain ⟨j, hj, rfl⟩ := List.mem_iff_getElem.1 hr
            have h := hom.out j (by have := hol.out; omega)
            rwa [List.getD, List.getElem?_eq_getElem hj, Option.getD_some] at h
          have HM := Lib.hid hmem
          have hIs : IsInts wo (.slice (some ⟨w11.heap.size, 0, none⟩) p.I.xs.length p.I.xs.length) os := hO.out.isL (fun _ => rfl)
          have hct := pcost_any p os _ wo (rdPl.mono HG.out hbr) hIs
          simp only [vPl, vSl] at hct
          have c0 := cel_lt c0 hb
          have c1 := cel_lt c1 hb
          have c2 := cel_lt c2 hb
          have c3 := cel_lt c3 hb
          have c4 := cel_lt c4 hb
          have c5 := cel_lt c5 hb
          have c6 := cel_lt c6 hb
          clear hmem hIs hb hkn hO hom HOW hb12 hlt12
          go_wp2_with fail
          refine Calls.to hct ?_
          rintro e w13 ⟨v, rfl, hv⟩ hb5
          have hbr := hbr.trans (hb5.mono hbr.size)
          have c0 := cel_lt c0 hb5
          have c1 := cel_lt c1 hb5
          have c2 := cel_lt c2 hb5
          have c3 := cel_lt c3 hb5
          have c4 := cel_lt c4 hb5
          have c5 := cel_lt c5 hb5
          have c6 := cel_lt c6 hb5
          clear hct hb5 i1
          obtain ⟨d2, u2, e2, rfl, hd1, hd2⟩ := cost_of HK.out hol.out HM.out hv
          obtain ⟨y7, hy7⟩ : ∃ y, (e2 == 0) = y := ⟨_, rfl⟩
          obtain ⟨y9, hy9⟩ : ∃ y, decide (d2 < b) = y := ⟨_, rfl⟩
          rw [hy7, hy9] at hd1
          have HD2 := Lib.hid hd2
          clear hv hd2
          cases y7
          · clear hy9 hd1
            have hbd2 := cbound_any p vl _ w13 (rdPl.mono HG.out hbr) (HRW.out.mono hbr) (by have := HVL.out; omega)
            simp only [vPl, vSl] at hbd2
            go_wp2_with fail
            refine Calls.to hbd2 ?_
            rintro e w14 ⟨v, rfl, hv⟩ hb6
            have hbr := hbr.trans (hb6.mono hbr.size)
            obtain ⟨b3, e3, rfl, h5, h6⟩ := bound_of HK.out hv
            obtain ⟨y5, hy5⟩ : ∃ y, (e3 == 0) = y := ⟨_, rfl⟩
            obtain ⟨y6, hy6⟩ : ∃ y, decide (b < b3) = y := ⟨_, rfl⟩
            rw [hy5, hy6] at h5
            have H8 : Hid (y5 = true → (e2 == 0 && decide (d2 < b3)) = false) := Lib.hid (fun h => HD2.out _ _ (h6 (by rw [h] at hy5; simpa using hy5)))
            clear hv h6 c0 c1 c2 c3 c4 c5 c6 hbd2 hb6
            cases y5
            · clear h5 hy6
              go_wp2_with fail
              go_ret
              exact ⟨rfl, hbr⟩
            · cases y6
              · have h8 := H8.out rfl
                obtain ⟨y8, hy8⟩ : ∃ y, decide (d2 < b3) = y := ⟨_, rfl⟩
                rw [hy7, hy8] at h8
                clear h5
                cases y8
                · clear h8
                  go_wp2_with fail
                  go_ret
                  exact ⟨rfl, hbr⟩
                · clear h8
                  (go_wp2_with fail; go_ret; exact ⟨rfl, hbr⟩)
              · cases h5
          · cases y9
            · clear hd1
              have hbd2 := cbound_any p vl _ w13 (rdPl.mono HG.out hbr) (HRW.out.mono hbr) (by have := HVL.out; omega)
              simp only [vPl, vSl] at hbd2
              go_wp2_with fail
              refine Calls.to hbd2 ?_
              rintro e w14 ⟨v, rfl, hv⟩ hb6
              have hbr := hbr.trans (hb6.mono hbr.size)
              obtain ⟨b3, e3, rfl, h5, h6⟩ := bound_of HK.out hv
              obtain ⟨y5, hy5⟩ : ∃ y, (e3 == 0) = y := ⟨_, rfl⟩
              obtain ⟨y6, hy6⟩ : ∃ y, decide (b < b3) = y := ⟨_, rfl⟩
              rw [hy5, hy6] at h5
              have H8 : Hid (y5 = true → (e2 == 0 && decide (d2 < b3)) = false) := Lib.hid (fun h => HD2.out _ _ (h6 (by rw [h] at hy5; simpa using hy5)))
              clear hv h6 c0 c1 c2 c3 c4 c5 c6 hbd2 hb6
              cases y5
              · clear h5 hy6
                go_wp2_with fail
                go_ret
                exact ⟨rfl, hbr⟩
              · cases y6
                · have h8 := H8.out rfl
                  obtain ⟨y8, hy8⟩ : ∃ y, decide (d2 < b3) = y := ⟨_, rfl⟩
                  rw [hy7, hy8] at h8
                  clear h5
                  cases y8
                  · clear h8
                    go_wp2_with fail
                    go_ret
                    exact ⟨rfl, hbr⟩
                  · skip
                    cases h8
                · cases h5
            · cases hd1
    · cases hde

end Go.Proofs.YtoiakijmbghhlaaGreat.topPlanned
