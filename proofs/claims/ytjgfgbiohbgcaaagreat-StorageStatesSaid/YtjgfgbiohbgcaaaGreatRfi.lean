/- Filling a node: the reference's Fill. Conditions: the arguments read as data, network and state are right. -/
import Derived.Test.YtjgfgbiohbgcaaaGreatRcq
import Derived.Test.YtjgfgbiohbgcaaaGreatNy
import Derived.Test.YtjgfgbiohbgcaaaGreatMtl
namespace Go.Proofs.YtjgfgbiohbgcaaaGreat
open Go.RowKit
set_option linter.unusedVariables false
set_option linter.unusedSimpArgs false

theorem Copied.mono {w W W' : World} {s : St} {uV uP uS uO : Value} {lV hV lP hP lS hS lO hO : Nat} (h : Copied w W s uV uP uS uO lV hV lP hP lS hS lO hO) (hb : Below W.heap.size W W') : Copied w W' s uV uP uS uO lV hV lP hP lS hS lO hO :=
  ⟨h.V.mono hb, h.P.mono hb, h.S.mono hb, h.O.mono hb, h.b0, h.b1, h.b2, h.b3, h.b4, h.b5, h.b6, h.b7, Nat.le_trans h.b8 hb.size⟩
theorem RowN.first {W : World} {lo hi : Nat} {e : TypeId} {v : Value} {xs : List Int} (h : RowN W lo hi e eInt 1 v xs) (k : Nat) (hk : k < xs.length) :
    ∃ g c, v = .slice (some ⟨g, 0, none⟩) xs.length c ∧ lo ≤ g ∧ g < hi ∧ (∀ j, W.frozen? ⟨g, j, none⟩ = false) := by
  rcases h with ⟨rfl, _⟩ | ⟨_, h1, _, h3⟩
  · simp at hk
  · obtain ⟨g, c, rfl, _, hf⟩ := h1.first k hk
    have := h3 g rfl
    exact ⟨g, c, rfl, this.1, this.2, hf⟩
theorem RowN.int1 {W : World} {lo hi : Nat} {e : TypeId} {g n c k : Nat} {xs : List Int} (h : RowN W lo hi e eInt 1 (.slice (some ⟨g, 0, none⟩) n c) xs) (hk : k < xs.length) {x : Int} (hx : xs[k] = x) : W.cell? ⟨g, k, none⟩ = some (.int .i64 x) := by
  rcases h with ⟨rfl, _⟩ | ⟨_, h1, _, _⟩
  · simp at hk
  · exact h1.int1 hk hx
theorem RowN.put1 {W : World} {lo hi : Nat} {e : TypeId} {g n c k : Nat} {xs : List Int} (h : RowN W lo hi e eInt 1 (.slice (some ⟨g, 0, none⟩) n c) xs) (hk : k < xs.length) (y : Int) : RowN (W.setCell ⟨g, k, none⟩ (.int .i64 y)) lo hi e eInt 1 (.slice (some ⟨g, 0, none⟩) n c) (xs.set k y) := by
  rcases h with ⟨rfl, _⟩ | ⟨h0, h1, h2, h3⟩
  · simp at hk
  · exact .inr ⟨by simpa using h0, h1.put1 hk y, by simpa [World.setCell] using h2, h3⟩
def stOf (vs ps ss : List Int) (os : List Bool) : St := ⟨⟨none, 0, vs⟩, ⟨none, 0, ps⟩, ⟨none, 0, ss⟩, ⟨none, 0, os⟩⟩
theorem Copied.of {w W : World} {s : St} {uV uP uS uO : Value} {lV hV lP hP lS hS lO hO : Nat} (h : Copied w W s uV uP uS uO lV hV lP hP lS hS lO hO) : Copied w W (stOf s.V.xs s.P.xs s.S.xs s.O.xs) uV uP uS uO lV hV lP hP lS hS lO hO :=
  ⟨h.V, h.P, h.S, h.O, h.b0, h.b1, h.b2, h.b3, h.b4, h.b5, h.b6, h.b7, h.b8⟩
theorem Copied.storeV {w W : World} {vs ps ss : List Int} {os : List Bool} {g n c : Nat} {uP uS uO : Value} {lV hV lP hP lS hS lO hO k : Nat} (h : Copied w W (stOf vs ps ss os) (.slice (some ⟨g, 0, none⟩) n c) uP uS uO lV hV lP hP lS hS lO hO) (hg : g < hV) (hk : k < vs.length) (y : Int) :
    Copied w (W.setCell ⟨g, k, none⟩ (.int .i64 y)) (stOf (vs.set k y) ps ss os) (.slice (some ⟨g, 0, none⟩) n c) uP uS uO lV hV lP hP lS hS lO hO := by
  have b2 := h.b2; have b3 := h.b3; have b4 := h.b4; have b5 := h.b5; have b6 := h.b6
  exact ⟨RowN.put1 (xs := vs) h.V hk y, h.P.set _ _ (.inl (show g < lP by omega)), h.S.set _ _ (.inl (show g < lS by omega)), h.O.set _ _ (.inl (show g < lO by omega)), h.b0, h.b1, h.b2, h.b3, h.b4, h.b5, h.b6, h.b7, by simpa [World.setCell] using h.b8⟩
theorem Copied.storeP {w W : World} {vs ps ss : List Int} {os : List Bool} {g n c : Nat} {uV uS uO : Value} {lV hV lP hP lS hS lO hO k : Nat} (h : Copied w W (stOf vs ps ss os) uV (.slice (some ⟨g, 0, none⟩) n c) uS uO lV hV lP hP lS hS lO hO) (hl : lP ≤ g) (hg : g < hP) (hk : k < ps.length) (y : Int) :
    Copied w (W.setCell ⟨g, k, none⟩ (.int .i64 y)) (stOf vs (ps.set k y) ss os) uV (.slice (some ⟨g, 0, none⟩) n c) uS uO lV hV lP hP lS hS lO hO := by
  have b2 := h.b2; have b3 := h.b3; have b4 := h.b4; have b5 := h.b5; have b6 := h.b6
  exact ⟨h.V.set _ _ (.inr (show hV ≤ g by omega)), RowN.put1 (xs := ps) h.P hk y, h.S.set _ _ (.inl (show g < lS by omega)), h.O.set _ _ (.inl (show g < lO by omega)), h.b0, h.b1, h.b2, h.b3, h.b4, h.b5, h.b6, h.b7, by simpa [World.setCell] using h.b8⟩
theorem copied_ret {w W : World} {vs ps ss : List Int} {os : List Bool} {uV uP uS uO : Value} {lV hV lP hP lS hS lO hO : Nat} {E : Int} {R : St4} (h : Copied w W (stOf vs ps ss os) uV uP uS uO lV hV lP hP lS hS lO hO)
    (gV : ∀ x ∈ vs, gI64 W x) (gP : ∀ x ∈ ps, gI64 W x) (gS : ∀ x ∈ ss, gI64 W x) (hR : (vs, ps, ss, os) = R) :
    ∃ s : St, Ending.returned (.tuple #[.agg #[uV, uP, uS, uO], .int .i64 E]) = .returned (.tuple #[vSt s, .int .i64 E]) ∧ gSt W s ∧ stL s = R := by
  obtain ⟨s0, rfl, e0, h0⟩ := h.V.gSl (good := gI64) (fun _ => rfl) gV
  obtain ⟨s1, rfl, e1, h1⟩ := h.P.gSl (good := gI64) (fun _ => rfl) gP
  obtain ⟨s2, rfl, e2, h2⟩ := h.S.gSl (good := gI64) (fun _ => rfl) gS
  obtain ⟨s3, rfl, e3, h3⟩ := h.O.gSl (good := gTrue) (fun _ => rfl) (fun _ _ => trivial)
  exact ⟨⟨s0, s1, s2, s3⟩, rfl, ⟨h0, h1, h2, h3⟩, by rw [← hR]; simp only [stL, e0, e1, e2, e3, stOf]⟩

end Go.Proofs.YtjgfgbiohbgcaaaGreat
