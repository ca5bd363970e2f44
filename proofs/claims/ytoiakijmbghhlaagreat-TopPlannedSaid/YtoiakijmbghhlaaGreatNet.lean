/- Knots, nodes, links, networks as plain data: how an argument of these types reads; IndexFunc and ContainsFunc at them. Conditions: none. -/
import Derived.Test.YtoiakijmbghhlaaGreatSta
namespace Go.Proofs.YtoiakijmbghhlaaGreat
open Go.RowKit
set_option linter.unusedVariables false
set_option linter.unusedSimpArgs false

structure Kn where
  X : Int
  Y : Int
deriving DecidableEq, Repr
instance : Inhabited Kn := ⟨⟨0, 0⟩⟩
abbrev eKn (k : Kn) : List Value := [.int .i64 k.X, .int .i64 k.Y]
abbrev vKn (k : Kn) : Value := .agg #[.int .i64 k.X, .int .i64 k.Y]
theorem eKn_len (k : Kn) : (eKn k).length = 2 := rfl
def gKn (W : World) (k : Kn) : Prop := gI64 W k.X ∧ gI64 W k.Y
theorem rdKn : Rdr Tryz.prog 100 eKn 2 gKn := by
  refine ⟨by kernel_rfl, fun _ => rfl, ?_, ?_⟩
  · intro H e W fuel cs x h
    obtain ⟨hl, hf⟩ := rd_fields (by kernel_rfl) h
    rw [show Tryz.prog.cellsOf 100 = 2 from by kernel_rfl] at hl
    obtain ⟨a0, e0, g0⟩ := hf 0 3 0 (by kernel_rfl) rdI
    obtain ⟨a1, e1, g1⟩ := hf 1 3 1 (by kernel_rfl) rdI
    have hj := cutAt_join cs [1, 1] 0 (by rw [hl]; rfl)
    simp only [cutAt, Nat.zero_add, Nat.reduceAdd] at hj
    rw [e0, e1] at hj
    exact ⟨⟨a0, a1⟩, by simpa using hj.symm, g0, g1⟩
  · intro W W' a h hb
    exact h

abbrev gTab : World → Sl Kn → Prop := gSl eKn 2 gKn
abbrev IsKns (w : World) (v : Value) (xs : List Kn) : Prop := IsL eKn 2 w v xs
theorem rdTab : Rdr Tryz.prog 46 (fun s : Sl Kn => [vSl s]) 1 gTab := rdSlice rdKn (by decide) (by kernel_rfl) (by kernel_rfl)
theorem rdPt : Rdr Tryz.prog 44 eKn 2 gKn := by
  refine ⟨by kernel_rfl, fun _ => rfl, ?_, ?_⟩
  · intro H e W fuel cs x h
    obtain ⟨hl, hf⟩ := rd_fields (by kernel_rfl) h
    rw [show Tryz.prog.cellsOf 44 = 2 from by kernel_rfl] at hl
    obtain ⟨a0, e0, g0⟩ := hf 0 3 0 (by kernel_rfl) rdI
    obtain ⟨a1, e1, g1⟩ := hf 1 3 1 (by kernel_rfl) rdI
    have hj := cutAt_join cs [1, 1] 0 (by rw [hl]; rfl)
    simp only [cutAt, Nat.zero_add, Nat.reduceAdd] at hj
    rw [e0, e1] at hj
    exact ⟨⟨a0, a1⟩, by simpa using hj.symm, g0, g1⟩
  · intro W W' a h hb
    exact h

structure Nd where
  Name : ByteArray
  Kind : Int
  AX : Int
  AY : Int
  Inv : Int
  Gr : Int
  Sh : Sl Kn
  Pro : Bool
  Res : Int

abbrev eNd (n : Nd) : List Value := [.string n.Name, .int .i64 n.Kind, .int .i64 n.AX, .int .i64 n.AY, .int .i64 n.Inv, .int .i64 n.Gr, vSl n.Sh, .bool n.Pro, .int .i64 n.Res]
abbrev vNd (n : Nd) : Value := .agg #[.string n.Name, .int .i64 n.Kind, .int .i64 n.AX, .int .i64 n.AY, .int .i64 n.Inv, .int .i64 n.Gr, vSl n.Sh, .bool n.Pro, .int .i64 n.Res]
theorem eNd_len (n : Nd) : (eNd n).length = 9 := rfl
/-- What a node that came in meets. -/
structure gNd (W : World) (n : Nd) : Prop where
  name : n.Name.size ≤ maxLen
  kind : gI64 W n.Kind
  ax : gI64 W n.AX
  ay : gI64 W n.AY
  inv : gI64 W n.Inv
  gr : gI64 W n.Gr
  sh : gTab W n.Sh
  res : gI64 W n.Res
theorem rdStr : Rdr Tryz.prog 9 (fun s : ByteArray => [.string s]) 1 (fun _ s => s.size ≤ maxLen) := rdString (by kernel_rfl) (by kernel_rfl)
theorem rdB : Rdr Tryz.prog 4 (fun b : Bool => [.bool b]) 1 (fun _ _ => True) := rdBool (by kernel_rfl) (by kernel_rfl)
theorem rdNd : Rdr Tryz.prog 48 eNd 9 gNd := by
  refine ⟨by kernel_rfl, fun _ => rfl, ?_, ?_⟩
  · intro H e W fuel cs x h
    obtain ⟨hl, hf⟩ := rd_fields (by kernel_rfl) h
    rw [show Tryz.prog.cellsOf 48 = 9 from by kernel_rfl] at hl
    obtain ⟨a0, e0, g0⟩ := hf 0 9 0 (by kernel_rfl) rdStr
    obtain ⟨a1, e1, g1⟩ := hf 1 3 1 (by kernel_rfl) rdI
    obtain ⟨a2, e2, g2⟩ := hf 2 44 2 (by kernel_rfl) rdPt
    obtain ⟨a4, e4, g4⟩ := hf 3 3 4 (by kernel_rfl) rdI
    obtain ⟨a5, e5, g5⟩ := hf 4 3 5 (by kernel_rfl) rdI
    obtain ⟨a6, e6, g6⟩ := hf 5 46 6 (by kernel_rfl) rdTab
    obtain ⟨a7, e7, g7⟩ := hf 6 4 7 (by kernel_rfl) rdB
    obtain ⟨a8, e8, g8⟩ := hf 7 3 8 (by kernel_rfl) rdI
    have hj := cutAt_join cs [1, 1, 2, 1, 1, 1, 1, 1] 0 (by rw [hl]; rfl)
    simp only [cutAt, Nat.zero_add, Nat.reduceAdd] at hj
    rw [e0, e1, e2, e4, e5, e6, e7, e8] at hj
    exact ⟨⟨a0, a1, a2.X, a2.Y, a4, a5, a6, a7, a8⟩, by simpa using hj.symm, ⟨g0, g1, g2.1, g2.2, g4, g5, g6, g8⟩⟩
  · intro W W' a h hb
    exact ⟨h.name, h.kind, h.ax, h.ay, h.inv, h.gr, rdTab.mono h.sh hb, h.res⟩

structure Lk where
  Name : ByteArray
  From : ByteArray
  To : ByteArray
  Kind : Int
  Len : Int
  Up : Int
  Down : Int
  Sec : ByteArray
  Wi : Int
  He : Int
  Cu : Sl Kn

abbrev eLk (l : Lk) : List Value := [.string l.Name, .string l.From, .string l.To, .int .i64 l.Kind, .int .i64 l.Len, .int .i64 l.Up, .int .i64 l.Down, .string l.Sec, .int .i64 l.Wi, .int .i64 l.He, vSl l.Cu]
abbrev vLk (l : Lk) : Value := .agg #[.string l.Name, .string l.From, .string l.To, .int .i64 l.Kind, .int .i64 l.Len, .int .i64 l.Up, .int .i64 l.Down, .string l.Sec, .int .i64 l.Wi, .int .i64 l.He, vSl l.Cu]
theorem eLk_len (l : Lk) : (eLk l).length = 11 := rfl
structure gLk (W : World) (l : Lk) : Prop where
  name : l.Name.size ≤ maxLen
  src : l.From.size ≤ maxLen
  dst : l.To.size ≤ maxLen
  kind : gI64 W l.Kind
  len : gI64 W l.Len
  up : gI64 W l.Up
  down : gI64 W l.Down
  sec : l.Sec.size ≤ maxLen
  wi : gI64 W l.Wi
  he : gI64 W l.He
  cu : gTab W l.Cu
theorem rdLk : Rdr Tryz.prog 61 eLk 11 gLk := by
  refine ⟨by kernel_rfl, fun _ => rfl, ?_, ?_⟩
  · intro H e W fuel cs x h
    obtain ⟨hl, hf⟩ := rd_fields (by kernel_rfl) h
    rw [show Tryz.prog.cellsOf 61 = 11 from by kernel_rfl] at hl
    obtain ⟨a0, e0, g0⟩ := hf 0 9 0 (by kernel_rfl) rdStr
    obtain ⟨a1, e1, g1⟩ := hf 1 9 1 (by kernel_rfl) rdStr
    obtain ⟨a2, e2, g2⟩ := hf 2 9 2 (by kernel_rfl) rdStr
    obtain ⟨a3, e3, g3⟩ := hf 3 3 3 (by kernel_rfl) rdI
    obtain ⟨a4, e4, g4⟩ := hf 4 3 4 (by kernel_rfl) rdI
    obtain ⟨a5, e5, g5⟩ := hf 5 3 5 (by kernel_rfl) rdI
    obtain ⟨a6, e6, g6⟩ := hf 6 3 6 (by kernel_rfl) rdI
    obtain ⟨a7, e7, g7⟩ := hf 7 9 7 (by kernel_rfl) rdStr
    obtain ⟨a8, e8, g8⟩ := hf 8 3 8 (by kernel_rfl) rdI
    obtain ⟨a9, e9, g9⟩ := hf 9 3 9 (by kernel_rfl) rdI
    obtain ⟨a10, e10, g10⟩ := hf 10 46 10 (by kernel_rfl) rdTab
    have hj := cutAt_join cs [1, 1, 1, 1, 1, 1, 1, 1, 1, 1, 1] 0 (by rw [hl]; rfl)
    simp only [cutAt, Nat.zero_add, Nat.reduceAdd] at hj
    rw [e0, e1, e2, e3, e4, e5, e6, e7, e8, e9, e10] at hj
    exact ⟨⟨a0, a1, a2, a3, a4, a5, a6, a7, a8, a9, a10⟩, by simpa using hj.symm, ⟨g0, g1, g2, g3, g4, g5, g6, g7, g8, g9, g10⟩⟩
  · intro W W' a h hb
    exact ⟨h.name, h.src, h.dst, h.kind, h.len, h.up, h.down, h.sec, h.wi, h.he, rdTab.mono h.cu hb⟩

structure Net where
  Ns : Sl Nd
  Ls : Sl Lk
abbrev eNet (n : Net) : List Value := [vSl n.Ns, vSl n.Ls]
abbrev vNet (n : Net) : Value := .agg #[vSl n.Ns, vSl n.Ls]
abbrev gNds : World → Sl Nd → Prop := gSl eNd 9 gNd
abbrev gLks : World → Sl Lk → Prop := gSl eLk 11 gLk
def gNet (W : World) (n : Net) : Prop := gNds W n.Ns ∧ gLks W n.Ls
theorem rdNds : Rdr Tryz.prog 22 (fun s : Sl Nd => [vSl s]) 1 gNds := rdSlice rdNd (by decide) (by kernel_rfl) (by kernel_rfl)
theorem rdLks : Rdr Tryz.prog 23 (fun s : Sl Lk => [vSl s]) 1 gLks := rdSlice rdLk (by decide) (by kernel_rfl) (by kernel_rfl)
theorem rdNet : Rdr Tryz.prog 25 eNet 2 gNet := by
  refine ⟨by kernel_rfl, fun _ => rfl, ?_, ?_⟩
  · intro H e W fuel cs x h
    obtain ⟨hl, hf⟩ := rd_fields (by kernel_rfl) h
    rw [show Tryz.prog.cellsOf 25 = 2 from by kernel_rfl] at hl
    obtain ⟨a0, e0, g0⟩ := hf 0 22 0 (by kernel_rfl) rdNds
    obtain ⟨a1, e1, g1⟩ := hf 1 23 1 (by kernel_rfl) rdLks
    have hj := cutAt_join cs [1, 1] 0 (by rw [hl]; rfl)
    simp only [cutAt, Nat.zero_add, Nat.reduceAdd] at hj
    rw [e0, e1] at hj
    exact ⟨⟨a0, a1⟩, by simpa using hj.symm, g0, g1⟩
  · intro W W' a h hb
    exact ⟨rdNds.mono h.1 hb, rdLks.mono h.2 hb⟩

set_option maxRecDepth 100000 in
theorem openNet {H : Type} {en : TypeId × Value → H} {W : World} {v : Value} {d : DataW H} {ps : List MemPlace} {r : Reach} {b0 : Nat} (hv : Value.okWide Tryz.prog W r b0 25 v) (h : DataW.Trod en Tryz.prog W 0 (fun _ => true) true 25 v d ps) :
    ∃ n : Net, v = vNet n ∧ gNet W n := arg_struct (fs := flds Tryz.prog 25) rdNet (by kernel_rfl) hv h
set_option maxRecDepth 100000 in
theorem openSt {H : Type} {en : TypeId × Value → H} {W : World} {v : Value} {d : DataW H} {ps : List MemPlace} {r : Reach} {b0 : Nat} (hv : Value.okWide Tryz.prog W r b0 31 v) (h : DataW.Trod en Tryz.prog W 0 (fun _ => true) true 31 v d ps) :
    ∃ s : St, v = vSt s ∧ gSt W s := arg_struct (fs := flds Tryz.prog 31) rdSt (by kernel_rfl) hv h

theorem IsC.kn {w : World} {a : Option Addr} {xs : List Kn} (h : IsC eKn 2 w a xs) (i : Nat) (hi : i < xs.length) :
    ∃ b off, a = some ⟨b, off, none⟩ ∧ w.cell? ⟨b, off + i * 2, none⟩ = some (.int .i64 xs[i].X) ∧ w.cell? ⟨b, off + i * 2 + 1, none⟩ = some (.int .i64 xs[i].Y) := by
  obtain ⟨b, off, e, hc⟩ := h i hi
  refine ⟨b, off, e, ?_, ?_⟩
  · simpa using hc 0 (by omega)
  · simpa using hc 1 (by omega)

theorem IsC.nd {w : World} {a : Option Addr} {xs : List Nd} (h : IsC eNd 9 w a xs) (i : Nat) (hi : i < xs.length) :
    ∃ b off, a = some ⟨b, off, none⟩ ∧ w.cell? ⟨b, off + i * 9, none⟩ = some (.string xs[i].Name) ∧ w.cell? ⟨b, off + i * 9 + 1, none⟩ = some (.int .i64 xs[i].Kind) ∧
      w.cell? ⟨b, off + i * 9 + 2, none⟩ = some (.int .i64 xs[i].AX) ∧ w.cell? ⟨b, off + i * 9 + 3, none⟩ = some (.int .i64 xs[i].AY) ∧ w.cell? ⟨b, off + i * 9 + 4, none⟩ = some (.int .i64 xs[i].Inv) ∧
      w.cell? ⟨b, off + i * 9 + 5, none⟩ = some (.int .i64 xs[i].Gr) ∧ w.cell? ⟨b, off + i * 9 + 6, none⟩ = some (.slice xs[i].Sh.a xs[i].Sh.xs.length xs[i].Sh.cap) ∧ w.cell? ⟨b, off + i * 9 + 7, none⟩ = some (.bool xs[i].Pro) ∧
      w.cell? ⟨b, off + i * 9 + 8, none⟩ = some (.int .i64 xs[i].Res) := by
  obtain ⟨b, off, e, hc⟩ := h i hi
  refine ⟨b, off, e, ?_, ?_, ?_, ?_, ?_, ?_, ?_, ?_, ?_⟩
  · simpa using hc 0 (by omega)
  · simpa using hc 1 (by omega)
  · simpa using hc 2 (by omega)
  · simpa using hc 3 (by omega)
  · simpa using hc 4 (by omega)
  · simpa using hc 5 (by omega)
  · simpa using hc 6 (by omega)
  · simpa using hc 7 (by omega)
  · simpa using hc 8 (by omega)

theorem IsC.lk {w : World} {a : Option Addr} {xs : List Lk} (h : IsC eLk 11 w a xs) (i : Nat) (hi : i < xs.length) :
    ∃ b off, a = some ⟨b, off, none⟩ ∧ w.cell? ⟨b, off + i * 11, none⟩ = some (.string xs[i].Name) ∧ w.cell? ⟨b, off + i * 11 + 1, none⟩ = some (.string xs[i].From) ∧
      w.cell? ⟨b, off + i * 11 + 2, none⟩ = some (.string xs[i].To) ∧ w.cell? ⟨b, off + i * 11 + 3, none⟩ = some (.int .i64 xs[i].Kind) ∧ w.cell? ⟨b, off + i * 11 + 4, none⟩ = some (.int .i64 xs[i].Len) ∧
      w.cell? ⟨b, off + i * 11 + 5, none⟩ = some (.int .i64 xs[i].Up) ∧ w.cell? ⟨b, off + i * 11 + 6, none⟩ = some (.int .i64 xs[i].Down) ∧ w.cell? ⟨b, off + i * 11 + 7, none⟩ = some (.string xs[i].Sec) ∧
      w.cell? ⟨b, off + i * 11 + 8, none⟩ = some (.int .i64 xs[i].Wi) ∧ w.cell? ⟨b, off + i * 11 + 9, none⟩ = some (.int .i64 xs[i].He) ∧ w.cell? ⟨b, off + i * 11 + 10, none⟩ = some (.slice xs[i].Cu.a xs[i].Cu.xs.length xs[i].Cu.cap) := by
  obtain ⟨b, off, e, hc⟩ := h i hi
  refine ⟨b, off, e, ?_, ?_, ?_, ?_, ?_, ?_, ?_, ?_, ?_, ?_, ?_⟩
  · simpa using hc 0 (by omega)
  · simpa using hc 1 (by omega)
  · simpa using hc 2 (by omega)
  · simpa using hc 3 (by omega)
  · simpa using hc 4 (by omega)
  · simpa using hc 5 (by omega)
  · simpa using hc 6 (by omega)
  · simpa using hc 7 (by omega)
  · simpa using hc 8 (by omega)
  · simpa using hc 9 (by omega)
  · simpa using hc 10 (by omega)

abbrev IsNds (w : World) (v : Value) (xs : List Nd) : Prop := IsL eNd 9 w v xs
abbrev IsLks (w : World) (v : Value) (xs : List Lk) : Prop := IsL eLk 11 w v xs

end Go.Proofs.YtoiakijmbghhlaaGreat
