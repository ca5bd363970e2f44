/- Pairs of numbers in memory. Conditions: none. -/
import Derived.Test.YtlcfnbnpkcjjlaaGreatSta
namespace Go.Proofs.YtlcfnbnpkcjjlaaGreat
open Go.RowKit
set_option linter.unusedVariables false
set_option linter.unusedSimpArgs false

abbrev ePr (p : Int × Int) : List Value := [.int .i64 p.1, .int .i64 p.2]
theorem ePr_len (p : Int × Int) : (ePr p).length = 2 := rfl
theorem undPrs : Tryz.prog.underlying 67 = some (.slice 73) := by kernel_rfl
theorem infPr : (Tryz.prog.info? 73).map (fun i => (i.zero, i.size, i.bytes)) = some (some (.agg #[.int .i64 0, .int .i64 0]), 2, 16) := by kernel_rfl
abbrev vPr (p : Int × Int) : Value := .agg #[.int .i64 p.1, .int .i64 p.2]
theorem IsC.prs {w : World} {a : Option Addr} {xs : List (Int × Int)} (h : IsC ePr 2 w a xs) (i : Nat) (hi : i < xs.length) :
    ∃ b off, a = some ⟨b, off, none⟩ ∧ w.cell? ⟨b, off + i * 2, none⟩ = some (.int .i64 xs[i].1) ∧ w.cell? ⟨b, off + i * 2 + 1, none⟩ = some (.int .i64 xs[i].2) := by
  obtain ⟨b, off, e, hc⟩ := h i hi
  refine ⟨b, off, e, ?_, ?_⟩
  · simpa using hc 0 (by omega)
  · simpa using hc 1 (by omega)

end Go.Proofs.YtlcfnbnpkcjjlaaGreat
