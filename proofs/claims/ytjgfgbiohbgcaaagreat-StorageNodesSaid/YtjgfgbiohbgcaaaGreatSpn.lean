/- A node and a table as arguments. Conditions: none. -/
import Derived.Test.YtjgfgbiohbgcaaaGreatNet
namespace Go.Proofs.YtjgfgbiohbgcaaaGreat
open Go.RowKit
set_option linter.unusedVariables false
set_option linter.unusedSimpArgs false

set_option maxRecDepth 100000 in
theorem openNd {H : Type} {en : TypeId × Value → H} {W : World} {v : Value} {d : DataW H} {ps : List MemPlace} {r : Reach} {b0 : Nat} (hv : Value.okWide Tryz.prog W r b0 27 v) (h : DataW.Trod en Tryz.prog W 0 (fun _ => true) true 27 v d ps) :
    ∃ n : Nd, v = vNd n ∧ gNd W n := arg_struct (fs := flds Tryz.prog 27) rdNd (by kernel_rfl) hv h
set_option maxRecDepth 100000 in
theorem openTab {H : Type} {en : TypeId × Value → H} {W : World} {v : Value} {d : DataW H} {ps : List MemPlace} {r : Reach} {b0 : Nat} (hv : Value.okWide Tryz.prog W r b0 25 v) (h : DataW.Trod en Tryz.prog W 0 (fun _ => true) true 25 v d ps) :
    ∃ s : Sl Kn, v = vSl s ∧ gTab W s := arg_slice rdKn (by decide) (by kernel_rfl) (by kernel_rfl) hv h

end Go.Proofs.YtjgfgbiohbgcaaaGreat
