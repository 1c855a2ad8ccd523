/- A slice of texts opened. -/
import Derived.Test.YtnckainiphlndaaDoorJnCod
namespace Go.Proofs.YtnckainiphlndaaDoor
set_option linter.unusedVariables false
set_option linter.unusedSimpArgs false
open Go.RowKit
theorem opens_texts : Opens Tryd.prog 31 (cL cS) := opens_L Tryd.underlying31 (by kernel_rfl) (opens_S Tryd.underlying9 (by kernel_rfl)) (by decide) (of_decide_eq_true (by kernel_rfl))
end Go.Proofs.YtnckainiphlndaaDoor
