import Derived.Test.YtopoknocfoiiaaaDoorRows
import Derived.WalkKit
import Derived.ProofKit
/-! The closed facts that speak of the program alone, proved once: the laws' closed facts lean on them. -/
namespace Go.Proofs.YtopoknocfoiiaaaDoor
set_option linter.unusedVariables false
set_option linter.unusedSimpArgs false
theorem and_t {a b : Bool} (ha : a = true) (hb : b = true) : (a && b) = true := by rw [ha, hb]; rfl
theorem cl_laid : laidOutB Tryd.pinned.checked.prog = true := by kernel_rfl
theorem cl_maps : mapsRowed Tryd.pinned.checked.prog = true := by kernel_rfl
theorem cl_stops : (Tryd.pinned.checked.prog.stops == []) = true := by kernel_rfl
theorem cl_knobs : (Tryd.pinned.checked.prog.stopKnobs == []) = true := by kernel_rfl
theorem cl_heard : Tryd.pinned.checked.prog.stopsHeard = true := by kernel_rfl
theorem cl_enter : Tryd.pinned.checked.prog.mayEnter = true := by kernel_rfl
theorem cl_lift : (Rows.planLinesRow.lifted == Tryd.pinned.checked.prog.liftsFinal) = true := by kernel_rfl
theorem cl_make : (Tryd.pinned.checked.prog.make == some Rows.planLinesRow.make) = true := by kernel_rfl
theorem cl_plain : (Rows.planLinesRow.plainKeys == Tryd.pinned.checked.prog.plainKeys) = true := by kernel_rfl
end Go.Proofs.YtopoknocfoiiaaaDoor
