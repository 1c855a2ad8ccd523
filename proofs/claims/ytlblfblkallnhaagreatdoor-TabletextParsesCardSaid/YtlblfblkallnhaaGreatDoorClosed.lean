import Derived.Test.YtlblfblkallnhaaGreatDoorRows
import Derived.WalkKit
import Derived.ProofKit
/-! The closed facts that speak of the program alone, proved once: the laws' closed facts lean on them. -/
namespace Go.Proofs.YtlblfblkallnhaaGreatDoor
set_option linter.unusedVariables false
set_option linter.unusedSimpArgs false
theorem and_t {a b : Bool} (ha : a = true) (hb : b = true) : (a && b) = true := by rw [ha, hb]; rfl
theorem cl_laid : laidOutB Tryz.pinned.checked.prog = true := by kernel_rfl
theorem cl_maps : mapsRowed Tryz.pinned.checked.prog = true := by kernel_rfl
theorem cl_stops : (Tryz.pinned.checked.prog.stops == []) = true := by kernel_rfl
theorem cl_knobs : (Tryz.pinned.checked.prog.stopKnobs == []) = true := by kernel_rfl
theorem cl_heard : Tryz.pinned.checked.prog.stopsHeard = true := by kernel_rfl
theorem cl_enter : Tryz.pinned.checked.prog.mayEnter = true := by kernel_rfl
theorem cl_lift : (Rows.tabletextPrintsRow.lifted == Tryz.pinned.checked.prog.liftsFinal) = true := by kernel_rfl
theorem cl_make : (Tryz.pinned.checked.prog.make == some Rows.tabletextPrintsRow.make) = true := by kernel_rfl
theorem cl_plain : (Rows.tabletextPrintsRow.plainKeys == Tryz.pinned.checked.prog.plainKeys) = true := by kernel_rfl
end Go.Proofs.YtlblfblkallnhaaGreatDoor
