import Derived.Test.YtlpkkcodmoklaaaRows
import Derived.WalkKit
import Derived.ProofKit
/-! The closed facts that speak of the program alone, proved once: the laws' closed facts lean on them. -/
namespace Go.Proofs.Ytlpkkcodmoklaaa
theorem and_t {a b : Bool} (ha : a = true) (hb : b = true) : (a && b) = true := by rw [ha, hb]; rfl
theorem cl_laid : laidOutB Try.pinned.checked.prog = true := by kernel_rfl
theorem cl_maps : mapsRowed Try.pinned.checked.prog = true := by kernel_rfl
theorem cl_stops : (Try.pinned.checked.prog.stops == []) = true := by kernel_rfl
theorem cl_knobs : (Try.pinned.checked.prog.stopKnobs == []) = true := by kernel_rfl
theorem cl_heard : Try.pinned.checked.prog.stopsHeard = true := by kernel_rfl
theorem cl_enter : Try.pinned.checked.prog.mayEnter = true := by kernel_rfl
theorem cl_lift : (Rows.wireListsRow.lifted == Try.pinned.checked.prog.liftsFinal) = true := by kernel_rfl
theorem cl_make : (Try.pinned.checked.prog.make == some Rows.wireListsRow.make) = true := by kernel_rfl
theorem cl_plain : (Rows.wireListsRow.plainKeys == Try.pinned.checked.prog.plainKeys) = true := by kernel_rfl
end Go.Proofs.Ytlpkkcodmoklaaa
