/-
  No cell of these rows narrows 'for every input' (looked for: loops, veiled, ifaces, maps, wideKeys, modest, calm, conditions, laid).
  DERIVED. THE GIVEN ROWS OF THIS SEAT. 5 by the template 'for every input the law returns true; each argument reads behind the call as it read before'; 0 by the template 'total and deterministic' (their statements: YtaedelcbioiogaaTotals.lean).
  GIVEN WITH THE SEED: the statements are not yours to turn. If you find one false, say at which input.
  Laid BY PROGRAM, IN A SANDBOX (cutbox-rows.mjs): the forced cells as the released guide's own fill.sh prints them over the translation 953e00681f7939a0… (all of the seat's roots in one cut). By AI agents, Wed Nov 11 2026. No macro, syntax, notation, axiom, sorry.
-/
import Derived.Test.YtaedelcbioiogaaChecked
import GoSem.Claim
import GoSem.ClaimJoined
import GoSem.ClaimMapViews
import Derived.JoinedTies
import Derived.KernelRfl
namespace Go.Proofs.Ytaedelcbioiogaa
/- THE CELL 'sum', in the pinned program and in every row, IS THE sha256 OF THE DUMP (.gsa) THAT YtaedelcbioiogaaProg.lean LOADS. Nothing in Lean hashes anything: it is a label: what it is worth is what the hold of that sum in a sandbox is worth. -/
noncomputable def Try.pinned : Pinned := { name := "ytaedelcbioiogaa", sum := "953e00681f7939a011ea382f64c55a8824d78d883decaf6cd9279021ca6e1611", checked := Try.checked }
namespace Rows
def none {H : Type} : Left H := { results := [], args := [] }

/-- 'signallinglaw48.TimetableChecks': WHATEVER THE INPUT: true; the input reads as it did. -/
def timetableChecksSpec : ChangeSpec := { name := "timetableChecks", fn := fun _ => fun
  | [d1, d2, d3] => { results := [.lit (.bool true)], args := [d1, d2, d3] }
  | _ => none }
def timetableChecksRow : OpenClaim := { program := "ytaedelcbioiogaa", sum := "953e00681f7939a011ea382f64c55a8824d78d883decaf6cd9279021ca6e1611", func := "signalling/signallinglaw48.TimetableChecks", spec := "timetableChecks", unfollowed := true, recurses := true, apart := false }
def TimetableChecksSaid : Prop := timetableChecksRow.holds Try.pinned (OpenSpec.ofChange timetableChecksSpec)

/-- ITS FALSE NEIGHBOUR: 'it returns false'. Refute it at one input. -/
def timetableChecksWrong : ChangeSpec := { name := "timetableChecks", fn := fun _ => fun
  | [d1, d2, d3] => { results := [.lit (.bool false)], args := [d1, d2, d3] }
  | _ => none }
def TimetableChecksWrongFalsely : Prop := timetableChecksRow.holds Try.pinned (OpenSpec.ofChange timetableChecksWrong)

/-- 'signallinglaw48.TimetableTimes': WHATEVER THE INPUT: true; the input reads as it did. -/
def timetableTimesSpec : ChangeSpec := { name := "timetableTimes", fn := fun _ => fun
  | [d1, d2, d3] => { results := [.lit (.bool true)], args := [d1, d2, d3] }
  | _ => none }
def timetableTimesRow : OpenClaim := { program := "ytaedelcbioiogaa", sum := "953e00681f7939a011ea382f64c55a8824d78d883decaf6cd9279021ca6e1611", func := "signalling/signallinglaw48.TimetableTimes", spec := "timetableTimes", unfollowed := true, recurses := true, apart := false }
def TimetableTimesSaid : Prop := timetableTimesRow.holds Try.pinned (OpenSpec.ofChange timetableTimesSpec)

/-- ITS FALSE NEIGHBOUR: 'it returns false'. Refute it at one input. -/
def timetableTimesWrong : ChangeSpec := { name := "timetableTimes", fn := fun _ => fun
  | [d1, d2, d3] => { results := [.lit (.bool false)], args := [d1, d2, d3] }
  | _ => none }
def TimetableTimesWrongFalsely : Prop := timetableTimesRow.holds Try.pinned (OpenSpec.ofChange timetableTimesWrong)

/-- 'signallinglaw48.TimetableDelays': WHATEVER THE INPUT: true; the input reads as it did. -/
def timetableDelaysSpec : ChangeSpec := { name := "timetableDelays", fn := fun _ => fun
  | [d1, d2] => { results := [.lit (.bool true)], args := [d1, d2] }
  | _ => none }
def timetableDelaysRow : OpenClaim := { program := "ytaedelcbioiogaa", sum := "953e00681f7939a011ea382f64c55a8824d78d883decaf6cd9279021ca6e1611", func := "signalling/signallinglaw48.TimetableDelays", spec := "timetableDelays", unfollowed := true, recurses := true, apart := false }
def TimetableDelaysSaid : Prop := timetableDelaysRow.holds Try.pinned (OpenSpec.ofChange timetableDelaysSpec)

/-- ITS FALSE NEIGHBOUR: 'it returns false'. Refute it at one input. -/
def timetableDelaysWrong : ChangeSpec := { name := "timetableDelays", fn := fun _ => fun
  | [d1, d2] => { results := [.lit (.bool false)], args := [d1, d2] }
  | _ => none }
def TimetableDelaysWrongFalsely : Prop := timetableDelaysRow.holds Try.pinned (OpenSpec.ofChange timetableDelaysWrong)

/-- 'signallinglaw48.TimetableNeeds': WHATEVER THE INPUT: true; the input reads as it did. -/
def timetableNeedsSpec : ChangeSpec := { name := "timetableNeeds", fn := fun _ => fun
  | [d1, d2, d3, d4] => { results := [.lit (.bool true)], args := [d1, d2, d3, d4] }
  | _ => none }
def timetableNeedsRow : OpenClaim := { program := "ytaedelcbioiogaa", sum := "953e00681f7939a011ea382f64c55a8824d78d883decaf6cd9279021ca6e1611", func := "signalling/signallinglaw48.TimetableNeeds", spec := "timetableNeeds", unfollowed := true, recurses := true, apart := false }
def TimetableNeedsSaid : Prop := timetableNeedsRow.holds Try.pinned (OpenSpec.ofChange timetableNeedsSpec)

/-- ITS FALSE NEIGHBOUR: 'it returns false'. Refute it at one input. -/
def timetableNeedsWrong : ChangeSpec := { name := "timetableNeeds", fn := fun _ => fun
  | [d1, d2, d3, d4] => { results := [.lit (.bool false)], args := [d1, d2, d3, d4] }
  | _ => none }
def TimetableNeedsWrongFalsely : Prop := timetableNeedsRow.holds Try.pinned (OpenSpec.ofChange timetableNeedsWrong)

/-- 'signallinglaw48.TimetableDue': WHATEVER THE INPUT: true; the input reads as it did. -/
def timetableDueSpec : ChangeSpec := { name := "timetableDue", fn := fun _ => fun
  | [d1, d2, d3, d4] => { results := [.lit (.bool true)], args := [d1, d2, d3, d4] }
  | _ => none }
def timetableDueRow : OpenClaim := { program := "ytaedelcbioiogaa", sum := "953e00681f7939a011ea382f64c55a8824d78d883decaf6cd9279021ca6e1611", func := "signalling/signallinglaw48.TimetableDue", spec := "timetableDue", unfollowed := true, recurses := true, apart := false }
def TimetableDueSaid : Prop := timetableDueRow.holds Try.pinned (OpenSpec.ofChange timetableDueSpec)

/-- ITS FALSE NEIGHBOUR: 'it returns false'. Refute it at one input. -/
def timetableDueWrong : ChangeSpec := { name := "timetableDue", fn := fun _ => fun
  | [d1, d2, d3, d4] => { results := [.lit (.bool false)], args := [d1, d2, d3, d4] }
  | _ => none }
def TimetableDueWrongFalsely : Prop := timetableDueRow.holds Try.pinned (OpenSpec.ofChange timetableDueWrong)

/- THE SECOND FORM. 'bulk': how many values and letters a reading holds, each counted each time it is reached (what is shared counts as often as it is met; a slice's spare places count too). A statement '..UptoSaid' is the law's where the arguments, and the package variables that the reading takes, are together of bulk at most 1048576: NARROWER than '..Said'. Prove '..Said' where nothing that the law and all that it calls make is longer than what came in: it says more and counts as full. Else prove '..UptoSaid'. A law counts once. -/
mutual
def uptoBulk {H : Type} : DataW H → Nat
  | .lit (.string bytes) => bytes.length + 1
  | .lit _ => 1
  | .nil => 1
  | .ptr d => uptoBulk d + 1
  | .slice elems spare => uptoBulkAll elems + uptoBulkAll spare + 1
  | .agg parts => uptoBulkAll parts + 1
  | .iface _ d => uptoBulk d + 1
  | .map entries => uptoBulkEntries entries + 1
  | .held _ => 1
def uptoBulkAll {H : Type} : List (DataW H) → Nat
  | [] => 0
  | d :: r => uptoBulk d + uptoBulkAll r
def uptoBulkEntries {H : Type} : List (Lit × DataW H) → Nat
  | [] => 0
  | x :: r => uptoBulkEntry x + uptoBulkEntries r
def uptoBulkEntry {H : Type} : Lit × DataW H → Nat
  | (.string bytes, d) => bytes.length + uptoBulk d + 1
  | (_, d) => uptoBulk d + 1
 end
def uptoSmall : (H : Type) → List (DataW H) → Bool := fun _ ds => decide (uptoBulkAll ds ≤ 1048576)
def OpenSpec.upto (s : _root_.Go.ChangeSpec) : _root_.Go.OpenSpec := { _root_.Go.OpenSpec.ofChange s with cond := some uptoSmall }

/-- 'signallinglaw48.TimetableChecks', WHERE WHAT IT READS IS OF BULK AT MOST 1048576: true; the input reads as it did. -/
def timetableChecksUptoRow : OpenClaim := { program := "ytaedelcbioiogaa", sum := "953e00681f7939a011ea382f64c55a8824d78d883decaf6cd9279021ca6e1611", func := "signalling/signallinglaw48.TimetableChecks", spec := "timetableChecks", unfollowed := true, recurses := true, apart := false, narrowed := true }
def TimetableChecksUptoSaid : Prop := timetableChecksUptoRow.holds Try.pinned (OpenSpec.upto timetableChecksSpec)

/-- 'signallinglaw48.TimetableTimes', WHERE WHAT IT READS IS OF BULK AT MOST 1048576: true; the input reads as it did. -/
def timetableTimesUptoRow : OpenClaim := { program := "ytaedelcbioiogaa", sum := "953e00681f7939a011ea382f64c55a8824d78d883decaf6cd9279021ca6e1611", func := "signalling/signallinglaw48.TimetableTimes", spec := "timetableTimes", unfollowed := true, recurses := true, apart := false, narrowed := true }
def TimetableTimesUptoSaid : Prop := timetableTimesUptoRow.holds Try.pinned (OpenSpec.upto timetableTimesSpec)

/-- 'signallinglaw48.TimetableDelays', WHERE WHAT IT READS IS OF BULK AT MOST 1048576: true; the input reads as it did. -/
def timetableDelaysUptoRow : OpenClaim := { program := "ytaedelcbioiogaa", sum := "953e00681f7939a011ea382f64c55a8824d78d883decaf6cd9279021ca6e1611", func := "signalling/signallinglaw48.TimetableDelays", spec := "timetableDelays", unfollowed := true, recurses := true, apart := false, narrowed := true }
def TimetableDelaysUptoSaid : Prop := timetableDelaysUptoRow.holds Try.pinned (OpenSpec.upto timetableDelaysSpec)

/-- 'signallinglaw48.TimetableNeeds', WHERE WHAT IT READS IS OF BULK AT MOST 1048576: true; the input reads as it did. -/
def timetableNeedsUptoRow : OpenClaim := { program := "ytaedelcbioiogaa", sum := "953e00681f7939a011ea382f64c55a8824d78d883decaf6cd9279021ca6e1611", func := "signalling/signallinglaw48.TimetableNeeds", spec := "timetableNeeds", unfollowed := true, recurses := true, apart := false, narrowed := true }
def TimetableNeedsUptoSaid : Prop := timetableNeedsUptoRow.holds Try.pinned (OpenSpec.upto timetableNeedsSpec)

/-- 'signallinglaw48.TimetableDue', WHERE WHAT IT READS IS OF BULK AT MOST 1048576: true; the input reads as it did. -/
def timetableDueUptoRow : OpenClaim := { program := "ytaedelcbioiogaa", sum := "953e00681f7939a011ea382f64c55a8824d78d883decaf6cd9279021ca6e1611", func := "signalling/signallinglaw48.TimetableDue", spec := "timetableDue", unfollowed := true, recurses := true, apart := false, narrowed := true }
def TimetableDueUptoSaid : Prop := timetableDueUptoRow.holds Try.pinned (OpenSpec.upto timetableDueSpec)

end Rows
end Go.Proofs.Ytaedelcbioiogaa
