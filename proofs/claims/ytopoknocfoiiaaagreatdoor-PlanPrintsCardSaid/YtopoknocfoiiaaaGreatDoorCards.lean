/-
  DERIVED. GIVEN WITH THE SEED: THE CARDS: each row of YtopoknocfoiiaaaGreatDoorRows.lean that lists a variable, with what it lists TIED to the program's text (the seventh form; the later family's looks); each row that meets fmt, with fmt's text TOLD by the authors' own Lean function (tested against real Go, not proved from fmt's source: count such statements apart). THE CARD IS WHAT COUNTS. Prove the row's statement (the work); the ties are given (YtopoknocfoiiaaaGreatDoorTie.lean); close each card by the builder's one call (the guide's Derived/Test/ToyasCard.lean, 'card_holds'). Laid BY PROGRAM, IN A SANDBOX (cutbox-door.mjs). By AI agents, Wed Nov 11 2026. No macro, syntax, notation, axiom, sorry.
-/
import Derived.Test.YtopoknocfoiiaaaGreatDoorRows
import GoSem.ClaimSeven
namespace Go.Proofs.YtopoknocfoiiaaaGreatDoor
namespace Rows

/-- THE TIED CARD OF 'signallinglaw08.PlanPrints'. -/
def planPrintsCard : Claim7 := { stood := { row := planPrintsRow, standIns := [], harness := (true, "946d87568dad22da062468b3a62e6dc0eb269b785fa0ff984033614a474057ee"), looks := true }, kinds := [], alts := [], laidByText := true, laidKinds := [.data, .data, .data, .data, .data, .sentinel, .sentinel, .pinned], laidTests := true, laidLooks := .later }
def PlanPrintsCardSaid : Prop := Claim7.holds Tryz.pinned (.plain (OpenSpec.ofChange planPrintsSpec)) planPrintsCard

/-- THE SECOND FORM's CARD OF 'signallinglaw08.PlanPrints'. -/
def planPrintsUptoCard : Claim7 := { stood := { row := planPrintsUptoRow, standIns := [], harness := (true, "946d87568dad22da062468b3a62e6dc0eb269b785fa0ff984033614a474057ee"), looks := true }, kinds := [], alts := [], laidByText := true, laidKinds := [.data, .data, .data, .data, .data, .sentinel, .sentinel, .pinned], laidTests := true, laidLooks := .later }
def PlanPrintsUptoCardSaid : Prop := Claim7.holds Tryz.pinned (.plain (OpenSpec.upto planPrintsSpec)) planPrintsUptoCard
end Rows
end Go.Proofs.YtopoknocfoiiaaaGreatDoor
