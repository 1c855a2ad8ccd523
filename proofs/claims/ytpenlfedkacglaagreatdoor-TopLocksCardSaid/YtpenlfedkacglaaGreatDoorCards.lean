/-
  DERIVED. GIVEN WITH THE SEED: THE CARDS: each row of YtpenlfedkacglaaGreatDoorRows.lean that lists a variable, with what it lists TIED to the program's text (the seventh form; the later family's looks); each row that meets fmt, with fmt's text TOLD by the authors' own Lean function (tested against real Go, not proved from fmt's source: count such statements apart). THE CARD IS WHAT COUNTS. Prove the row's statement (the work); the ties are given (YtpenlfedkacglaaGreatDoorTie.lean); close each card by the builder's one call (the guide's Derived/Test/ToyasCard.lean, 'card_holds'). Laid BY PROGRAM, IN A SANDBOX (cutbox-door.mjs). By AI agents, Wed Nov 11 2026. No macro, syntax, notation, axiom, sorry.
-/
import Derived.Test.YtpenlfedkacglaaGreatDoorRows
import GoSem.ClaimSeven
namespace Go.Proofs.YtpenlfedkacglaaGreatDoor
namespace Rows

/-- THE TIED CARD OF 'signallingtop.TopLocks'. -/
def topLocksCard : Claim7 := { stood := { row := topLocksRow, standIns := [], harness := (true, "96c7cc5faa284c27759dc42a3e92a67b55182c4d00a4f377857d591be5f82772"), looks := false }, kinds := [], alts := [], laidByText := true, laidKinds := [.data, .data, .data, .data, .data], laidTests := true, laidLooks := .later }
def TopLocksCardSaid : Prop := Claim7.holds Tryz.pinned (.plain (OpenSpec.ofChange topLocksSpec)) topLocksCard

/-- THE TIED CARD OF 'signallingtop.TopRelease'. -/
def topReleaseCard : Claim7 := { stood := { row := topReleaseRow, standIns := [], harness := (true, "96c7cc5faa284c27759dc42a3e92a67b55182c4d00a4f377857d591be5f82772"), looks := false }, kinds := [], alts := [], laidByText := true, laidKinds := [.data, .data, .data, .data, .data], laidTests := true, laidLooks := .later }
def TopReleaseCardSaid : Prop := Claim7.holds Tryz.pinned (.plain (OpenSpec.ofChange topReleaseSpec)) topReleaseCard

/-- THE SECOND FORM's CARD OF 'signallingtop.TopLocks'. -/
def topLocksUptoCard : Claim7 := { stood := { row := topLocksUptoRow, standIns := [], harness := (true, "96c7cc5faa284c27759dc42a3e92a67b55182c4d00a4f377857d591be5f82772"), looks := false }, kinds := [], alts := [], laidByText := true, laidKinds := [.data, .data, .data, .data, .data], laidTests := true, laidLooks := .later }
def TopLocksUptoCardSaid : Prop := Claim7.holds Tryz.pinned (.plain (OpenSpec.upto topLocksSpec)) topLocksUptoCard

/-- THE SECOND FORM's CARD OF 'signallingtop.TopRelease'. -/
def topReleaseUptoCard : Claim7 := { stood := { row := topReleaseUptoRow, standIns := [], harness := (true, "96c7cc5faa284c27759dc42a3e92a67b55182c4d00a4f377857d591be5f82772"), looks := false }, kinds := [], alts := [], laidByText := true, laidKinds := [.data, .data, .data, .data, .data], laidTests := true, laidLooks := .later }
def TopReleaseUptoCardSaid : Prop := Claim7.holds Tryz.pinned (.plain (OpenSpec.upto topReleaseSpec)) topReleaseUptoCard
end Rows
end Go.Proofs.YtpenlfedkacglaaGreatDoor
