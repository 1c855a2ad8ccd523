/-
  DERIVED. GIVEN WITH THE SEED: THE CARDS: each row of YtlblfblkallnhaaGreatDoorRows.lean that lists a variable, with what it lists TIED to the program's text (the seventh form; the later family's looks); each row that meets fmt, with fmt's text TOLD by the authors' own Lean function (tested against real Go, not proved from fmt's source: count such statements apart). THE CARD IS WHAT COUNTS. Prove the row's statement (the work); the ties are given (YtlblfblkallnhaaGreatDoorTie.lean); close each card by the builder's one call (the guide's Derived/Test/ToyasCard.lean, 'card_holds'). Laid BY PROGRAM, IN A SANDBOX (cutbox-door.mjs). By AI agents, Wed Nov 11 2026. No macro, syntax, notation, axiom, sorry.
-/
import Derived.Test.YtlblfblkallnhaaGreatDoorRows
import GoSem.ClaimSeven
namespace Go.Proofs.YtlblfblkallnhaaGreatDoor
namespace Rows

/-- THE TIED CARD OF 'signallinglaw17.TabletextPrints'. -/
def tabletextPrintsCard : Claim7 := { stood := { row := tabletextPrintsRow, standIns := [], harness := (true, "c1a190d7acdcc8ebaaa369dc2c199f76a794013a202f7d9f6ba5289083f9bfa6"), looks := true }, kinds := [], alts := [], laidByText := true, laidKinds := [.data, .data, .data, .data, .sentinel, .sentinel, .pinned], laidTests := true, laidLooks := .later }
def TabletextPrintsCardSaid : Prop := Claim7.holds Tryz.pinned (.plain (OpenSpec.ofChange tabletextPrintsSpec)) tabletextPrintsCard

/-- THE TIED CARD OF 'signallinglaw17.TabletextParses'. -/
def tabletextParsesCard : Claim7 := { stood := { row := tabletextParsesRow, standIns := [], harness := (true, "c1a190d7acdcc8ebaaa369dc2c199f76a794013a202f7d9f6ba5289083f9bfa6"), looks := true }, kinds := [], alts := [], laidByText := true, laidKinds := [.data, .data, .data, .data, .sentinel, .sentinel, .pinned], laidTests := true, laidLooks := .later }
def TabletextParsesCardSaid : Prop := Claim7.holds Tryz.pinned (.plain (OpenSpec.ofChange tabletextParsesSpec)) tabletextParsesCard

/-- THE TIED CARD OF 'signallinglaw17.TabletextRoundTrips'. -/
def tabletextRoundTripsCard : Claim7 := { stood := { row := tabletextRoundTripsRow, standIns := [], harness := (true, "c1a190d7acdcc8ebaaa369dc2c199f76a794013a202f7d9f6ba5289083f9bfa6"), looks := true }, kinds := [], alts := [], laidByText := true, laidKinds := [.data, .data, .data, .data, .sentinel, .sentinel, .pinned], laidTests := true, laidLooks := .later }
def TabletextRoundTripsCardSaid : Prop := Claim7.holds Tryz.pinned (.plain (OpenSpec.ofChange tabletextRoundTripsSpec)) tabletextRoundTripsCard

/-- THE TIED CARD OF 'signallinglaw17.TabletextLines'. -/
def tabletextLinesCard : Claim7 := { stood := { row := tabletextLinesRow, standIns := [], harness := (true, "c1a190d7acdcc8ebaaa369dc2c199f76a794013a202f7d9f6ba5289083f9bfa6"), looks := true }, kinds := [], alts := [], laidByText := true, laidKinds := [.data, .data, .data, .data, .sentinel, .sentinel, .pinned], laidTests := true, laidLooks := .later }
def TabletextLinesCardSaid : Prop := Claim7.holds Tryz.pinned (.plain (OpenSpec.ofChange tabletextLinesSpec)) tabletextLinesCard

/-- THE TIED CARD OF 'signallinglaw17.TabletextFirst'. -/
def tabletextFirstCard : Claim7 := { stood := { row := tabletextFirstRow, standIns := [], harness := (true, "c1a190d7acdcc8ebaaa369dc2c199f76a794013a202f7d9f6ba5289083f9bfa6"), looks := true }, kinds := [], alts := [], laidByText := true, laidKinds := [.data, .data, .data, .data, .sentinel, .sentinel, .pinned], laidTests := true, laidLooks := .later }
def TabletextFirstCardSaid : Prop := Claim7.holds Tryz.pinned (.plain (OpenSpec.ofChange tabletextFirstSpec)) tabletextFirstCard

/-- THE SECOND FORM's CARD OF 'signallinglaw17.TabletextPrints'. -/
def tabletextPrintsUptoCard : Claim7 := { stood := { row := tabletextPrintsUptoRow, standIns := [], harness := (true, "c1a190d7acdcc8ebaaa369dc2c199f76a794013a202f7d9f6ba5289083f9bfa6"), looks := true }, kinds := [], alts := [], laidByText := true, laidKinds := [.data, .data, .data, .data, .sentinel, .sentinel, .pinned], laidTests := true, laidLooks := .later }
def TabletextPrintsUptoCardSaid : Prop := Claim7.holds Tryz.pinned (.plain (OpenSpec.upto tabletextPrintsSpec)) tabletextPrintsUptoCard

/-- THE SECOND FORM's CARD OF 'signallinglaw17.TabletextParses'. -/
def tabletextParsesUptoCard : Claim7 := { stood := { row := tabletextParsesUptoRow, standIns := [], harness := (true, "c1a190d7acdcc8ebaaa369dc2c199f76a794013a202f7d9f6ba5289083f9bfa6"), looks := true }, kinds := [], alts := [], laidByText := true, laidKinds := [.data, .data, .data, .data, .sentinel, .sentinel, .pinned], laidTests := true, laidLooks := .later }
def TabletextParsesUptoCardSaid : Prop := Claim7.holds Tryz.pinned (.plain (OpenSpec.upto tabletextParsesSpec)) tabletextParsesUptoCard

/-- THE SECOND FORM's CARD OF 'signallinglaw17.TabletextRoundTrips'. -/
def tabletextRoundTripsUptoCard : Claim7 := { stood := { row := tabletextRoundTripsUptoRow, standIns := [], harness := (true, "c1a190d7acdcc8ebaaa369dc2c199f76a794013a202f7d9f6ba5289083f9bfa6"), looks := true }, kinds := [], alts := [], laidByText := true, laidKinds := [.data, .data, .data, .data, .sentinel, .sentinel, .pinned], laidTests := true, laidLooks := .later }
def TabletextRoundTripsUptoCardSaid : Prop := Claim7.holds Tryz.pinned (.plain (OpenSpec.upto tabletextRoundTripsSpec)) tabletextRoundTripsUptoCard

/-- THE SECOND FORM's CARD OF 'signallinglaw17.TabletextLines'. -/
def tabletextLinesUptoCard : Claim7 := { stood := { row := tabletextLinesUptoRow, standIns := [], harness := (true, "c1a190d7acdcc8ebaaa369dc2c199f76a794013a202f7d9f6ba5289083f9bfa6"), looks := true }, kinds := [], alts := [], laidByText := true, laidKinds := [.data, .data, .data, .data, .sentinel, .sentinel, .pinned], laidTests := true, laidLooks := .later }
def TabletextLinesUptoCardSaid : Prop := Claim7.holds Tryz.pinned (.plain (OpenSpec.upto tabletextLinesSpec)) tabletextLinesUptoCard

/-- THE SECOND FORM's CARD OF 'signallinglaw17.TabletextFirst'. -/
def tabletextFirstUptoCard : Claim7 := { stood := { row := tabletextFirstUptoRow, standIns := [], harness := (true, "c1a190d7acdcc8ebaaa369dc2c199f76a794013a202f7d9f6ba5289083f9bfa6"), looks := true }, kinds := [], alts := [], laidByText := true, laidKinds := [.data, .data, .data, .data, .sentinel, .sentinel, .pinned], laidTests := true, laidLooks := .later }
def TabletextFirstUptoCardSaid : Prop := Claim7.holds Tryz.pinned (.plain (OpenSpec.upto tabletextFirstSpec)) tabletextFirstUptoCard
end Rows
end Go.Proofs.YtlblfblkallnhaaGreatDoor
