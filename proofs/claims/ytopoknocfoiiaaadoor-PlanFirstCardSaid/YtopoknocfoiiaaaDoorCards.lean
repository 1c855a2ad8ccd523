/-
  DERIVED. GIVEN WITH THE SEED: THE CARDS: each row of YtopoknocfoiiaaaDoorRows.lean that lists a variable, with what it lists TIED to the program's text (the seventh form; the later family's looks); each row that meets fmt, with fmt's text TOLD by the authors' own Lean function (tested against real Go, not proved from fmt's source: count such statements apart). THE CARD IS WHAT COUNTS. Prove the row's statement (the work); the ties are given (YtopoknocfoiiaaaDoorTie.lean); close each card by the builder's one call (the guide's Derived/Test/ToyasCard.lean, 'card_holds'). Laid BY PROGRAM, IN A SANDBOX (cutbox-door.mjs). By AI agents, Wed Nov 11 2026. No macro, syntax, notation, axiom, sorry.
-/
import Derived.Test.YtopoknocfoiiaaaDoorRows
import GoSem.ClaimSeven
namespace Go.Proofs.YtopoknocfoiiaaaDoor
namespace Rows

/-- THE TIED CARD OF 'signallinglaw08.PlanRoundTrips'. -/
def planRoundTripsCard : Claim7 := { stood := { row := planRoundTripsRow, standIns := [], harness := (true, "f6a06384ee5e913397ff5a9b386827f24bfc1703ad8015172e364cb1aba3262b"), looks := true }, kinds := [], alts := [], laidByText := true, laidKinds := [.data, .data, .data, .data, .data, .sentinel, .sentinel, .pinned], laidTests := true, laidLooks := .later }
def PlanRoundTripsCardSaid : Prop := Claim7.holds Tryd.pinned (.plain (OpenSpec.ofChange planRoundTripsSpec)) planRoundTripsCard

/-- THE TIED CARD OF 'signallinglaw08.PlanLines'. -/
def planLinesCard : Claim7 := { stood := { row := planLinesRow, standIns := [], harness := (true, "f6a06384ee5e913397ff5a9b386827f24bfc1703ad8015172e364cb1aba3262b"), looks := true }, kinds := [], alts := [], laidByText := true, laidKinds := [.data, .data, .data, .data, .data, .sentinel, .sentinel, .pinned], laidTests := true, laidLooks := .later }
def PlanLinesCardSaid : Prop := Claim7.holds Tryd.pinned (.plain (OpenSpec.ofChange planLinesSpec)) planLinesCard

/-- THE TIED CARD OF 'signallinglaw08.PlanFirst'. -/
def planFirstCard : Claim7 := { stood := { row := planFirstRow, standIns := [], harness := (true, "f6a06384ee5e913397ff5a9b386827f24bfc1703ad8015172e364cb1aba3262b"), looks := true }, kinds := [], alts := [], laidByText := true, laidKinds := [.data, .data, .data, .data, .data, .sentinel, .sentinel, .pinned], laidTests := true, laidLooks := .later }
def PlanFirstCardSaid : Prop := Claim7.holds Tryd.pinned (.plain (OpenSpec.ofChange planFirstSpec)) planFirstCard

/-- THE SECOND FORM's CARD OF 'signallinglaw08.PlanRoundTrips'. -/
def planRoundTripsUptoCard : Claim7 := { stood := { row := planRoundTripsUptoRow, standIns := [], harness := (true, "f6a06384ee5e913397ff5a9b386827f24bfc1703ad8015172e364cb1aba3262b"), looks := true }, kinds := [], alts := [], laidByText := true, laidKinds := [.data, .data, .data, .data, .data, .sentinel, .sentinel, .pinned], laidTests := true, laidLooks := .later }
def PlanRoundTripsUptoCardSaid : Prop := Claim7.holds Tryd.pinned (.plain (OpenSpec.upto planRoundTripsSpec)) planRoundTripsUptoCard

/-- THE SECOND FORM's CARD OF 'signallinglaw08.PlanLines'. -/
def planLinesUptoCard : Claim7 := { stood := { row := planLinesUptoRow, standIns := [], harness := (true, "f6a06384ee5e913397ff5a9b386827f24bfc1703ad8015172e364cb1aba3262b"), looks := true }, kinds := [], alts := [], laidByText := true, laidKinds := [.data, .data, .data, .data, .data, .sentinel, .sentinel, .pinned], laidTests := true, laidLooks := .later }
def PlanLinesUptoCardSaid : Prop := Claim7.holds Tryd.pinned (.plain (OpenSpec.upto planLinesSpec)) planLinesUptoCard

/-- THE SECOND FORM's CARD OF 'signallinglaw08.PlanFirst'. -/
def planFirstUptoCard : Claim7 := { stood := { row := planFirstUptoRow, standIns := [], harness := (true, "f6a06384ee5e913397ff5a9b386827f24bfc1703ad8015172e364cb1aba3262b"), looks := true }, kinds := [], alts := [], laidByText := true, laidKinds := [.data, .data, .data, .data, .data, .sentinel, .sentinel, .pinned], laidTests := true, laidLooks := .later }
def PlanFirstUptoCardSaid : Prop := Claim7.holds Tryd.pinned (.plain (OpenSpec.upto planFirstSpec)) planFirstUptoCard
end Rows
end Go.Proofs.YtopoknocfoiiaaaDoor
