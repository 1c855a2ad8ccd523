/-
  DERIVED. GIVEN WITH THE SEED: THE CARDS: each row of YtfmfadafpbnjoaaDoorRows.lean that lists a variable, with what it lists TIED to the program's text (the seventh form; the later family's looks); each row that meets fmt, with fmt's text TOLD by the authors' own Lean function (tested against real Go, not proved from fmt's source: count such statements apart). THE CARD IS WHAT COUNTS. Prove the row's statement (the work); the ties are given (YtfmfadafpbnjoaaDoorTie.lean); close each card by the builder's one call (the guide's Derived/Test/ToyasCard.lean, 'card_holds'). Laid BY PROGRAM, IN A SANDBOX (cutbox-door.mjs). By AI agents, Wed Nov 11 2026. No macro, syntax, notation, axiom, sorry.
-/
import Derived.Test.YtfmfadafpbnjoaaDoorRows
import GoSem.ClaimSeven
namespace Go.Proofs.YtfmfadafpbnjoaaDoor
namespace Rows

/-- THE TIED CARD OF 'signallinglaw30.TrainChecks'. -/
def trainChecksCard : Claim7 := { stood := { row := trainChecksRow, standIns := [], harness := (true, "13171cdb5d98ed94b6c1deea95c7361df90b8a6c2ccb779449e39807510eadd1"), looks := true }, kinds := [], alts := [], laidByText := true, laidKinds := [.data, .data, .data, .data, .sentinel, .sentinel, .pinned], laidTests := true, laidLooks := .later }
def TrainChecksCardSaid : Prop := Claim7.holds Tryd.pinned (.plain (OpenSpec.ofChange trainChecksSpec)) trainChecksCard

/-- THE TIED CARD OF 'signallinglaw30.TrainReads'. -/
def trainReadsCard : Claim7 := { stood := { row := trainReadsRow, standIns := [], harness := (true, "13171cdb5d98ed94b6c1deea95c7361df90b8a6c2ccb779449e39807510eadd1"), looks := true }, kinds := [], alts := [], laidByText := true, laidKinds := [.data, .data, .data, .data, .sentinel, .sentinel, .pinned], laidTests := true, laidLooks := .later }
def TrainReadsCardSaid : Prop := Claim7.holds Tryd.pinned (.plain (OpenSpec.ofChange trainReadsSpec)) trainReadsCard

/-- THE TIED CARD OF 'signallinglaw30.TrainMeasures'. -/
def trainMeasuresCard : Claim7 := { stood := { row := trainMeasuresRow, standIns := [], harness := (true, "13171cdb5d98ed94b6c1deea95c7361df90b8a6c2ccb779449e39807510eadd1"), looks := true }, kinds := [], alts := [], laidByText := true, laidKinds := [.data, .data, .data, .data, .sentinel, .sentinel, .pinned], laidTests := true, laidLooks := .later }
def TrainMeasuresCardSaid : Prop := Claim7.holds Tryd.pinned (.plain (OpenSpec.ofChange trainMeasuresSpec)) trainMeasuresCard

/-- THE TIED CARD OF 'signallinglaw30.TrainBrakes'. -/
def trainBrakesCard : Claim7 := { stood := { row := trainBrakesRow, standIns := [], harness := (true, "13171cdb5d98ed94b6c1deea95c7361df90b8a6c2ccb779449e39807510eadd1"), looks := true }, kinds := [], alts := [], laidByText := true, laidKinds := [.data, .data, .data, .data, .sentinel, .sentinel, .pinned], laidTests := true, laidLooks := .later }
def TrainBrakesCardSaid : Prop := Claim7.holds Tryd.pinned (.plain (OpenSpec.ofChange trainBrakesSpec)) trainBrakesCard

/-- THE TIED CARD OF 'signallinglaw30.TrainRoundTrips'. -/
def trainRoundTripsCard : Claim7 := { stood := { row := trainRoundTripsRow, standIns := [], harness := (true, "13171cdb5d98ed94b6c1deea95c7361df90b8a6c2ccb779449e39807510eadd1"), looks := true }, kinds := [], alts := [], laidByText := true, laidKinds := [.data, .data, .data, .data, .sentinel, .sentinel, .pinned], laidTests := true, laidLooks := .later }
def TrainRoundTripsCardSaid : Prop := Claim7.holds Tryd.pinned (.plain (OpenSpec.ofChange trainRoundTripsSpec)) trainRoundTripsCard

/-- THE TIED CARD OF 'signallinglaw30.TrainErrors'. -/
def trainErrorsCard : Claim7 := { stood := { row := trainErrorsRow, standIns := [], harness := (true, "13171cdb5d98ed94b6c1deea95c7361df90b8a6c2ccb779449e39807510eadd1"), looks := true }, kinds := [], alts := [], laidByText := true, laidKinds := [.data, .data, .data, .data, .sentinel, .sentinel, .pinned], laidTests := true, laidLooks := .later }
def TrainErrorsCardSaid : Prop := Claim7.holds Tryd.pinned (.plain (OpenSpec.ofChange trainErrorsSpec)) trainErrorsCard

/-- THE SECOND FORM's CARD OF 'signallinglaw30.TrainChecks'. -/
def trainChecksUptoCard : Claim7 := { stood := { row := trainChecksUptoRow, standIns := [], harness := (true, "13171cdb5d98ed94b6c1deea95c7361df90b8a6c2ccb779449e39807510eadd1"), looks := true }, kinds := [], alts := [], laidByText := true, laidKinds := [.data, .data, .data, .data, .sentinel, .sentinel, .pinned], laidTests := true, laidLooks := .later }
def TrainChecksUptoCardSaid : Prop := Claim7.holds Tryd.pinned (.plain (OpenSpec.upto trainChecksSpec)) trainChecksUptoCard

/-- THE SECOND FORM's CARD OF 'signallinglaw30.TrainReads'. -/
def trainReadsUptoCard : Claim7 := { stood := { row := trainReadsUptoRow, standIns := [], harness := (true, "13171cdb5d98ed94b6c1deea95c7361df90b8a6c2ccb779449e39807510eadd1"), looks := true }, kinds := [], alts := [], laidByText := true, laidKinds := [.data, .data, .data, .data, .sentinel, .sentinel, .pinned], laidTests := true, laidLooks := .later }
def TrainReadsUptoCardSaid : Prop := Claim7.holds Tryd.pinned (.plain (OpenSpec.upto trainReadsSpec)) trainReadsUptoCard

/-- THE SECOND FORM's CARD OF 'signallinglaw30.TrainMeasures'. -/
def trainMeasuresUptoCard : Claim7 := { stood := { row := trainMeasuresUptoRow, standIns := [], harness := (true, "13171cdb5d98ed94b6c1deea95c7361df90b8a6c2ccb779449e39807510eadd1"), looks := true }, kinds := [], alts := [], laidByText := true, laidKinds := [.data, .data, .data, .data, .sentinel, .sentinel, .pinned], laidTests := true, laidLooks := .later }
def TrainMeasuresUptoCardSaid : Prop := Claim7.holds Tryd.pinned (.plain (OpenSpec.upto trainMeasuresSpec)) trainMeasuresUptoCard

/-- THE SECOND FORM's CARD OF 'signallinglaw30.TrainBrakes'. -/
def trainBrakesUptoCard : Claim7 := { stood := { row := trainBrakesUptoRow, standIns := [], harness := (true, "13171cdb5d98ed94b6c1deea95c7361df90b8a6c2ccb779449e39807510eadd1"), looks := true }, kinds := [], alts := [], laidByText := true, laidKinds := [.data, .data, .data, .data, .sentinel, .sentinel, .pinned], laidTests := true, laidLooks := .later }
def TrainBrakesUptoCardSaid : Prop := Claim7.holds Tryd.pinned (.plain (OpenSpec.upto trainBrakesSpec)) trainBrakesUptoCard

/-- THE SECOND FORM's CARD OF 'signallinglaw30.TrainRoundTrips'. -/
def trainRoundTripsUptoCard : Claim7 := { stood := { row := trainRoundTripsUptoRow, standIns := [], harness := (true, "13171cdb5d98ed94b6c1deea95c7361df90b8a6c2ccb779449e39807510eadd1"), looks := true }, kinds := [], alts := [], laidByText := true, laidKinds := [.data, .data, .data, .data, .sentinel, .sentinel, .pinned], laidTests := true, laidLooks := .later }
def TrainRoundTripsUptoCardSaid : Prop := Claim7.holds Tryd.pinned (.plain (OpenSpec.upto trainRoundTripsSpec)) trainRoundTripsUptoCard

/-- THE SECOND FORM's CARD OF 'signallinglaw30.TrainErrors'. -/
def trainErrorsUptoCard : Claim7 := { stood := { row := trainErrorsUptoRow, standIns := [], harness := (true, "13171cdb5d98ed94b6c1deea95c7361df90b8a6c2ccb779449e39807510eadd1"), looks := true }, kinds := [], alts := [], laidByText := true, laidKinds := [.data, .data, .data, .data, .sentinel, .sentinel, .pinned], laidTests := true, laidLooks := .later }
def TrainErrorsUptoCardSaid : Prop := Claim7.holds Tryd.pinned (.plain (OpenSpec.upto trainErrorsSpec)) trainErrorsUptoCard
end Rows
end Go.Proofs.YtfmfadafpbnjoaaDoor
