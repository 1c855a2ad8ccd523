/-
  DERIVED. GIVEN WITH THE SEED: THE CARDS: each row of YtnckainiphlndaaDoorRows.lean that lists a variable, with what it lists TIED to the program's text (the seventh form; the later family's looks); each row that meets fmt, with fmt's text TOLD by the authors' own Lean function (tested against real Go, not proved from fmt's source: count such statements apart). THE CARD IS WHAT COUNTS. Prove the row's statement (the work); the ties are given (YtnckainiphlndaaDoorTie.lean); close each card by the builder's one call (the guide's Derived/Test/ToyasCard.lean, 'card_holds'). Laid BY PROGRAM, IN A SANDBOX (cutbox-door.mjs). By AI agents, Wed Nov 11 2026. No macro, syntax, notation, axiom, sorry.
-/
import Derived.Test.YtnckainiphlndaaDoorRows
import GoSem.ClaimSeven
namespace Go.Proofs.YtnckainiphlndaaDoor
namespace Rows

/-- THE TIED CARD OF 'signallinglaw55.JournalAppends'. -/
def journalAppendsCard : Claim7 := { stood := { row := journalAppendsRow, standIns := [], harness := (true, "0f78c58bfb5258f0200cd9e35da9ef61fbe7bf6fad8f89c404dd647e16120ea8"), looks := true }, kinds := [], alts := [], laidByText := true, laidKinds := [.data, .data, .data], laidTests := true, laidLooks := .later }
def JournalAppendsCardSaid : Prop := Claim7.holds Tryd.pinned (.plain (OpenSpec.ofChange journalAppendsSpec)) journalAppendsCard

/-- THE TIED CARD OF 'signallinglaw55.JournalChained'. -/
def journalChainedCard : Claim7 := { stood := { row := journalChainedRow, standIns := [], harness := (true, "0f78c58bfb5258f0200cd9e35da9ef61fbe7bf6fad8f89c404dd647e16120ea8"), looks := true }, kinds := [], alts := [], laidByText := true, laidKinds := [.data, .data, .data], laidTests := true, laidLooks := .later }
def JournalChainedCardSaid : Prop := Claim7.holds Tryd.pinned (.plain (OpenSpec.ofChange journalChainedSpec)) journalChainedCard

/-- THE TIED CARD OF 'signallinglaw55.JournalVerifies'. -/
def journalVerifiesCard : Claim7 := { stood := { row := journalVerifiesRow, standIns := [], harness := (true, "0f78c58bfb5258f0200cd9e35da9ef61fbe7bf6fad8f89c404dd647e16120ea8"), looks := true }, kinds := [], alts := [], laidByText := true, laidKinds := [.data, .data, .data], laidTests := true, laidLooks := .later }
def JournalVerifiesCardSaid : Prop := Claim7.holds Tryd.pinned (.plain (OpenSpec.ofChange journalVerifiesSpec)) journalVerifiesCard

/-- THE TIED CARD OF 'signallinglaw55.JournalParses'. -/
def journalParsesCard : Claim7 := { stood := { row := journalParsesRow, standIns := [], harness := (true, "0f78c58bfb5258f0200cd9e35da9ef61fbe7bf6fad8f89c404dd647e16120ea8"), looks := true }, kinds := [], alts := [], laidByText := true, laidKinds := [.data, .data, .data, .sentinel, .sentinel], laidTests := true, laidLooks := .later }
def JournalParsesCardSaid : Prop := Claim7.holds Tryd.pinned (.plain (OpenSpec.ofChange journalParsesSpec)) journalParsesCard

/-- THE TIED CARD OF 'signallinglaw55.JournalReturns'. -/
def journalReturnsCard : Claim7 := { stood := { row := journalReturnsRow, standIns := [], harness := (true, "0f78c58bfb5258f0200cd9e35da9ef61fbe7bf6fad8f89c404dd647e16120ea8"), looks := true }, kinds := [], alts := [], laidByText := true, laidKinds := [.data, .data, .data, .sentinel, .sentinel], laidTests := true, laidLooks := .later }
def JournalReturnsCardSaid : Prop := Claim7.holds Tryd.pinned (.plain (OpenSpec.ofChange journalReturnsSpec)) journalReturnsCard

/-- THE SECOND FORM's CARD OF 'signallinglaw55.JournalAppends'. -/
def journalAppendsUptoCard : Claim7 := { stood := { row := journalAppendsUptoRow, standIns := [], harness := (true, "0f78c58bfb5258f0200cd9e35da9ef61fbe7bf6fad8f89c404dd647e16120ea8"), looks := true }, kinds := [], alts := [], laidByText := true, laidKinds := [.data, .data, .data], laidTests := true, laidLooks := .later }
def JournalAppendsUptoCardSaid : Prop := Claim7.holds Tryd.pinned (.plain (OpenSpec.upto journalAppendsSpec)) journalAppendsUptoCard

/-- THE SECOND FORM's CARD OF 'signallinglaw55.JournalChained'. -/
def journalChainedUptoCard : Claim7 := { stood := { row := journalChainedUptoRow, standIns := [], harness := (true, "0f78c58bfb5258f0200cd9e35da9ef61fbe7bf6fad8f89c404dd647e16120ea8"), looks := true }, kinds := [], alts := [], laidByText := true, laidKinds := [.data, .data, .data], laidTests := true, laidLooks := .later }
def JournalChainedUptoCardSaid : Prop := Claim7.holds Tryd.pinned (.plain (OpenSpec.upto journalChainedSpec)) journalChainedUptoCard

/-- THE SECOND FORM's CARD OF 'signallinglaw55.JournalVerifies'. -/
def journalVerifiesUptoCard : Claim7 := { stood := { row := journalVerifiesUptoRow, standIns := [], harness := (true, "0f78c58bfb5258f0200cd9e35da9ef61fbe7bf6fad8f89c404dd647e16120ea8"), looks := true }, kinds := [], alts := [], laidByText := true, laidKinds := [.data, .data, .data], laidTests := true, laidLooks := .later }
def JournalVerifiesUptoCardSaid : Prop := Claim7.holds Tryd.pinned (.plain (OpenSpec.upto journalVerifiesSpec)) journalVerifiesUptoCard

/-- THE SECOND FORM's CARD OF 'signallinglaw55.JournalParses'. -/
def journalParsesUptoCard : Claim7 := { stood := { row := journalParsesUptoRow, standIns := [], harness := (true, "0f78c58bfb5258f0200cd9e35da9ef61fbe7bf6fad8f89c404dd647e16120ea8"), looks := true }, kinds := [], alts := [], laidByText := true, laidKinds := [.data, .data, .data, .sentinel, .sentinel], laidTests := true, laidLooks := .later }
def JournalParsesUptoCardSaid : Prop := Claim7.holds Tryd.pinned (.plain (OpenSpec.upto journalParsesSpec)) journalParsesUptoCard

/-- THE SECOND FORM's CARD OF 'signallinglaw55.JournalReturns'. -/
def journalReturnsUptoCard : Claim7 := { stood := { row := journalReturnsUptoRow, standIns := [], harness := (true, "0f78c58bfb5258f0200cd9e35da9ef61fbe7bf6fad8f89c404dd647e16120ea8"), looks := true }, kinds := [], alts := [], laidByText := true, laidKinds := [.data, .data, .data, .sentinel, .sentinel], laidTests := true, laidLooks := .later }
def JournalReturnsUptoCardSaid : Prop := Claim7.holds Tryd.pinned (.plain (OpenSpec.upto journalReturnsSpec)) journalReturnsUptoCard
end Rows
end Go.Proofs.YtnckainiphlndaaDoor
