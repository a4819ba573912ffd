/-
  DERIVED. GIVEN WITH THE SEED: THE CARDS: each row of YtfmholpbpghojaaDoorRows.lean that lists a variable, with what it lists TIED to the program's text (the seventh form; the later family's looks); each row that meets fmt, with fmt's text TOLD by the authors' own Lean function (tested against real Go, not proved from fmt's source: count such statements apart). THE CARD IS WHAT COUNTS. Prove the row's statement (the work); the ties are given (YtfmholpbpghojaaDoorTie.lean); close each card by the builder's one call (the guide's Derived/Test/ToyasCard.lean, 'card_holds'). Laid BY PROGRAM, IN A SANDBOX (cutbox-door.mjs). By AI agents, Wed Nov 11 2026. No macro, syntax, notation, axiom, sorry.
-/
import Derived.Test.YtfmholpbpghojaaDoorRows
import GoSem.ClaimSeven
namespace Go.Proofs.YtfmholpbpghojaaDoor
namespace Rows

/-- THE TIED CARD OF 'lecternlaw08.SchemaChecks'. -/
def schemaChecksCard : Claim7 := { stood := { row := schemaChecksRow, standIns := [], harness := (true, "eb9ee8c971b89bd8e5bd957b1b109bb644d789fa7b61ff4a8a19c9592a796512"), looks := true }, kinds := [], alts := [], laidByText := true, laidKinds := [.data, .pinned], laidTests := true, laidLooks := .later }
def SchemaChecksCardSaid : Prop := Claim7.holds Tryd.pinned (.plain (OpenSpec.ofChange schemaChecksSpec)) schemaChecksCard

/-- THE TIED CARD OF 'lecternlaw07.OrderWritten'. -/
def orderWrittenCard : Claim7 := { stood := { row := orderWrittenRow, standIns := [], harness := (true, "eb9ee8c971b89bd8e5bd957b1b109bb644d789fa7b61ff4a8a19c9592a796512"), looks := true }, kinds := [], alts := [], laidByText := true, laidKinds := [.data, .data, .data, .sentinel, .sentinel], laidTests := true, laidLooks := .later }
def OrderWrittenCardSaid : Prop := Claim7.holds Tryd.pinned (.plain (OpenSpec.ofChange orderWrittenSpec)) orderWrittenCard

/-- THE TIED CARD OF 'lecternlaw07.OrderOrder'. -/
def orderOrderCard : Claim7 := { stood := { row := orderOrderRow, standIns := [], harness := (true, "eb9ee8c971b89bd8e5bd957b1b109bb644d789fa7b61ff4a8a19c9592a796512"), looks := true }, kinds := [], alts := [], laidByText := true, laidKinds := [.data, .data, .data, .sentinel, .sentinel], laidTests := true, laidLooks := .later }
def OrderOrderCardSaid : Prop := Claim7.holds Tryd.pinned (.plain (OpenSpec.ofChange orderOrderSpec)) orderOrderCard

/-- THE TIED CARD OF 'lecternlaw07.OrderKnown'. -/
def orderKnownCard : Claim7 := { stood := { row := orderKnownRow, standIns := [], harness := (true, "eb9ee8c971b89bd8e5bd957b1b109bb644d789fa7b61ff4a8a19c9592a796512"), looks := true }, kinds := [], alts := [], laidByText := true, laidKinds := [.data, .data, .data, .sentinel, .sentinel], laidTests := true, laidLooks := .later }
def OrderKnownCardSaid : Prop := Claim7.holds Tryd.pinned (.plain (OpenSpec.ofChange orderKnownSpec)) orderKnownCard

/-- THE TIED CARD OF 'lecternlaw07.OrderBytes'. -/
def orderBytesCard : Claim7 := { stood := { row := orderBytesRow, standIns := [], harness := (true, "eb9ee8c971b89bd8e5bd957b1b109bb644d789fa7b61ff4a8a19c9592a796512"), looks := true }, kinds := [], alts := [], laidByText := true, laidKinds := [.data, .data, .data, .sentinel, .sentinel], laidTests := true, laidLooks := .later }
def OrderBytesCardSaid : Prop := Claim7.holds Tryd.pinned (.plain (OpenSpec.ofChange orderBytesSpec)) orderBytesCard

/-- THE SECOND FORM's CARD OF 'lecternlaw08.SchemaChecks'. -/
def schemaChecksUptoCard : Claim7 := { stood := { row := schemaChecksUptoRow, standIns := [], harness := (true, "eb9ee8c971b89bd8e5bd957b1b109bb644d789fa7b61ff4a8a19c9592a796512"), looks := true }, kinds := [], alts := [], laidByText := true, laidKinds := [.data, .pinned], laidTests := true, laidLooks := .later }
def SchemaChecksUptoCardSaid : Prop := Claim7.holds Tryd.pinned (.plain (OpenSpec.upto schemaChecksSpec)) schemaChecksUptoCard

/-- THE SECOND FORM's CARD OF 'lecternlaw07.OrderWritten'. -/
def orderWrittenUptoCard : Claim7 := { stood := { row := orderWrittenUptoRow, standIns := [], harness := (true, "eb9ee8c971b89bd8e5bd957b1b109bb644d789fa7b61ff4a8a19c9592a796512"), looks := true }, kinds := [], alts := [], laidByText := true, laidKinds := [.data, .data, .data, .sentinel, .sentinel], laidTests := true, laidLooks := .later }
def OrderWrittenUptoCardSaid : Prop := Claim7.holds Tryd.pinned (.plain (OpenSpec.upto orderWrittenSpec)) orderWrittenUptoCard

/-- THE SECOND FORM's CARD OF 'lecternlaw07.OrderOrder'. -/
def orderOrderUptoCard : Claim7 := { stood := { row := orderOrderUptoRow, standIns := [], harness := (true, "eb9ee8c971b89bd8e5bd957b1b109bb644d789fa7b61ff4a8a19c9592a796512"), looks := true }, kinds := [], alts := [], laidByText := true, laidKinds := [.data, .data, .data, .sentinel, .sentinel], laidTests := true, laidLooks := .later }
def OrderOrderUptoCardSaid : Prop := Claim7.holds Tryd.pinned (.plain (OpenSpec.upto orderOrderSpec)) orderOrderUptoCard

/-- THE SECOND FORM's CARD OF 'lecternlaw07.OrderKnown'. -/
def orderKnownUptoCard : Claim7 := { stood := { row := orderKnownUptoRow, standIns := [], harness := (true, "eb9ee8c971b89bd8e5bd957b1b109bb644d789fa7b61ff4a8a19c9592a796512"), looks := true }, kinds := [], alts := [], laidByText := true, laidKinds := [.data, .data, .data, .sentinel, .sentinel], laidTests := true, laidLooks := .later }
def OrderKnownUptoCardSaid : Prop := Claim7.holds Tryd.pinned (.plain (OpenSpec.upto orderKnownSpec)) orderKnownUptoCard

/-- THE SECOND FORM's CARD OF 'lecternlaw07.OrderBytes'. -/
def orderBytesUptoCard : Claim7 := { stood := { row := orderBytesUptoRow, standIns := [], harness := (true, "eb9ee8c971b89bd8e5bd957b1b109bb644d789fa7b61ff4a8a19c9592a796512"), looks := true }, kinds := [], alts := [], laidByText := true, laidKinds := [.data, .data, .data, .sentinel, .sentinel], laidTests := true, laidLooks := .later }
def OrderBytesUptoCardSaid : Prop := Claim7.holds Tryd.pinned (.plain (OpenSpec.upto orderBytesSpec)) orderBytesUptoCard
end Rows
end Go.Proofs.YtfmholpbpghojaaDoor
