/-
  DERIVED. GIVEN WITH THE SEED: THE CARDS: each row of YtpncahklapfoaaaDoorRows.lean that lists a variable, with what it lists TIED to the program's text (the seventh form; the later family's looks); each row that meets fmt, with fmt's text TOLD by the authors' own Lean function (tested against real Go, not proved from fmt's source: count such statements apart). THE CARD IS WHAT COUNTS. Prove the row's statement (the work); the ties are given (YtpncahklapfoaaaDoorTie.lean); close each card by the builder's one call (the guide's Derived/Test/ToyasCard.lean, 'card_holds'). Laid BY PROGRAM, IN A SANDBOX (cutbox-door.mjs). By AI agents, Wed Nov 11 2026. No macro, syntax, notation, axiom, sorry.
-/
import Derived.Test.YtpncahklapfoaaaDoorRows
import GoSem.ClaimSeven
namespace Go.Proofs.YtpncahklapfoaaaDoor
namespace Rows

/-- THE TIED CARD OF 'postroomkeep.BatchBack'. -/
def batchBackCard : Claim7 := { stood := { row := batchBackRow, standIns := [], harness := (true, "cae283ca6183070e2418a99fc28b82bbc034788c941c08a7b502c30108634a09"), looks := true }, kinds := [], alts := [], laidByText := true, laidKinds := [.data, .pinned], laidTests := true, laidLooks := .later }
def BatchBackCardSaid : Prop := Claim7.holds Tryd.pinned (.plain (OpenSpec.ofChange batchBackSpec)) batchBackCard

/-- THE TIED CARD OF 'postroomkeep.BatchFixed'. -/
def batchFixedCard : Claim7 := { stood := { row := batchFixedRow, standIns := [], harness := (true, "cae283ca6183070e2418a99fc28b82bbc034788c941c08a7b502c30108634a09"), looks := true }, kinds := [], alts := [], laidByText := true, laidKinds := [.data, .pinned], laidTests := true, laidLooks := .later }
def BatchFixedCardSaid : Prop := Claim7.holds Tryd.pinned (.plain (OpenSpec.ofChange batchFixedSpec)) batchFixedCard

/-- THE TIED CARD OF 'postroomkeep.BatchTorn'. -/
def batchTornCard : Claim7 := { stood := { row := batchTornRow, standIns := [], harness := (true, "cae283ca6183070e2418a99fc28b82bbc034788c941c08a7b502c30108634a09"), looks := true }, kinds := [], alts := [], laidByText := true, laidKinds := [.data, .pinned], laidTests := true, laidLooks := .later }
def BatchTornCardSaid : Prop := Claim7.holds Tryd.pinned (.plain (OpenSpec.ofChange batchTornSpec)) batchTornCard

/-- THE TIED CARD OF 'postroomkeep.BookTorn'. -/
def bookTornCard : Claim7 := { stood := { row := bookTornRow, standIns := [], harness := (true, "cae283ca6183070e2418a99fc28b82bbc034788c941c08a7b502c30108634a09"), looks := true }, kinds := [], alts := [], laidByText := true, laidKinds := [.data, .pinned], laidTests := true, laidLooks := .later }
def BookTornCardSaid : Prop := Claim7.holds Tryd.pinned (.plain (OpenSpec.ofChange bookTornSpec)) bookTornCard

/-- THE TIED CARD OF 'postroomkeep.BookOn'. -/
def bookOnCard : Claim7 := { stood := { row := bookOnRow, standIns := [], harness := (true, "cae283ca6183070e2418a99fc28b82bbc034788c941c08a7b502c30108634a09"), looks := true }, kinds := [], alts := [], laidByText := true, laidKinds := [.data, .pinned], laidTests := true, laidLooks := .later }
def BookOnCardSaid : Prop := Claim7.holds Tryd.pinned (.plain (OpenSpec.ofChange bookOnSpec)) bookOnCard

/-- THE TIED CARD OF 'postroomkeep.BookKeeps'. -/
def bookKeepsCard : Claim7 := { stood := { row := bookKeepsRow, standIns := [], harness := (true, "cae283ca6183070e2418a99fc28b82bbc034788c941c08a7b502c30108634a09"), looks := true }, kinds := [], alts := [], laidByText := true, laidKinds := [.data, .pinned], laidTests := true, laidLooks := .later }
def BookKeepsCardSaid : Prop := Claim7.holds Tryd.pinned (.plain (OpenSpec.ofChange bookKeepsSpec)) bookKeepsCard

/-- THE TIED CARD OF 'postroomkeep.BookSynced'. -/
def bookSyncedCard : Claim7 := { stood := { row := bookSyncedRow, standIns := [], harness := (true, "cae283ca6183070e2418a99fc28b82bbc034788c941c08a7b502c30108634a09"), looks := true }, kinds := [], alts := [], laidByText := true, laidKinds := [.data, .pinned], laidTests := true, laidLooks := .later }
def BookSyncedCardSaid : Prop := Claim7.holds Tryd.pinned (.plain (OpenSpec.ofChange bookSyncedSpec)) bookSyncedCard

/-- THE TIED CARD OF 'postroomkeep.FoldParts'. -/
def foldPartsCard : Claim7 := { stood := { row := foldPartsRow, standIns := [], harness := (true, "cae283ca6183070e2418a99fc28b82bbc034788c941c08a7b502c30108634a09"), looks := true }, kinds := [], alts := [], laidByText := true, laidKinds := [.data, .pinned], laidTests := true, laidLooks := .later }
def FoldPartsCardSaid : Prop := Claim7.holds Tryd.pinned (.plain (OpenSpec.ofChange foldPartsSpec)) foldPartsCard

/-- THE SECOND FORM's CARD OF 'postroomkeep.BatchBack'. -/
def batchBackUptoCard : Claim7 := { stood := { row := batchBackUptoRow, standIns := [], harness := (true, "cae283ca6183070e2418a99fc28b82bbc034788c941c08a7b502c30108634a09"), looks := true }, kinds := [], alts := [], laidByText := true, laidKinds := [.data, .pinned], laidTests := true, laidLooks := .later }
def BatchBackUptoCardSaid : Prop := Claim7.holds Tryd.pinned (.plain (OpenSpec.upto batchBackSpec)) batchBackUptoCard

/-- THE SECOND FORM's CARD OF 'postroomkeep.BatchFixed'. -/
def batchFixedUptoCard : Claim7 := { stood := { row := batchFixedUptoRow, standIns := [], harness := (true, "cae283ca6183070e2418a99fc28b82bbc034788c941c08a7b502c30108634a09"), looks := true }, kinds := [], alts := [], laidByText := true, laidKinds := [.data, .pinned], laidTests := true, laidLooks := .later }
def BatchFixedUptoCardSaid : Prop := Claim7.holds Tryd.pinned (.plain (OpenSpec.upto batchFixedSpec)) batchFixedUptoCard

/-- THE SECOND FORM's CARD OF 'postroomkeep.BatchTorn'. -/
def batchTornUptoCard : Claim7 := { stood := { row := batchTornUptoRow, standIns := [], harness := (true, "cae283ca6183070e2418a99fc28b82bbc034788c941c08a7b502c30108634a09"), looks := true }, kinds := [], alts := [], laidByText := true, laidKinds := [.data, .pinned], laidTests := true, laidLooks := .later }
def BatchTornUptoCardSaid : Prop := Claim7.holds Tryd.pinned (.plain (OpenSpec.upto batchTornSpec)) batchTornUptoCard

/-- THE SECOND FORM's CARD OF 'postroomkeep.BookTorn'. -/
def bookTornUptoCard : Claim7 := { stood := { row := bookTornUptoRow, standIns := [], harness := (true, "cae283ca6183070e2418a99fc28b82bbc034788c941c08a7b502c30108634a09"), looks := true }, kinds := [], alts := [], laidByText := true, laidKinds := [.data, .pinned], laidTests := true, laidLooks := .later }
def BookTornUptoCardSaid : Prop := Claim7.holds Tryd.pinned (.plain (OpenSpec.upto bookTornSpec)) bookTornUptoCard

/-- THE SECOND FORM's CARD OF 'postroomkeep.BookOn'. -/
def bookOnUptoCard : Claim7 := { stood := { row := bookOnUptoRow, standIns := [], harness := (true, "cae283ca6183070e2418a99fc28b82bbc034788c941c08a7b502c30108634a09"), looks := true }, kinds := [], alts := [], laidByText := true, laidKinds := [.data, .pinned], laidTests := true, laidLooks := .later }
def BookOnUptoCardSaid : Prop := Claim7.holds Tryd.pinned (.plain (OpenSpec.upto bookOnSpec)) bookOnUptoCard

/-- THE SECOND FORM's CARD OF 'postroomkeep.BookKeeps'. -/
def bookKeepsUptoCard : Claim7 := { stood := { row := bookKeepsUptoRow, standIns := [], harness := (true, "cae283ca6183070e2418a99fc28b82bbc034788c941c08a7b502c30108634a09"), looks := true }, kinds := [], alts := [], laidByText := true, laidKinds := [.data, .pinned], laidTests := true, laidLooks := .later }
def BookKeepsUptoCardSaid : Prop := Claim7.holds Tryd.pinned (.plain (OpenSpec.upto bookKeepsSpec)) bookKeepsUptoCard

/-- THE SECOND FORM's CARD OF 'postroomkeep.BookSynced'. -/
def bookSyncedUptoCard : Claim7 := { stood := { row := bookSyncedUptoRow, standIns := [], harness := (true, "cae283ca6183070e2418a99fc28b82bbc034788c941c08a7b502c30108634a09"), looks := true }, kinds := [], alts := [], laidByText := true, laidKinds := [.data, .pinned], laidTests := true, laidLooks := .later }
def BookSyncedUptoCardSaid : Prop := Claim7.holds Tryd.pinned (.plain (OpenSpec.upto bookSyncedSpec)) bookSyncedUptoCard

/-- THE SECOND FORM's CARD OF 'postroomkeep.FoldParts'. -/
def foldPartsUptoCard : Claim7 := { stood := { row := foldPartsUptoRow, standIns := [], harness := (true, "cae283ca6183070e2418a99fc28b82bbc034788c941c08a7b502c30108634a09"), looks := true }, kinds := [], alts := [], laidByText := true, laidKinds := [.data, .pinned], laidTests := true, laidLooks := .later }
def FoldPartsUptoCardSaid : Prop := Claim7.holds Tryd.pinned (.plain (OpenSpec.upto foldPartsSpec)) foldPartsUptoCard
end Rows
end Go.Proofs.YtpncahklapfoaaaDoor
