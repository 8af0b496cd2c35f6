/-
  DERIVED. GIVEN WITH THE SEED: THE CARDS: each row of YtbddahdkjngecaaDoorRows.lean that lists a variable, with what it lists TIED to the program's text (the seventh form; the later family's looks); each row that meets fmt, with fmt's text TOLD by the authors' own Lean function (tested against real Go, not proved from fmt's source: count such statements apart). THE CARD IS WHAT COUNTS. Prove the row's statement (the work); the ties are given (YtbddahdkjngecaaDoorTie.lean); close each card by the builder's one call (the guide's Derived/Test/ToyasCard.lean, 'card_holds'). Laid BY PROGRAM, IN A SANDBOX (cutbox-door.mjs). By AI agents, Wed Nov 11 2026. No macro, syntax, notation, axiom, sorry.
-/
import Derived.Test.YtbddahdkjngecaaDoorRows
import GoSem.ClaimSeven
namespace Go.Proofs.YtbddahdkjngecaaDoor
namespace Rows

/-- THE TIED CARD OF 'postroomkeep.ExpungeAll'. -/
def expungeAllCard : Claim7 := { stood := { row := expungeAllRow, standIns := [], harness := (true, "3f85adada39810748a0cb5ceeecf1c36d8d501ec3d5a8040ce5719b060cead3f"), looks := true }, kinds := [], alts := [], laidByText := true, laidKinds := [.data, .pinned], laidTests := true, laidLooks := .later }
def ExpungeAllCardSaid : Prop := Claim7.holds Tryd.pinned (.plain (OpenSpec.ofChange expungeAllSpec)) expungeAllCard

/-- THE TIED CARD OF 'postroomkeep.CopySame'. -/
def copySameCard : Claim7 := { stood := { row := copySameRow, standIns := [], harness := (true, "3f85adada39810748a0cb5ceeecf1c36d8d501ec3d5a8040ce5719b060cead3f"), looks := true }, kinds := [], alts := [], laidByText := true, laidKinds := [.data, .pinned], laidTests := true, laidLooks := .later }
def CopySameCardSaid : Prop := Claim7.holds Tryd.pinned (.plain (OpenSpec.ofChange copySameSpec)) copySameCard

/-- THE TIED CARD OF 'postroomkeep.CreateOnce'. -/
def createOnceCard : Claim7 := { stood := { row := createOnceRow, standIns := [], harness := (true, "3f85adada39810748a0cb5ceeecf1c36d8d501ec3d5a8040ce5719b060cead3f"), looks := true }, kinds := [], alts := [], laidByText := true, laidKinds := [.data, .pinned], laidTests := true, laidLooks := .later }
def CreateOnceCardSaid : Prop := Claim7.holds Tryd.pinned (.plain (OpenSpec.ofChange createOnceSpec)) createOnceCard

/-- THE TIED CARD OF 'postroomkeep.AllParts'. -/
def allPartsCard : Claim7 := { stood := { row := allPartsRow, standIns := [], harness := (true, "3f85adada39810748a0cb5ceeecf1c36d8d501ec3d5a8040ce5719b060cead3f"), looks := true }, kinds := [], alts := [], laidByText := true, laidKinds := [.data, .pinned], laidTests := true, laidLooks := .later }
def AllPartsCardSaid : Prop := Claim7.holds Tryd.pinned (.plain (OpenSpec.ofChange allPartsSpec)) allPartsCard

/-- THE TIED CARD OF 'postroomkeep.SpoolLast'. -/
def spoolLastCard : Claim7 := { stood := { row := spoolLastRow, standIns := [], harness := (true, "3f85adada39810748a0cb5ceeecf1c36d8d501ec3d5a8040ce5719b060cead3f"), looks := true }, kinds := [], alts := [], laidByText := true, laidKinds := [.data, .pinned], laidTests := true, laidLooks := .later }
def SpoolLastCardSaid : Prop := Claim7.holds Tryd.pinned (.plain (OpenSpec.ofChange spoolLastSpec)) spoolLastCard

/-- THE TIED CARD OF 'postroomkeep.StateMay'. -/
def stateMayCard : Claim7 := { stood := { row := stateMayRow, standIns := [], harness := (true, "3f85adada39810748a0cb5ceeecf1c36d8d501ec3d5a8040ce5719b060cead3f"), looks := true }, kinds := [], alts := [], laidByText := true, laidKinds := [.data, .pinned], laidTests := true, laidLooks := .later }
def StateMayCardSaid : Prop := Claim7.holds Tryd.pinned (.plain (OpenSpec.ofChange stateMaySpec)) stateMayCard

/-- THE TIED CARD OF 'postroomkeep.AppendLast'. -/
def appendLastCard : Claim7 := { stood := { row := appendLastRow, standIns := [], harness := (true, "3f85adada39810748a0cb5ceeecf1c36d8d501ec3d5a8040ce5719b060cead3f"), looks := true }, kinds := [], alts := [], laidByText := true, laidKinds := [.data, .pinned], laidTests := true, laidLooks := .later }
def AppendLastCardSaid : Prop := Claim7.holds Tryd.pinned (.plain (OpenSpec.ofChange appendLastSpec)) appendLastCard

/-- THE TIED CARD OF 'postroomkeep.FlagOnly'. -/
def flagOnlyCard : Claim7 := { stood := { row := flagOnlyRow, standIns := [], harness := (true, "3f85adada39810748a0cb5ceeecf1c36d8d501ec3d5a8040ce5719b060cead3f"), looks := true }, kinds := [], alts := [], laidByText := true, laidKinds := [.data, .pinned], laidTests := true, laidLooks := .later }
def FlagOnlyCardSaid : Prop := Claim7.holds Tryd.pinned (.plain (OpenSpec.ofChange flagOnlySpec)) flagOnlyCard

/-- THE SECOND FORM's CARD OF 'postroomkeep.ExpungeAll'. -/
def expungeAllUptoCard : Claim7 := { stood := { row := expungeAllUptoRow, standIns := [], harness := (true, "3f85adada39810748a0cb5ceeecf1c36d8d501ec3d5a8040ce5719b060cead3f"), looks := true }, kinds := [], alts := [], laidByText := true, laidKinds := [.data, .pinned], laidTests := true, laidLooks := .later }
def ExpungeAllUptoCardSaid : Prop := Claim7.holds Tryd.pinned (.plain (OpenSpec.upto expungeAllSpec)) expungeAllUptoCard

/-- THE SECOND FORM's CARD OF 'postroomkeep.CopySame'. -/
def copySameUptoCard : Claim7 := { stood := { row := copySameUptoRow, standIns := [], harness := (true, "3f85adada39810748a0cb5ceeecf1c36d8d501ec3d5a8040ce5719b060cead3f"), looks := true }, kinds := [], alts := [], laidByText := true, laidKinds := [.data, .pinned], laidTests := true, laidLooks := .later }
def CopySameUptoCardSaid : Prop := Claim7.holds Tryd.pinned (.plain (OpenSpec.upto copySameSpec)) copySameUptoCard

/-- THE SECOND FORM's CARD OF 'postroomkeep.CreateOnce'. -/
def createOnceUptoCard : Claim7 := { stood := { row := createOnceUptoRow, standIns := [], harness := (true, "3f85adada39810748a0cb5ceeecf1c36d8d501ec3d5a8040ce5719b060cead3f"), looks := true }, kinds := [], alts := [], laidByText := true, laidKinds := [.data, .pinned], laidTests := true, laidLooks := .later }
def CreateOnceUptoCardSaid : Prop := Claim7.holds Tryd.pinned (.plain (OpenSpec.upto createOnceSpec)) createOnceUptoCard

/-- THE SECOND FORM's CARD OF 'postroomkeep.AllParts'. -/
def allPartsUptoCard : Claim7 := { stood := { row := allPartsUptoRow, standIns := [], harness := (true, "3f85adada39810748a0cb5ceeecf1c36d8d501ec3d5a8040ce5719b060cead3f"), looks := true }, kinds := [], alts := [], laidByText := true, laidKinds := [.data, .pinned], laidTests := true, laidLooks := .later }
def AllPartsUptoCardSaid : Prop := Claim7.holds Tryd.pinned (.plain (OpenSpec.upto allPartsSpec)) allPartsUptoCard

/-- THE SECOND FORM's CARD OF 'postroomkeep.SpoolLast'. -/
def spoolLastUptoCard : Claim7 := { stood := { row := spoolLastUptoRow, standIns := [], harness := (true, "3f85adada39810748a0cb5ceeecf1c36d8d501ec3d5a8040ce5719b060cead3f"), looks := true }, kinds := [], alts := [], laidByText := true, laidKinds := [.data, .pinned], laidTests := true, laidLooks := .later }
def SpoolLastUptoCardSaid : Prop := Claim7.holds Tryd.pinned (.plain (OpenSpec.upto spoolLastSpec)) spoolLastUptoCard

/-- THE SECOND FORM's CARD OF 'postroomkeep.StateMay'. -/
def stateMayUptoCard : Claim7 := { stood := { row := stateMayUptoRow, standIns := [], harness := (true, "3f85adada39810748a0cb5ceeecf1c36d8d501ec3d5a8040ce5719b060cead3f"), looks := true }, kinds := [], alts := [], laidByText := true, laidKinds := [.data, .pinned], laidTests := true, laidLooks := .later }
def StateMayUptoCardSaid : Prop := Claim7.holds Tryd.pinned (.plain (OpenSpec.upto stateMaySpec)) stateMayUptoCard

/-- THE SECOND FORM's CARD OF 'postroomkeep.AppendLast'. -/
def appendLastUptoCard : Claim7 := { stood := { row := appendLastUptoRow, standIns := [], harness := (true, "3f85adada39810748a0cb5ceeecf1c36d8d501ec3d5a8040ce5719b060cead3f"), looks := true }, kinds := [], alts := [], laidByText := true, laidKinds := [.data, .pinned], laidTests := true, laidLooks := .later }
def AppendLastUptoCardSaid : Prop := Claim7.holds Tryd.pinned (.plain (OpenSpec.upto appendLastSpec)) appendLastUptoCard

/-- THE SECOND FORM's CARD OF 'postroomkeep.FlagOnly'. -/
def flagOnlyUptoCard : Claim7 := { stood := { row := flagOnlyUptoRow, standIns := [], harness := (true, "3f85adada39810748a0cb5ceeecf1c36d8d501ec3d5a8040ce5719b060cead3f"), looks := true }, kinds := [], alts := [], laidByText := true, laidKinds := [.data, .pinned], laidTests := true, laidLooks := .later }
def FlagOnlyUptoCardSaid : Prop := Claim7.holds Tryd.pinned (.plain (OpenSpec.upto flagOnlySpec)) flagOnlyUptoCard
end Rows
end Go.Proofs.YtbddahdkjngecaaDoor
