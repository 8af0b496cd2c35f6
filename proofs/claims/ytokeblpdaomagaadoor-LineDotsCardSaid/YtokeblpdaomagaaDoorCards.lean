/-
  DERIVED. GIVEN WITH THE SEED: THE CARDS: each row of YtokeblpdaomagaaDoorRows.lean that lists a variable, with what it lists TIED to the program's text (the seventh form; the later family's looks); each row that meets fmt, with fmt's text TOLD by the authors' own Lean function (tested against real Go, not proved from fmt's source: count such statements apart). THE CARD IS WHAT COUNTS. Prove the row's statement (the work); the ties are given (YtokeblpdaomagaaDoorTie.lean); close each card by the builder's one call (the guide's Derived/Test/ToyasCard.lean, 'card_holds'). Laid BY PROGRAM, IN A SANDBOX (cutbox-door.mjs). By AI agents, Wed Nov 11 2026. No macro, syntax, notation, axiom, sorry.
-/
import Derived.Test.YtokeblpdaomagaaDoorRows
import GoSem.ClaimSeven
namespace Go.Proofs.YtokeblpdaomagaaDoor
namespace Rows

/-- THE TIED CARD OF 'postroomkeep.LineOrder'. -/
def lineOrderCard : Claim7 := { stood := { row := lineOrderRow, standIns := [], harness := (true, "a638904a8241ea6367fa12e66611b5e645c9c61313a30ab82122d452146c1002"), looks := true }, kinds := [], alts := [], laidByText := true, laidKinds := [.data, .pinned], laidTests := true, laidLooks := .later }
def LineOrderCardSaid : Prop := Claim7.holds Tryd.pinned (.plain (OpenSpec.ofChange lineOrderSpec)) lineOrderCard

/-- THE TIED CARD OF 'postroomkeep.LineOdd'. -/
def lineOddCard : Claim7 := { stood := { row := lineOddRow, standIns := [], harness := (true, "a638904a8241ea6367fa12e66611b5e645c9c61313a30ab82122d452146c1002"), looks := true }, kinds := [], alts := [], laidByText := true, laidKinds := [.data, .pinned], laidTests := true, laidLooks := .later }
def LineOddCardSaid : Prop := Claim7.holds Tryd.pinned (.plain (OpenSpec.ofChange lineOddSpec)) lineOddCard

/-- THE TIED CARD OF 'postroomkeep.LineLarge'. -/
def lineLargeCard : Claim7 := { stood := { row := lineLargeRow, standIns := [], harness := (true, "a638904a8241ea6367fa12e66611b5e645c9c61313a30ab82122d452146c1002"), looks := true }, kinds := [], alts := [], laidByText := true, laidKinds := [.data, .pinned], laidTests := true, laidLooks := .later }
def LineLargeCardSaid : Prop := Claim7.holds Tryd.pinned (.plain (OpenSpec.ofChange lineLargeSpec)) lineLargeCard

/-- THE TIED CARD OF 'postroomkeep.LineMany'. -/
def lineManyCard : Claim7 := { stood := { row := lineManyRow, standIns := [], harness := (true, "a638904a8241ea6367fa12e66611b5e645c9c61313a30ab82122d452146c1002"), looks := true }, kinds := [], alts := [], laidByText := true, laidKinds := [.data, .pinned], laidTests := true, laidLooks := .later }
def LineManyCardSaid : Prop := Claim7.holds Tryd.pinned (.plain (OpenSpec.ofChange lineManySpec)) lineManyCard

/-- THE TIED CARD OF 'postroomkeep.LineDots'. -/
def lineDotsCard : Claim7 := { stood := { row := lineDotsRow, standIns := [], harness := (true, "a638904a8241ea6367fa12e66611b5e645c9c61313a30ab82122d452146c1002"), looks := true }, kinds := [], alts := [], laidByText := true, laidKinds := [.data, .pinned], laidTests := true, laidLooks := .later }
def LineDotsCardSaid : Prop := Claim7.holds Tryd.pinned (.plain (OpenSpec.ofChange lineDotsSpec)) lineDotsCard

/-- THE TIED CARD OF 'postroomkeep.LineLetter'. -/
def lineLetterCard : Claim7 := { stood := { row := lineLetterRow, standIns := [], harness := (true, "a638904a8241ea6367fa12e66611b5e645c9c61313a30ab82122d452146c1002"), looks := true }, kinds := [], alts := [], laidByText := true, laidKinds := [.data, .pinned], laidTests := true, laidLooks := .later }
def LineLetterCardSaid : Prop := Claim7.holds Tryd.pinned (.plain (OpenSpec.ofChange lineLetterSpec)) lineLetterCard

/-- THE SECOND FORM's CARD OF 'postroomkeep.LineOrder'. -/
def lineOrderUptoCard : Claim7 := { stood := { row := lineOrderUptoRow, standIns := [], harness := (true, "a638904a8241ea6367fa12e66611b5e645c9c61313a30ab82122d452146c1002"), looks := true }, kinds := [], alts := [], laidByText := true, laidKinds := [.data, .pinned], laidTests := true, laidLooks := .later }
def LineOrderUptoCardSaid : Prop := Claim7.holds Tryd.pinned (.plain (OpenSpec.upto lineOrderSpec)) lineOrderUptoCard

/-- THE SECOND FORM's CARD OF 'postroomkeep.LineOdd'. -/
def lineOddUptoCard : Claim7 := { stood := { row := lineOddUptoRow, standIns := [], harness := (true, "a638904a8241ea6367fa12e66611b5e645c9c61313a30ab82122d452146c1002"), looks := true }, kinds := [], alts := [], laidByText := true, laidKinds := [.data, .pinned], laidTests := true, laidLooks := .later }
def LineOddUptoCardSaid : Prop := Claim7.holds Tryd.pinned (.plain (OpenSpec.upto lineOddSpec)) lineOddUptoCard

/-- THE SECOND FORM's CARD OF 'postroomkeep.LineLarge'. -/
def lineLargeUptoCard : Claim7 := { stood := { row := lineLargeUptoRow, standIns := [], harness := (true, "a638904a8241ea6367fa12e66611b5e645c9c61313a30ab82122d452146c1002"), looks := true }, kinds := [], alts := [], laidByText := true, laidKinds := [.data, .pinned], laidTests := true, laidLooks := .later }
def LineLargeUptoCardSaid : Prop := Claim7.holds Tryd.pinned (.plain (OpenSpec.upto lineLargeSpec)) lineLargeUptoCard

/-- THE SECOND FORM's CARD OF 'postroomkeep.LineMany'. -/
def lineManyUptoCard : Claim7 := { stood := { row := lineManyUptoRow, standIns := [], harness := (true, "a638904a8241ea6367fa12e66611b5e645c9c61313a30ab82122d452146c1002"), looks := true }, kinds := [], alts := [], laidByText := true, laidKinds := [.data, .pinned], laidTests := true, laidLooks := .later }
def LineManyUptoCardSaid : Prop := Claim7.holds Tryd.pinned (.plain (OpenSpec.upto lineManySpec)) lineManyUptoCard

/-- THE SECOND FORM's CARD OF 'postroomkeep.LineDots'. -/
def lineDotsUptoCard : Claim7 := { stood := { row := lineDotsUptoRow, standIns := [], harness := (true, "a638904a8241ea6367fa12e66611b5e645c9c61313a30ab82122d452146c1002"), looks := true }, kinds := [], alts := [], laidByText := true, laidKinds := [.data, .pinned], laidTests := true, laidLooks := .later }
def LineDotsUptoCardSaid : Prop := Claim7.holds Tryd.pinned (.plain (OpenSpec.upto lineDotsSpec)) lineDotsUptoCard

/-- THE SECOND FORM's CARD OF 'postroomkeep.LineLetter'. -/
def lineLetterUptoCard : Claim7 := { stood := { row := lineLetterUptoRow, standIns := [], harness := (true, "a638904a8241ea6367fa12e66611b5e645c9c61313a30ab82122d452146c1002"), looks := true }, kinds := [], alts := [], laidByText := true, laidKinds := [.data, .pinned], laidTests := true, laidLooks := .later }
def LineLetterUptoCardSaid : Prop := Claim7.holds Tryd.pinned (.plain (OpenSpec.upto lineLetterSpec)) lineLetterUptoCard
end Rows
end Go.Proofs.YtokeblpdaomagaaDoor
