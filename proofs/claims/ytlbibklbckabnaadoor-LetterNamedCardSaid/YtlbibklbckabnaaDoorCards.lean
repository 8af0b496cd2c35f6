/-
  DERIVED. GIVEN WITH THE SEED: THE CARDS: each row of YtlbibklbckabnaaDoorRows.lean that lists a variable, with what it lists TIED to the program's text (the seventh form; the later family's looks); each row that meets fmt, with fmt's text TOLD by the authors' own Lean function (tested against real Go, not proved from fmt's source: count such statements apart). THE CARD IS WHAT COUNTS. Prove the row's statement (the work); the ties are given (YtlbibklbckabnaaDoorTie.lean); close each card by the builder's one call (the guide's Derived/Test/ToyasCard.lean, 'card_holds'). Laid BY PROGRAM, IN A SANDBOX (cutbox-door.mjs). By AI agents, Wed Nov 11 2026. No macro, syntax, notation, axiom, sorry.
-/
import Derived.Test.YtlbibklbckabnaaDoorRows
import GoSem.ClaimSeven
namespace Go.Proofs.YtlbibklbckabnaaDoor
namespace Rows

/-- THE TIED CARD OF 'postroomkeep.WhoPieces'. -/
def whoPiecesCard : Claim7 := { stood := { row := whoPiecesRow, standIns := [], harness := (true, "4d04a72594b02eff3223450c254ec384c7d89b28de4bd9ce47663269f1eb2b41"), looks := true }, kinds := [], alts := [], laidByText := true, laidKinds := [.data, .pinned], laidTests := true, laidLooks := .later }
def WhoPiecesCardSaid : Prop := Claim7.holds Tryd.pinned (.plain (OpenSpec.ofChange whoPiecesSpec)) whoPiecesCard

/-- THE TIED CARD OF 'postroomkeep.WhoFull'. -/
def whoFullCard : Claim7 := { stood := { row := whoFullRow, standIns := [], harness := (true, "4d04a72594b02eff3223450c254ec384c7d89b28de4bd9ce47663269f1eb2b41"), looks := true }, kinds := [], alts := [], laidByText := true, laidKinds := [.data, .pinned], laidTests := true, laidLooks := .later }
def WhoFullCardSaid : Prop := Claim7.holds Tryd.pinned (.plain (OpenSpec.ofChange whoFullSpec)) whoFullCard

/-- THE TIED CARD OF 'postroomkeep.WhoBack'. -/
def whoBackCard : Claim7 := { stood := { row := whoBackRow, standIns := [], harness := (true, "4d04a72594b02eff3223450c254ec384c7d89b28de4bd9ce47663269f1eb2b41"), looks := true }, kinds := [], alts := [], laidByText := true, laidKinds := [.data, .pinned], laidTests := true, laidLooks := .later }
def WhoBackCardSaid : Prop := Claim7.holds Tryd.pinned (.plain (OpenSpec.ofChange whoBackSpec)) whoBackCard

/-- THE TIED CARD OF 'postroomkeep.WhoMany'. -/
def whoManyCard : Claim7 := { stood := { row := whoManyRow, standIns := [], harness := (true, "4d04a72594b02eff3223450c254ec384c7d89b28de4bd9ce47663269f1eb2b41"), looks := true }, kinds := [], alts := [], laidByText := true, laidKinds := [.data, .pinned], laidTests := true, laidLooks := .later }
def WhoManyCardSaid : Prop := Claim7.holds Tryd.pinned (.plain (OpenSpec.ofChange whoManySpec)) whoManyCard

/-- THE TIED CARD OF 'postroomkeep.WhoBad'. -/
def whoBadCard : Claim7 := { stood := { row := whoBadRow, standIns := [], harness := (true, "4d04a72594b02eff3223450c254ec384c7d89b28de4bd9ce47663269f1eb2b41"), looks := true }, kinds := [], alts := [], laidByText := true, laidKinds := [.data, .pinned], laidTests := true, laidLooks := .later }
def WhoBadCardSaid : Prop := Claim7.holds Tryd.pinned (.plain (OpenSpec.ofChange whoBadSpec)) whoBadCard

/-- THE TIED CARD OF 'postroomkeep.LetterPlace'. -/
def letterPlaceCard : Claim7 := { stood := { row := letterPlaceRow, standIns := [], harness := (true, "4d04a72594b02eff3223450c254ec384c7d89b28de4bd9ce47663269f1eb2b41"), looks := true }, kinds := [], alts := [], laidByText := true, laidKinds := [.data, .pinned], laidTests := true, laidLooks := .later }
def LetterPlaceCardSaid : Prop := Claim7.holds Tryd.pinned (.plain (OpenSpec.ofChange letterPlaceSpec)) letterPlaceCard

/-- THE TIED CARD OF 'postroomkeep.LetterBack'. -/
def letterBackCard : Claim7 := { stood := { row := letterBackRow, standIns := [], harness := (true, "4d04a72594b02eff3223450c254ec384c7d89b28de4bd9ce47663269f1eb2b41"), looks := true }, kinds := [], alts := [], laidByText := true, laidKinds := [.data, .pinned], laidTests := true, laidLooks := .later }
def LetterBackCardSaid : Prop := Claim7.holds Tryd.pinned (.plain (OpenSpec.ofChange letterBackSpec)) letterBackCard

/-- THE TIED CARD OF 'postroomkeep.LetterFixed'. -/
def letterFixedCard : Claim7 := { stood := { row := letterFixedRow, standIns := [], harness := (true, "4d04a72594b02eff3223450c254ec384c7d89b28de4bd9ce47663269f1eb2b41"), looks := true }, kinds := [], alts := [], laidByText := true, laidKinds := [.data, .pinned], laidTests := true, laidLooks := .later }
def LetterFixedCardSaid : Prop := Claim7.holds Tryd.pinned (.plain (OpenSpec.ofChange letterFixedSpec)) letterFixedCard

/-- THE TIED CARD OF 'postroomkeep.LetterTorn'. -/
def letterTornCard : Claim7 := { stood := { row := letterTornRow, standIns := [], harness := (true, "4d04a72594b02eff3223450c254ec384c7d89b28de4bd9ce47663269f1eb2b41"), looks := true }, kinds := [], alts := [], laidByText := true, laidKinds := [.data, .pinned], laidTests := true, laidLooks := .later }
def LetterTornCardSaid : Prop := Claim7.holds Tryd.pinned (.plain (OpenSpec.ofChange letterTornSpec)) letterTornCard

/-- THE TIED CARD OF 'postroomkeep.LetterBodies'. -/
def letterBodiesCard : Claim7 := { stood := { row := letterBodiesRow, standIns := [], harness := (true, "4d04a72594b02eff3223450c254ec384c7d89b28de4bd9ce47663269f1eb2b41"), looks := true }, kinds := [], alts := [], laidByText := true, laidKinds := [.data, .pinned], laidTests := true, laidLooks := .later }
def LetterBodiesCardSaid : Prop := Claim7.holds Tryd.pinned (.plain (OpenSpec.ofChange letterBodiesSpec)) letterBodiesCard

/-- THE TIED CARD OF 'postroomkeep.LetterNamed'. -/
def letterNamedCard : Claim7 := { stood := { row := letterNamedRow, standIns := [], harness := (true, "4d04a72594b02eff3223450c254ec384c7d89b28de4bd9ce47663269f1eb2b41"), looks := true }, kinds := [], alts := [], laidByText := true, laidKinds := [.data, .pinned], laidTests := true, laidLooks := .later }
def LetterNamedCardSaid : Prop := Claim7.holds Tryd.pinned (.plain (OpenSpec.ofChange letterNamedSpec)) letterNamedCard

/-- THE TIED CARD OF 'postroomkeep.LetterFolded'. -/
def letterFoldedCard : Claim7 := { stood := { row := letterFoldedRow, standIns := [], harness := (true, "4d04a72594b02eff3223450c254ec384c7d89b28de4bd9ce47663269f1eb2b41"), looks := true }, kinds := [], alts := [], laidByText := true, laidKinds := [.data, .pinned], laidTests := true, laidLooks := .later }
def LetterFoldedCardSaid : Prop := Claim7.holds Tryd.pinned (.plain (OpenSpec.ofChange letterFoldedSpec)) letterFoldedCard

/-- THE SECOND FORM's CARD OF 'postroomkeep.WhoPieces'. -/
def whoPiecesUptoCard : Claim7 := { stood := { row := whoPiecesUptoRow, standIns := [], harness := (true, "4d04a72594b02eff3223450c254ec384c7d89b28de4bd9ce47663269f1eb2b41"), looks := true }, kinds := [], alts := [], laidByText := true, laidKinds := [.data, .pinned], laidTests := true, laidLooks := .later }
def WhoPiecesUptoCardSaid : Prop := Claim7.holds Tryd.pinned (.plain (OpenSpec.upto whoPiecesSpec)) whoPiecesUptoCard

/-- THE SECOND FORM's CARD OF 'postroomkeep.WhoFull'. -/
def whoFullUptoCard : Claim7 := { stood := { row := whoFullUptoRow, standIns := [], harness := (true, "4d04a72594b02eff3223450c254ec384c7d89b28de4bd9ce47663269f1eb2b41"), looks := true }, kinds := [], alts := [], laidByText := true, laidKinds := [.data, .pinned], laidTests := true, laidLooks := .later }
def WhoFullUptoCardSaid : Prop := Claim7.holds Tryd.pinned (.plain (OpenSpec.upto whoFullSpec)) whoFullUptoCard

/-- THE SECOND FORM's CARD OF 'postroomkeep.WhoBack'. -/
def whoBackUptoCard : Claim7 := { stood := { row := whoBackUptoRow, standIns := [], harness := (true, "4d04a72594b02eff3223450c254ec384c7d89b28de4bd9ce47663269f1eb2b41"), looks := true }, kinds := [], alts := [], laidByText := true, laidKinds := [.data, .pinned], laidTests := true, laidLooks := .later }
def WhoBackUptoCardSaid : Prop := Claim7.holds Tryd.pinned (.plain (OpenSpec.upto whoBackSpec)) whoBackUptoCard

/-- THE SECOND FORM's CARD OF 'postroomkeep.WhoMany'. -/
def whoManyUptoCard : Claim7 := { stood := { row := whoManyUptoRow, standIns := [], harness := (true, "4d04a72594b02eff3223450c254ec384c7d89b28de4bd9ce47663269f1eb2b41"), looks := true }, kinds := [], alts := [], laidByText := true, laidKinds := [.data, .pinned], laidTests := true, laidLooks := .later }
def WhoManyUptoCardSaid : Prop := Claim7.holds Tryd.pinned (.plain (OpenSpec.upto whoManySpec)) whoManyUptoCard

/-- THE SECOND FORM's CARD OF 'postroomkeep.WhoBad'. -/
def whoBadUptoCard : Claim7 := { stood := { row := whoBadUptoRow, standIns := [], harness := (true, "4d04a72594b02eff3223450c254ec384c7d89b28de4bd9ce47663269f1eb2b41"), looks := true }, kinds := [], alts := [], laidByText := true, laidKinds := [.data, .pinned], laidTests := true, laidLooks := .later }
def WhoBadUptoCardSaid : Prop := Claim7.holds Tryd.pinned (.plain (OpenSpec.upto whoBadSpec)) whoBadUptoCard

/-- THE SECOND FORM's CARD OF 'postroomkeep.LetterPlace'. -/
def letterPlaceUptoCard : Claim7 := { stood := { row := letterPlaceUptoRow, standIns := [], harness := (true, "4d04a72594b02eff3223450c254ec384c7d89b28de4bd9ce47663269f1eb2b41"), looks := true }, kinds := [], alts := [], laidByText := true, laidKinds := [.data, .pinned], laidTests := true, laidLooks := .later }
def LetterPlaceUptoCardSaid : Prop := Claim7.holds Tryd.pinned (.plain (OpenSpec.upto letterPlaceSpec)) letterPlaceUptoCard

/-- THE SECOND FORM's CARD OF 'postroomkeep.LetterBack'. -/
def letterBackUptoCard : Claim7 := { stood := { row := letterBackUptoRow, standIns := [], harness := (true, "4d04a72594b02eff3223450c254ec384c7d89b28de4bd9ce47663269f1eb2b41"), looks := true }, kinds := [], alts := [], laidByText := true, laidKinds := [.data, .pinned], laidTests := true, laidLooks := .later }
def LetterBackUptoCardSaid : Prop := Claim7.holds Tryd.pinned (.plain (OpenSpec.upto letterBackSpec)) letterBackUptoCard

/-- THE SECOND FORM's CARD OF 'postroomkeep.LetterFixed'. -/
def letterFixedUptoCard : Claim7 := { stood := { row := letterFixedUptoRow, standIns := [], harness := (true, "4d04a72594b02eff3223450c254ec384c7d89b28de4bd9ce47663269f1eb2b41"), looks := true }, kinds := [], alts := [], laidByText := true, laidKinds := [.data, .pinned], laidTests := true, laidLooks := .later }
def LetterFixedUptoCardSaid : Prop := Claim7.holds Tryd.pinned (.plain (OpenSpec.upto letterFixedSpec)) letterFixedUptoCard

/-- THE SECOND FORM's CARD OF 'postroomkeep.LetterTorn'. -/
def letterTornUptoCard : Claim7 := { stood := { row := letterTornUptoRow, standIns := [], harness := (true, "4d04a72594b02eff3223450c254ec384c7d89b28de4bd9ce47663269f1eb2b41"), looks := true }, kinds := [], alts := [], laidByText := true, laidKinds := [.data, .pinned], laidTests := true, laidLooks := .later }
def LetterTornUptoCardSaid : Prop := Claim7.holds Tryd.pinned (.plain (OpenSpec.upto letterTornSpec)) letterTornUptoCard

/-- THE SECOND FORM's CARD OF 'postroomkeep.LetterBodies'. -/
def letterBodiesUptoCard : Claim7 := { stood := { row := letterBodiesUptoRow, standIns := [], harness := (true, "4d04a72594b02eff3223450c254ec384c7d89b28de4bd9ce47663269f1eb2b41"), looks := true }, kinds := [], alts := [], laidByText := true, laidKinds := [.data, .pinned], laidTests := true, laidLooks := .later }
def LetterBodiesUptoCardSaid : Prop := Claim7.holds Tryd.pinned (.plain (OpenSpec.upto letterBodiesSpec)) letterBodiesUptoCard

/-- THE SECOND FORM's CARD OF 'postroomkeep.LetterNamed'. -/
def letterNamedUptoCard : Claim7 := { stood := { row := letterNamedUptoRow, standIns := [], harness := (true, "4d04a72594b02eff3223450c254ec384c7d89b28de4bd9ce47663269f1eb2b41"), looks := true }, kinds := [], alts := [], laidByText := true, laidKinds := [.data, .pinned], laidTests := true, laidLooks := .later }
def LetterNamedUptoCardSaid : Prop := Claim7.holds Tryd.pinned (.plain (OpenSpec.upto letterNamedSpec)) letterNamedUptoCard

/-- THE SECOND FORM's CARD OF 'postroomkeep.LetterFolded'. -/
def letterFoldedUptoCard : Claim7 := { stood := { row := letterFoldedUptoRow, standIns := [], harness := (true, "4d04a72594b02eff3223450c254ec384c7d89b28de4bd9ce47663269f1eb2b41"), looks := true }, kinds := [], alts := [], laidByText := true, laidKinds := [.data, .pinned], laidTests := true, laidLooks := .later }
def LetterFoldedUptoCardSaid : Prop := Claim7.holds Tryd.pinned (.plain (OpenSpec.upto letterFoldedSpec)) letterFoldedUptoCard
end Rows
end Go.Proofs.YtlbibklbckabnaaDoor
