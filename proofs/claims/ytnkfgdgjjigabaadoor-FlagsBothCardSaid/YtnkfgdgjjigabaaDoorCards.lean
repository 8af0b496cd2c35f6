/-
  DERIVED. GIVEN WITH THE SEED: THE CARDS: each row of YtnkfgdgjjigabaaDoorRows.lean that lists a variable, with what it lists TIED to the program's text (the seventh form; the later family's looks); each row that meets fmt, with fmt's text TOLD by the authors' own Lean function (tested against real Go, not proved from fmt's source: count such statements apart). THE CARD IS WHAT COUNTS. Prove the row's statement (the work); the ties are given (YtnkfgdgjjigabaaDoorTie.lean); close each card by the builder's one call (the guide's Derived/Test/ToyasCard.lean, 'card_holds'). Laid BY PROGRAM, IN A SANDBOX (cutbox-door.mjs). By AI agents, Wed Nov 11 2026. No macro, syntax, notation, axiom, sorry.
-/
import Derived.Test.YtnkfgdgjjigabaaDoorRows
import GoSem.ClaimSeven
namespace Go.Proofs.YtnkfgdgjjigabaaDoor
namespace Rows

/-- THE TIED CARD OF 'postroomkeep.FlagsBoth'. -/
def flagsBothCard : Claim7 := { stood := { row := flagsBothRow, standIns := [], harness := (true, "a4eb5b3be31ecfa810062912a1ed9d2303c67ded80b2f6d38a814e08ebcddafa"), looks := false }, kinds := [], alts := [], laidByText := true, laidKinds := [.widerDeep], laidTests := true, laidLooks := .later }
def FlagsBothCardSaid : Prop := Claim7.holds Tryd.pinned (.plain (OpenSpec.ofChange flagsBothSpec)) flagsBothCard

/-- THE TIED CARD OF 'postroomkeep.ScriptDeep'. -/
def scriptDeepCard : Claim7 := { stood := { row := scriptDeepRow, standIns := [], harness := (true, "a4eb5b3be31ecfa810062912a1ed9d2303c67ded80b2f6d38a814e08ebcddafa"), looks := false }, kinds := [], alts := [], laidByText := true, laidKinds := [.widerDeep, .widerDeep, .widerDeep, .widerDeep], laidTests := true, laidLooks := .later }
def ScriptDeepCardSaid : Prop := Claim7.holds Tryd.pinned (.plain (OpenSpec.ofChange scriptDeepSpec)) scriptDeepCard

/-- THE TIED CARD OF 'postroomkeep.ScriptElse'. -/
def scriptElseCard : Claim7 := { stood := { row := scriptElseRow, standIns := [], harness := (true, "a4eb5b3be31ecfa810062912a1ed9d2303c67ded80b2f6d38a814e08ebcddafa"), looks := false }, kinds := [], alts := [], laidByText := true, laidKinds := [.widerDeep, .widerDeep, .widerDeep, .widerDeep], laidTests := true, laidLooks := .later }
def ScriptElseCardSaid : Prop := Claim7.holds Tryd.pinned (.plain (OpenSpec.ofChange scriptElseSpec)) scriptElseCard

/-- THE TIED CARD OF 'postroomkeep.WhoPieces'. -/
def whoPiecesCard : Claim7 := { stood := { row := whoPiecesRow, standIns := [], harness := (true, "a4eb5b3be31ecfa810062912a1ed9d2303c67ded80b2f6d38a814e08ebcddafa"), looks := false }, kinds := [], alts := [], laidByText := true, laidKinds := [.data, .pinned], laidTests := true, laidLooks := .later }
def WhoPiecesCardSaid : Prop := Claim7.holds Tryd.pinned (.plain (OpenSpec.ofChange whoPiecesSpec)) whoPiecesCard

/-- THE SECOND FORM's CARD OF 'postroomkeep.FlagsBoth'. -/
def flagsBothUptoCard : Claim7 := { stood := { row := flagsBothUptoRow, standIns := [], harness := (true, "a4eb5b3be31ecfa810062912a1ed9d2303c67ded80b2f6d38a814e08ebcddafa"), looks := false }, kinds := [], alts := [], laidByText := true, laidKinds := [.widerDeep], laidTests := true, laidLooks := .later }
def FlagsBothUptoCardSaid : Prop := Claim7.holds Tryd.pinned (.plain (OpenSpec.upto flagsBothSpec)) flagsBothUptoCard

/-- THE SECOND FORM's CARD OF 'postroomkeep.ScriptDeep'. -/
def scriptDeepUptoCard : Claim7 := { stood := { row := scriptDeepUptoRow, standIns := [], harness := (true, "a4eb5b3be31ecfa810062912a1ed9d2303c67ded80b2f6d38a814e08ebcddafa"), looks := false }, kinds := [], alts := [], laidByText := true, laidKinds := [.widerDeep, .widerDeep, .widerDeep, .widerDeep], laidTests := true, laidLooks := .later }
def ScriptDeepUptoCardSaid : Prop := Claim7.holds Tryd.pinned (.plain (OpenSpec.upto scriptDeepSpec)) scriptDeepUptoCard

/-- THE SECOND FORM's CARD OF 'postroomkeep.ScriptElse'. -/
def scriptElseUptoCard : Claim7 := { stood := { row := scriptElseUptoRow, standIns := [], harness := (true, "a4eb5b3be31ecfa810062912a1ed9d2303c67ded80b2f6d38a814e08ebcddafa"), looks := false }, kinds := [], alts := [], laidByText := true, laidKinds := [.widerDeep, .widerDeep, .widerDeep, .widerDeep], laidTests := true, laidLooks := .later }
def ScriptElseUptoCardSaid : Prop := Claim7.holds Tryd.pinned (.plain (OpenSpec.upto scriptElseSpec)) scriptElseUptoCard

/-- THE SECOND FORM's CARD OF 'postroomkeep.WhoPieces'. -/
def whoPiecesUptoCard : Claim7 := { stood := { row := whoPiecesUptoRow, standIns := [], harness := (true, "a4eb5b3be31ecfa810062912a1ed9d2303c67ded80b2f6d38a814e08ebcddafa"), looks := false }, kinds := [], alts := [], laidByText := true, laidKinds := [.data, .pinned], laidTests := true, laidLooks := .later }
def WhoPiecesUptoCardSaid : Prop := Claim7.holds Tryd.pinned (.plain (OpenSpec.upto whoPiecesSpec)) whoPiecesUptoCard
end Rows
end Go.Proofs.YtnkfgdgjjigabaaDoor
