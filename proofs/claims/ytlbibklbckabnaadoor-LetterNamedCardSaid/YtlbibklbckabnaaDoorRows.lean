/-
  NARROWER THAN 'FOR EVERY INPUT', by the rows' own cells (each row's printed sentence says how): WhoPieces: laid · WhoFull: laid · WhoBack: laid · WhoMany: laid · WhoBad: laid · LetterPlace: laid · LetterBack: laid · LetterFixed: laid · LetterTorn: laid · LetterBodies: laid · LetterNamed: laid · LetterFolded: laid.
  DERIVED. THE GIVEN ROWS OF THIS SEAT. 12 by the template 'for every input the law returns true; each argument reads behind the call as it read before'; 0 by the template 'total and deterministic' (their statements: YtlbibklbckabnaaDoorTotals.lean).
  GIVEN WITH THE SEED: the statements are not yours to turn. If you find one false, say at which input.
  Laid BY PROGRAM, IN A SANDBOX (cutbox-rows.mjs): the forced cells as the released guide's own fill.sh prints them over the translation c7ec6689f97a6831… (all of the seat's roots in one cut). By AI agents, Wed Nov 11 2026. No macro, syntax, notation, axiom, sorry.
-/
import Derived.Test.YtlbibklbckabnaaDoorChecked
import GoSem.PinnedTables
import GoSem.Claim
import GoSem.ClaimJoined
import GoSem.ClaimMapViews
import Derived.JoinedTies
import Derived.KernelRfl
namespace Go.Proofs.YtlbibklbckabnaaDoor
/- THE CELL 'sum', in the pinned program and in every row, IS THE sha256 OF THE DUMP (.gsa) THAT YtlbibklbckabnaaDoorProg.lean LOADS. Nothing in Lean hashes anything: it is a label: what it is worth is what the hold of that sum in a sandbox is worth. -/
noncomputable def Tryd.pinned : Pinned := { name := "ytlbibklbckabnaadoor", sum := "c7ec6689f97a68314513d81686db9e1c3f855cf0d4bac866efaccaabc357ce5e", checked := Tryd.checked }
namespace Rows
def none {H : Type} : Left H := { results := [], args := [] }

/- WHAT THE LISTED PACKAGE-LEVEL VARIABLES READ AS WHEN THE CALL BEGINS. Each datum BY PROGRAM (the guide's laid-datum.mjs) off the statement by which the dump's own 'gosem.cut.vars' lays the variable. In a bare row this is a premise. The card (YtlbibklbckabnaaDoorCards.lean) ties it to the program's text. -/
def laid_unicode_utf8_acceptRanges {H : Type} : DataW H := .agg [.agg [.lit (.int .u8 128), .lit (.int .u8 191)], .agg [.lit (.int .u8 160), .lit (.int .u8 191)], .agg [.lit (.int .u8 128), .lit (.int .u8 159)], .agg [.lit (.int .u8 144), .lit (.int .u8 191)], .agg [.lit (.int .u8 128), .lit (.int .u8 143)], .agg [.lit (.int .u8 0), .lit (.int .u8 0)], .agg [.lit (.int .u8 0), .lit (.int .u8 0)], .agg [.lit (.int .u8 0), .lit (.int .u8 0)], .agg [.lit (.int .u8 0), .lit (.int .u8 0)], .agg [.lit (.int .u8 0), .lit (.int .u8 0)], .agg [.lit (.int .u8 0), .lit (.int .u8 0)], .agg [.lit (.int .u8 0), .lit (.int .u8 0)], .agg [.lit (.int .u8 0), .lit (.int .u8 0)], .agg [.lit (.int .u8 0), .lit (.int .u8 0)], .agg [.lit (.int .u8 0), .lit (.int .u8 0)], .agg [.lit (.int .u8 0), .lit (.int .u8 0)]]
/-- One of Go's own tables, pinned by name: the form's constant. -/
def laid_unicode_utf8_first : DataW Unit := Go.Pinned.utf8First

/-- 'postroomkeep.WhoPieces': WHATEVER THE INPUT: true; the input reads as it did. -/
def whoPiecesSpec : ChangeSpec := { name := "whoPieces", fn := fun _ => fun
  | [d1, d2] => { results := [.lit (.bool true)], args := [d1, d2] }
  | _ => none }
def whoPiecesRow : OpenClaim := { program := "ytlbibklbckabnaadoor", sum := "c7ec6689f97a68314513d81686db9e1c3f855cf0d4bac866efaccaabc357ce5e", func := "postroom/postroomkeep.WhoPieces", spec := "whoPieces", inPlace := ["internal/bytealg.CountString", "internal/bytealg.IndexByteString", "internal/bytealg.IndexString"], named := ["unicode/utf8.first", "unicode/utf8.acceptRanges", "internal/bytealg.MaxLen"], apart := false, laid := [("unicode/utf8.acceptRanges", laid_unicode_utf8_acceptRanges), ("unicode/utf8.first", laid_unicode_utf8_first)] }
def WhoPiecesSaid : Prop := whoPiecesRow.holds Tryd.pinned (OpenSpec.ofChange whoPiecesSpec)

/-- ITS FALSE NEIGHBOUR: 'it returns false'. Refute it at one input. -/
def whoPiecesWrong : ChangeSpec := { name := "whoPieces", fn := fun _ => fun
  | [d1, d2] => { results := [.lit (.bool false)], args := [d1, d2] }
  | _ => none }
def WhoPiecesWrongFalsely : Prop := whoPiecesRow.holds Tryd.pinned (OpenSpec.ofChange whoPiecesWrong)

/-- 'postroomkeep.WhoFull': WHATEVER THE INPUT: true; the input reads as it did. -/
def whoFullSpec : ChangeSpec := { name := "whoFull", fn := fun _ => fun
  | [d] => { results := [.lit (.bool true)], args := [d] }
  | _ => none }
def whoFullRow : OpenClaim := { program := "ytlbibklbckabnaadoor", sum := "c7ec6689f97a68314513d81686db9e1c3f855cf0d4bac866efaccaabc357ce5e", func := "postroom/postroomkeep.WhoFull", spec := "whoFull", inPlace := ["internal/bytealg.IndexByteString", "internal/bytealg.CountString", "internal/bytealg.IndexString"], unfollowed := true, recurses := true, named := ["unicode/utf8.first", "unicode/utf8.acceptRanges", "internal/bytealg.MaxLen"], apart := false, laid := [("unicode/utf8.acceptRanges", laid_unicode_utf8_acceptRanges), ("unicode/utf8.first", laid_unicode_utf8_first)] }
def WhoFullSaid : Prop := whoFullRow.holds Tryd.pinned (OpenSpec.ofChange whoFullSpec)

/-- ITS FALSE NEIGHBOUR: 'it returns false'. Refute it at one input. -/
def whoFullWrong : ChangeSpec := { name := "whoFull", fn := fun _ => fun
  | [d] => { results := [.lit (.bool false)], args := [d] }
  | _ => none }
def WhoFullWrongFalsely : Prop := whoFullRow.holds Tryd.pinned (OpenSpec.ofChange whoFullWrong)

/-- 'postroomkeep.WhoBack': WHATEVER THE INPUT: true; the input reads as it did. -/
def whoBackSpec : ChangeSpec := { name := "whoBack", fn := fun _ => fun
  | [d] => { results := [.lit (.bool true)], args := [d] }
  | _ => none }
def whoBackRow : OpenClaim := { program := "ytlbibklbckabnaadoor", sum := "c7ec6689f97a68314513d81686db9e1c3f855cf0d4bac866efaccaabc357ce5e", func := "postroom/postroomkeep.WhoBack", spec := "whoBack", inPlace := ["internal/bytealg.CountString", "internal/bytealg.IndexByteString", "internal/bytealg.IndexString"], unfollowed := true, recurses := true, named := ["unicode/utf8.first", "unicode/utf8.acceptRanges", "internal/bytealg.MaxLen"], apart := false, laid := [("unicode/utf8.acceptRanges", laid_unicode_utf8_acceptRanges), ("unicode/utf8.first", laid_unicode_utf8_first)] }
def WhoBackSaid : Prop := whoBackRow.holds Tryd.pinned (OpenSpec.ofChange whoBackSpec)

/-- ITS FALSE NEIGHBOUR: 'it returns false'. Refute it at one input. -/
def whoBackWrong : ChangeSpec := { name := "whoBack", fn := fun _ => fun
  | [d] => { results := [.lit (.bool false)], args := [d] }
  | _ => none }
def WhoBackWrongFalsely : Prop := whoBackRow.holds Tryd.pinned (OpenSpec.ofChange whoBackWrong)

/-- 'postroomkeep.WhoMany': WHATEVER THE INPUT: true; the input reads as it did. -/
def whoManySpec : ChangeSpec := { name := "whoMany", fn := fun _ => fun
  | [d] => { results := [.lit (.bool true)], args := [d] }
  | _ => none }
def whoManyRow : OpenClaim := { program := "ytlbibklbckabnaadoor", sum := "c7ec6689f97a68314513d81686db9e1c3f855cf0d4bac866efaccaabc357ce5e", func := "postroom/postroomkeep.WhoMany", spec := "whoMany", inPlace := ["internal/bytealg.IndexByteString", "internal/bytealg.CountString", "internal/bytealg.IndexString"], unfollowed := true, recurses := true, named := ["unicode/utf8.first", "unicode/utf8.acceptRanges", "internal/bytealg.MaxLen"], apart := false, laid := [("unicode/utf8.acceptRanges", laid_unicode_utf8_acceptRanges), ("unicode/utf8.first", laid_unicode_utf8_first)] }
def WhoManySaid : Prop := whoManyRow.holds Tryd.pinned (OpenSpec.ofChange whoManySpec)

/-- ITS FALSE NEIGHBOUR: 'it returns false'. Refute it at one input. -/
def whoManyWrong : ChangeSpec := { name := "whoMany", fn := fun _ => fun
  | [d] => { results := [.lit (.bool false)], args := [d] }
  | _ => none }
def WhoManyWrongFalsely : Prop := whoManyRow.holds Tryd.pinned (OpenSpec.ofChange whoManyWrong)

/-- 'postroomkeep.WhoBad': WHATEVER THE INPUT: true; the input reads as it did. -/
def whoBadSpec : ChangeSpec := { name := "whoBad", fn := fun _ => fun
  | [d1, d2] => { results := [.lit (.bool true)], args := [d1, d2] }
  | _ => none }
def whoBadRow : OpenClaim := { program := "ytlbibklbckabnaadoor", sum := "c7ec6689f97a68314513d81686db9e1c3f855cf0d4bac866efaccaabc357ce5e", func := "postroom/postroomkeep.WhoBad", spec := "whoBad", inPlace := ["internal/bytealg.CountString", "internal/bytealg.IndexByteString", "internal/bytealg.IndexString"], unfollowed := true, recurses := true, named := ["unicode/utf8.first", "unicode/utf8.acceptRanges", "internal/bytealg.MaxLen"], apart := false, laid := [("unicode/utf8.acceptRanges", laid_unicode_utf8_acceptRanges), ("unicode/utf8.first", laid_unicode_utf8_first)] }
def WhoBadSaid : Prop := whoBadRow.holds Tryd.pinned (OpenSpec.ofChange whoBadSpec)

/-- ITS FALSE NEIGHBOUR: 'it returns false'. Refute it at one input. -/
def whoBadWrong : ChangeSpec := { name := "whoBad", fn := fun _ => fun
  | [d1, d2] => { results := [.lit (.bool false)], args := [d1, d2] }
  | _ => none }
def WhoBadWrongFalsely : Prop := whoBadRow.holds Tryd.pinned (OpenSpec.ofChange whoBadWrong)

/-- 'postroomkeep.LetterPlace': WHATEVER THE INPUT: true; the input reads as it did. -/
def letterPlaceSpec : ChangeSpec := { name := "letterPlace", fn := fun _ => fun
  | [d1, d2, d3] => { results := [.lit (.bool true)], args := [d1, d2, d3] }
  | _ => none }
def letterPlaceRow : OpenClaim := { program := "ytlbibklbckabnaadoor", sum := "c7ec6689f97a68314513d81686db9e1c3f855cf0d4bac866efaccaabc357ce5e", func := "postroom/postroomkeep.LetterPlace", spec := "letterPlace", inPlace := ["internal/bytealg.IndexByteString", "internal/bytealg.IndexString"], named := ["internal/bytealg.MaxLen", "unicode/utf8.first", "unicode/utf8.acceptRanges"], apart := false, laid := [("unicode/utf8.acceptRanges", laid_unicode_utf8_acceptRanges), ("unicode/utf8.first", laid_unicode_utf8_first)] }
def LetterPlaceSaid : Prop := letterPlaceRow.holds Tryd.pinned (OpenSpec.ofChange letterPlaceSpec)

/-- ITS FALSE NEIGHBOUR: 'it returns false'. Refute it at one input. -/
def letterPlaceWrong : ChangeSpec := { name := "letterPlace", fn := fun _ => fun
  | [d1, d2, d3] => { results := [.lit (.bool false)], args := [d1, d2, d3] }
  | _ => none }
def LetterPlaceWrongFalsely : Prop := letterPlaceRow.holds Tryd.pinned (OpenSpec.ofChange letterPlaceWrong)

/-- 'postroomkeep.LetterBack': WHATEVER THE INPUT: true; the input reads as it did. -/
def letterBackSpec : ChangeSpec := { name := "letterBack", fn := fun _ => fun
  | [d1, d2] => { results := [.lit (.bool true)], args := [d1, d2] }
  | _ => none }
def letterBackRow : OpenClaim := { program := "ytlbibklbckabnaadoor", sum := "c7ec6689f97a68314513d81686db9e1c3f855cf0d4bac866efaccaabc357ce5e", func := "postroom/postroomkeep.LetterBack", spec := "letterBack", inPlace := ["internal/bytealg.IndexByteString", "internal/bytealg.IndexString", "internal/abi.NoEscape"], named := ["internal/bytealg.MaxLen", "unicode/utf8.first", "unicode/utf8.acceptRanges"], apart := false, laid := [("unicode/utf8.acceptRanges", laid_unicode_utf8_acceptRanges), ("unicode/utf8.first", laid_unicode_utf8_first)] }
def LetterBackSaid : Prop := letterBackRow.holds Tryd.pinned (OpenSpec.ofChange letterBackSpec)

/-- ITS FALSE NEIGHBOUR: 'it returns false'. Refute it at one input. -/
def letterBackWrong : ChangeSpec := { name := "letterBack", fn := fun _ => fun
  | [d1, d2] => { results := [.lit (.bool false)], args := [d1, d2] }
  | _ => none }
def LetterBackWrongFalsely : Prop := letterBackRow.holds Tryd.pinned (OpenSpec.ofChange letterBackWrong)

/-- 'postroomkeep.LetterFixed': WHATEVER THE INPUT: true; the input reads as it did. -/
def letterFixedSpec : ChangeSpec := { name := "letterFixed", fn := fun _ => fun
  | [d] => { results := [.lit (.bool true)], args := [d] }
  | _ => none }
def letterFixedRow : OpenClaim := { program := "ytlbibklbckabnaadoor", sum := "c7ec6689f97a68314513d81686db9e1c3f855cf0d4bac866efaccaabc357ce5e", func := "postroom/postroomkeep.LetterFixed", spec := "letterFixed", inPlace := ["internal/bytealg.IndexByteString", "internal/bytealg.IndexString", "internal/abi.NoEscape"], named := ["internal/bytealg.MaxLen", "unicode/utf8.first", "unicode/utf8.acceptRanges"], apart := false, laid := [("unicode/utf8.acceptRanges", laid_unicode_utf8_acceptRanges), ("unicode/utf8.first", laid_unicode_utf8_first)] }
def LetterFixedSaid : Prop := letterFixedRow.holds Tryd.pinned (OpenSpec.ofChange letterFixedSpec)

/-- ITS FALSE NEIGHBOUR: 'it returns false'. Refute it at one input. -/
def letterFixedWrong : ChangeSpec := { name := "letterFixed", fn := fun _ => fun
  | [d] => { results := [.lit (.bool false)], args := [d] }
  | _ => none }
def LetterFixedWrongFalsely : Prop := letterFixedRow.holds Tryd.pinned (OpenSpec.ofChange letterFixedWrong)

/-- 'postroomkeep.LetterTorn': WHATEVER THE INPUT: true; the input reads as it did. -/
def letterTornSpec : ChangeSpec := { name := "letterTorn", fn := fun _ => fun
  | [d1, d2] => { results := [.lit (.bool true)], args := [d1, d2] }
  | _ => none }
def letterTornRow : OpenClaim := { program := "ytlbibklbckabnaadoor", sum := "c7ec6689f97a68314513d81686db9e1c3f855cf0d4bac866efaccaabc357ce5e", func := "postroom/postroomkeep.LetterTorn", spec := "letterTorn", inPlace := ["internal/bytealg.IndexByteString", "internal/bytealg.IndexString", "internal/abi.NoEscape"], named := ["internal/bytealg.MaxLen", "unicode/utf8.first", "unicode/utf8.acceptRanges"], apart := false, laid := [("unicode/utf8.acceptRanges", laid_unicode_utf8_acceptRanges), ("unicode/utf8.first", laid_unicode_utf8_first)] }
def LetterTornSaid : Prop := letterTornRow.holds Tryd.pinned (OpenSpec.ofChange letterTornSpec)

/-- ITS FALSE NEIGHBOUR: 'it returns false'. Refute it at one input. -/
def letterTornWrong : ChangeSpec := { name := "letterTorn", fn := fun _ => fun
  | [d1, d2] => { results := [.lit (.bool false)], args := [d1, d2] }
  | _ => none }
def LetterTornWrongFalsely : Prop := letterTornRow.holds Tryd.pinned (OpenSpec.ofChange letterTornWrong)

/-- 'postroomkeep.LetterBodies': WHATEVER THE INPUT: true; the input reads as it did. -/
def letterBodiesSpec : ChangeSpec := { name := "letterBodies", fn := fun _ => fun
  | [d1, d2, d3] => { results := [.lit (.bool true)], args := [d1, d2, d3] }
  | _ => none }
def letterBodiesRow : OpenClaim := { program := "ytlbibklbckabnaadoor", sum := "c7ec6689f97a68314513d81686db9e1c3f855cf0d4bac866efaccaabc357ce5e", func := "postroom/postroomkeep.LetterBodies", spec := "letterBodies", inPlace := ["internal/bytealg.IndexByteString", "internal/bytealg.IndexString", "internal/abi.NoEscape"], named := ["internal/bytealg.MaxLen", "unicode/utf8.first", "unicode/utf8.acceptRanges"], apart := false, laid := [("unicode/utf8.acceptRanges", laid_unicode_utf8_acceptRanges), ("unicode/utf8.first", laid_unicode_utf8_first)] }
def LetterBodiesSaid : Prop := letterBodiesRow.holds Tryd.pinned (OpenSpec.ofChange letterBodiesSpec)

/-- ITS FALSE NEIGHBOUR: 'it returns false'. Refute it at one input. -/
def letterBodiesWrong : ChangeSpec := { name := "letterBodies", fn := fun _ => fun
  | [d1, d2, d3] => { results := [.lit (.bool false)], args := [d1, d2, d3] }
  | _ => none }
def LetterBodiesWrongFalsely : Prop := letterBodiesRow.holds Tryd.pinned (OpenSpec.ofChange letterBodiesWrong)

/-- 'postroomkeep.LetterNamed': WHATEVER THE INPUT: true; the input reads as it did. -/
def letterNamedSpec : ChangeSpec := { name := "letterNamed", fn := fun _ => fun
  | [d1, d2] => { results := [.lit (.bool true)], args := [d1, d2] }
  | _ => none }
def letterNamedRow : OpenClaim := { program := "ytlbibklbckabnaadoor", sum := "c7ec6689f97a68314513d81686db9e1c3f855cf0d4bac866efaccaabc357ce5e", func := "postroom/postroomkeep.LetterNamed", spec := "letterNamed", inPlace := ["internal/bytealg.IndexByteString", "internal/bytealg.IndexString", "internal/abi.NoEscape"], unfollowed := true, recurses := true, named := ["internal/bytealg.MaxLen", "unicode/utf8.first", "unicode/utf8.acceptRanges"], apart := false, laid := [("unicode/utf8.acceptRanges", laid_unicode_utf8_acceptRanges), ("unicode/utf8.first", laid_unicode_utf8_first)] }
def LetterNamedSaid : Prop := letterNamedRow.holds Tryd.pinned (OpenSpec.ofChange letterNamedSpec)

/-- ITS FALSE NEIGHBOUR: 'it returns false'. Refute it at one input. -/
def letterNamedWrong : ChangeSpec := { name := "letterNamed", fn := fun _ => fun
  | [d1, d2] => { results := [.lit (.bool false)], args := [d1, d2] }
  | _ => none }
def LetterNamedWrongFalsely : Prop := letterNamedRow.holds Tryd.pinned (OpenSpec.ofChange letterNamedWrong)

/-- 'postroomkeep.LetterFolded': WHATEVER THE INPUT: true; the input reads as it did. -/
def letterFoldedSpec : ChangeSpec := { name := "letterFolded", fn := fun _ => fun
  | [d1, d2, d3] => { results := [.lit (.bool true)], args := [d1, d2, d3] }
  | _ => none }
def letterFoldedRow : OpenClaim := { program := "ytlbibklbckabnaadoor", sum := "c7ec6689f97a68314513d81686db9e1c3f855cf0d4bac866efaccaabc357ce5e", func := "postroom/postroomkeep.LetterFolded", spec := "letterFolded", inPlace := ["internal/bytealg.IndexByteString", "internal/bytealg.IndexString", "internal/abi.NoEscape"], unfollowed := true, recurses := true, named := ["internal/bytealg.MaxLen", "unicode/utf8.first", "unicode/utf8.acceptRanges"], apart := false, laid := [("unicode/utf8.acceptRanges", laid_unicode_utf8_acceptRanges), ("unicode/utf8.first", laid_unicode_utf8_first)] }
def LetterFoldedSaid : Prop := letterFoldedRow.holds Tryd.pinned (OpenSpec.ofChange letterFoldedSpec)

/-- ITS FALSE NEIGHBOUR: 'it returns false'. Refute it at one input. -/
def letterFoldedWrong : ChangeSpec := { name := "letterFolded", fn := fun _ => fun
  | [d1, d2, d3] => { results := [.lit (.bool false)], args := [d1, d2, d3] }
  | _ => none }
def LetterFoldedWrongFalsely : Prop := letterFoldedRow.holds Tryd.pinned (OpenSpec.ofChange letterFoldedWrong)

/- THE SECOND FORM. 'bulk': how many values and letters a reading holds, each counted each time it is reached (what is shared counts as often as it is met; a slice's spare places count too). A statement '..UptoSaid' is the law's where the arguments, and the package variables that the reading takes, are together of bulk at most 1048576: NARROWER than '..Said'. Prove '..Said' where nothing that the law and all that it calls make is longer than what came in: it says more and counts as full. Else prove '..UptoSaid'. A law counts once. -/
mutual
def uptoBulk {H : Type} : DataW H → Nat
  | .lit (.string bytes) => bytes.length + 1
  | .lit _ => 1
  | .nil => 1
  | .ptr d => uptoBulk d + 1
  | .slice elems spare => uptoBulkAll elems + uptoBulkAll spare + 1
  | .agg parts => uptoBulkAll parts + 1
  | .iface _ d => uptoBulk d + 1
  | .map entries => uptoBulkEntries entries + 1
  | .held _ => 1
def uptoBulkAll {H : Type} : List (DataW H) → Nat
  | [] => 0
  | d :: r => uptoBulk d + uptoBulkAll r
def uptoBulkEntries {H : Type} : List (Lit × DataW H) → Nat
  | [] => 0
  | x :: r => uptoBulkEntry x + uptoBulkEntries r
def uptoBulkEntry {H : Type} : Lit × DataW H → Nat
  | (.string bytes, d) => bytes.length + uptoBulk d + 1
  | (_, d) => uptoBulk d + 1
 end
def uptoSmall : (H : Type) → List (DataW H) → Bool := fun _ ds => decide (uptoBulkAll ds ≤ 1048576)
def OpenSpec.upto (s : _root_.Go.ChangeSpec) : _root_.Go.OpenSpec := { _root_.Go.OpenSpec.ofChange s with cond := some uptoSmall }

/-- 'postroomkeep.WhoPieces', WHERE WHAT IT READS IS OF BULK AT MOST 1048576: true; the input reads as it did. -/
def whoPiecesUptoRow : OpenClaim := { program := "ytlbibklbckabnaadoor", sum := "c7ec6689f97a68314513d81686db9e1c3f855cf0d4bac866efaccaabc357ce5e", func := "postroom/postroomkeep.WhoPieces", spec := "whoPieces", inPlace := ["internal/bytealg.CountString", "internal/bytealg.IndexByteString", "internal/bytealg.IndexString"], named := ["unicode/utf8.first", "unicode/utf8.acceptRanges", "internal/bytealg.MaxLen"], apart := false, laid := [("unicode/utf8.acceptRanges", laid_unicode_utf8_acceptRanges), ("unicode/utf8.first", laid_unicode_utf8_first)], narrowed := true }
def WhoPiecesUptoSaid : Prop := whoPiecesUptoRow.holds Tryd.pinned (OpenSpec.upto whoPiecesSpec)

/-- 'postroomkeep.WhoFull', WHERE WHAT IT READS IS OF BULK AT MOST 1048576: true; the input reads as it did. -/
def whoFullUptoRow : OpenClaim := { program := "ytlbibklbckabnaadoor", sum := "c7ec6689f97a68314513d81686db9e1c3f855cf0d4bac866efaccaabc357ce5e", func := "postroom/postroomkeep.WhoFull", spec := "whoFull", inPlace := ["internal/bytealg.IndexByteString", "internal/bytealg.CountString", "internal/bytealg.IndexString"], unfollowed := true, recurses := true, named := ["unicode/utf8.first", "unicode/utf8.acceptRanges", "internal/bytealg.MaxLen"], apart := false, laid := [("unicode/utf8.acceptRanges", laid_unicode_utf8_acceptRanges), ("unicode/utf8.first", laid_unicode_utf8_first)], narrowed := true }
def WhoFullUptoSaid : Prop := whoFullUptoRow.holds Tryd.pinned (OpenSpec.upto whoFullSpec)

/-- 'postroomkeep.WhoBack', WHERE WHAT IT READS IS OF BULK AT MOST 1048576: true; the input reads as it did. -/
def whoBackUptoRow : OpenClaim := { program := "ytlbibklbckabnaadoor", sum := "c7ec6689f97a68314513d81686db9e1c3f855cf0d4bac866efaccaabc357ce5e", func := "postroom/postroomkeep.WhoBack", spec := "whoBack", inPlace := ["internal/bytealg.CountString", "internal/bytealg.IndexByteString", "internal/bytealg.IndexString"], unfollowed := true, recurses := true, named := ["unicode/utf8.first", "unicode/utf8.acceptRanges", "internal/bytealg.MaxLen"], apart := false, laid := [("unicode/utf8.acceptRanges", laid_unicode_utf8_acceptRanges), ("unicode/utf8.first", laid_unicode_utf8_first)], narrowed := true }
def WhoBackUptoSaid : Prop := whoBackUptoRow.holds Tryd.pinned (OpenSpec.upto whoBackSpec)

/-- 'postroomkeep.WhoMany', WHERE WHAT IT READS IS OF BULK AT MOST 1048576: true; the input reads as it did. -/
def whoManyUptoRow : OpenClaim := { program := "ytlbibklbckabnaadoor", sum := "c7ec6689f97a68314513d81686db9e1c3f855cf0d4bac866efaccaabc357ce5e", func := "postroom/postroomkeep.WhoMany", spec := "whoMany", inPlace := ["internal/bytealg.IndexByteString", "internal/bytealg.CountString", "internal/bytealg.IndexString"], unfollowed := true, recurses := true, named := ["unicode/utf8.first", "unicode/utf8.acceptRanges", "internal/bytealg.MaxLen"], apart := false, laid := [("unicode/utf8.acceptRanges", laid_unicode_utf8_acceptRanges), ("unicode/utf8.first", laid_unicode_utf8_first)], narrowed := true }
def WhoManyUptoSaid : Prop := whoManyUptoRow.holds Tryd.pinned (OpenSpec.upto whoManySpec)

/-- 'postroomkeep.WhoBad', WHERE WHAT IT READS IS OF BULK AT MOST 1048576: true; the input reads as it did. -/
def whoBadUptoRow : OpenClaim := { program := "ytlbibklbckabnaadoor", sum := "c7ec6689f97a68314513d81686db9e1c3f855cf0d4bac866efaccaabc357ce5e", func := "postroom/postroomkeep.WhoBad", spec := "whoBad", inPlace := ["internal/bytealg.CountString", "internal/bytealg.IndexByteString", "internal/bytealg.IndexString"], unfollowed := true, recurses := true, named := ["unicode/utf8.first", "unicode/utf8.acceptRanges", "internal/bytealg.MaxLen"], apart := false, laid := [("unicode/utf8.acceptRanges", laid_unicode_utf8_acceptRanges), ("unicode/utf8.first", laid_unicode_utf8_first)], narrowed := true }
def WhoBadUptoSaid : Prop := whoBadUptoRow.holds Tryd.pinned (OpenSpec.upto whoBadSpec)

/-- 'postroomkeep.LetterPlace', WHERE WHAT IT READS IS OF BULK AT MOST 1048576: true; the input reads as it did. -/
def letterPlaceUptoRow : OpenClaim := { program := "ytlbibklbckabnaadoor", sum := "c7ec6689f97a68314513d81686db9e1c3f855cf0d4bac866efaccaabc357ce5e", func := "postroom/postroomkeep.LetterPlace", spec := "letterPlace", inPlace := ["internal/bytealg.IndexByteString", "internal/bytealg.IndexString"], named := ["internal/bytealg.MaxLen", "unicode/utf8.first", "unicode/utf8.acceptRanges"], apart := false, laid := [("unicode/utf8.acceptRanges", laid_unicode_utf8_acceptRanges), ("unicode/utf8.first", laid_unicode_utf8_first)], narrowed := true }
def LetterPlaceUptoSaid : Prop := letterPlaceUptoRow.holds Tryd.pinned (OpenSpec.upto letterPlaceSpec)

/-- 'postroomkeep.LetterBack', WHERE WHAT IT READS IS OF BULK AT MOST 1048576: true; the input reads as it did. -/
def letterBackUptoRow : OpenClaim := { program := "ytlbibklbckabnaadoor", sum := "c7ec6689f97a68314513d81686db9e1c3f855cf0d4bac866efaccaabc357ce5e", func := "postroom/postroomkeep.LetterBack", spec := "letterBack", inPlace := ["internal/bytealg.IndexByteString", "internal/bytealg.IndexString", "internal/abi.NoEscape"], named := ["internal/bytealg.MaxLen", "unicode/utf8.first", "unicode/utf8.acceptRanges"], apart := false, laid := [("unicode/utf8.acceptRanges", laid_unicode_utf8_acceptRanges), ("unicode/utf8.first", laid_unicode_utf8_first)], narrowed := true }
def LetterBackUptoSaid : Prop := letterBackUptoRow.holds Tryd.pinned (OpenSpec.upto letterBackSpec)

/-- 'postroomkeep.LetterFixed', WHERE WHAT IT READS IS OF BULK AT MOST 1048576: true; the input reads as it did. -/
def letterFixedUptoRow : OpenClaim := { program := "ytlbibklbckabnaadoor", sum := "c7ec6689f97a68314513d81686db9e1c3f855cf0d4bac866efaccaabc357ce5e", func := "postroom/postroomkeep.LetterFixed", spec := "letterFixed", inPlace := ["internal/bytealg.IndexByteString", "internal/bytealg.IndexString", "internal/abi.NoEscape"], named := ["internal/bytealg.MaxLen", "unicode/utf8.first", "unicode/utf8.acceptRanges"], apart := false, laid := [("unicode/utf8.acceptRanges", laid_unicode_utf8_acceptRanges), ("unicode/utf8.first", laid_unicode_utf8_first)], narrowed := true }
def LetterFixedUptoSaid : Prop := letterFixedUptoRow.holds Tryd.pinned (OpenSpec.upto letterFixedSpec)

/-- 'postroomkeep.LetterTorn', WHERE WHAT IT READS IS OF BULK AT MOST 1048576: true; the input reads as it did. -/
def letterTornUptoRow : OpenClaim := { program := "ytlbibklbckabnaadoor", sum := "c7ec6689f97a68314513d81686db9e1c3f855cf0d4bac866efaccaabc357ce5e", func := "postroom/postroomkeep.LetterTorn", spec := "letterTorn", inPlace := ["internal/bytealg.IndexByteString", "internal/bytealg.IndexString", "internal/abi.NoEscape"], named := ["internal/bytealg.MaxLen", "unicode/utf8.first", "unicode/utf8.acceptRanges"], apart := false, laid := [("unicode/utf8.acceptRanges", laid_unicode_utf8_acceptRanges), ("unicode/utf8.first", laid_unicode_utf8_first)], narrowed := true }
def LetterTornUptoSaid : Prop := letterTornUptoRow.holds Tryd.pinned (OpenSpec.upto letterTornSpec)

/-- 'postroomkeep.LetterBodies', WHERE WHAT IT READS IS OF BULK AT MOST 1048576: true; the input reads as it did. -/
def letterBodiesUptoRow : OpenClaim := { program := "ytlbibklbckabnaadoor", sum := "c7ec6689f97a68314513d81686db9e1c3f855cf0d4bac866efaccaabc357ce5e", func := "postroom/postroomkeep.LetterBodies", spec := "letterBodies", inPlace := ["internal/bytealg.IndexByteString", "internal/bytealg.IndexString", "internal/abi.NoEscape"], named := ["internal/bytealg.MaxLen", "unicode/utf8.first", "unicode/utf8.acceptRanges"], apart := false, laid := [("unicode/utf8.acceptRanges", laid_unicode_utf8_acceptRanges), ("unicode/utf8.first", laid_unicode_utf8_first)], narrowed := true }
def LetterBodiesUptoSaid : Prop := letterBodiesUptoRow.holds Tryd.pinned (OpenSpec.upto letterBodiesSpec)

/-- 'postroomkeep.LetterNamed', WHERE WHAT IT READS IS OF BULK AT MOST 1048576: true; the input reads as it did. -/
def letterNamedUptoRow : OpenClaim := { program := "ytlbibklbckabnaadoor", sum := "c7ec6689f97a68314513d81686db9e1c3f855cf0d4bac866efaccaabc357ce5e", func := "postroom/postroomkeep.LetterNamed", spec := "letterNamed", inPlace := ["internal/bytealg.IndexByteString", "internal/bytealg.IndexString", "internal/abi.NoEscape"], unfollowed := true, recurses := true, named := ["internal/bytealg.MaxLen", "unicode/utf8.first", "unicode/utf8.acceptRanges"], apart := false, laid := [("unicode/utf8.acceptRanges", laid_unicode_utf8_acceptRanges), ("unicode/utf8.first", laid_unicode_utf8_first)], narrowed := true }
def LetterNamedUptoSaid : Prop := letterNamedUptoRow.holds Tryd.pinned (OpenSpec.upto letterNamedSpec)

/-- 'postroomkeep.LetterFolded', WHERE WHAT IT READS IS OF BULK AT MOST 1048576: true; the input reads as it did. -/
def letterFoldedUptoRow : OpenClaim := { program := "ytlbibklbckabnaadoor", sum := "c7ec6689f97a68314513d81686db9e1c3f855cf0d4bac866efaccaabc357ce5e", func := "postroom/postroomkeep.LetterFolded", spec := "letterFolded", inPlace := ["internal/bytealg.IndexByteString", "internal/bytealg.IndexString", "internal/abi.NoEscape"], unfollowed := true, recurses := true, named := ["internal/bytealg.MaxLen", "unicode/utf8.first", "unicode/utf8.acceptRanges"], apart := false, laid := [("unicode/utf8.acceptRanges", laid_unicode_utf8_acceptRanges), ("unicode/utf8.first", laid_unicode_utf8_first)], narrowed := true }
def LetterFoldedUptoSaid : Prop := letterFoldedUptoRow.holds Tryd.pinned (OpenSpec.upto letterFoldedSpec)

end Rows
end Go.Proofs.YtlbibklbckabnaaDoor
