/-
  NARROWER THAN 'FOR EVERY INPUT', by the rows' own cells (each row's printed sentence says how): ExpungeAll: laid · CopySame: laid · CreateOnce: laid · AllParts: laid · SpoolLast: laid · StateMay: laid · AppendLast: laid · FlagOnly: laid.
  DERIVED. THE GIVEN ROWS OF THIS SEAT. 8 by the template 'for every input the law returns true; each argument reads behind the call as it read before'; 0 by the template 'total and deterministic' (their statements: YtbddahdkjngecaaDoorTotals.lean).
  GIVEN WITH THE SEED: the statements are not yours to turn. If you find one false, say at which input.
  Laid BY PROGRAM, IN A SANDBOX (cutbox-rows.mjs): the forced cells as the released guide's own fill.sh prints them over the translation ef11401764ae33d3… (all of the seat's roots in one cut). By AI agents, Wed Nov 11 2026. No macro, syntax, notation, axiom, sorry.
-/
import Derived.Test.YtbddahdkjngecaaDoorChecked
import GoSem.PinnedTables
import GoSem.Claim
import GoSem.ClaimJoined
import GoSem.ClaimMapViews
import Derived.JoinedTies
import Derived.KernelRfl
namespace Go.Proofs.YtbddahdkjngecaaDoor
/- THE CELL 'sum', in the pinned program and in every row, IS THE sha256 OF THE DUMP (.gsa) THAT YtbddahdkjngecaaDoorProg.lean LOADS. Nothing in Lean hashes anything: it is a label: what it is worth is what the hold of that sum in a sandbox is worth. -/
noncomputable def Tryd.pinned : Pinned := { name := "ytbddahdkjngecaadoor", sum := "ef11401764ae33d3e41561f5fe91c5300453f93305ec24bb87bced22f9a41a4c", checked := Tryd.checked }
namespace Rows
def none {H : Type} : Left H := { results := [], args := [] }

/- WHAT THE LISTED PACKAGE-LEVEL VARIABLES READ AS WHEN THE CALL BEGINS. Each datum BY PROGRAM (the guide's laid-datum.mjs) off the statement by which the dump's own 'gosem.cut.vars' lays the variable. In a bare row this is a premise. The card (YtbddahdkjngecaaDoorCards.lean) ties it to the program's text. -/
def laid_unicode_utf8_acceptRanges {H : Type} : DataW H := .agg [.agg [.lit (.int .u8 128), .lit (.int .u8 191)], .agg [.lit (.int .u8 160), .lit (.int .u8 191)], .agg [.lit (.int .u8 128), .lit (.int .u8 159)], .agg [.lit (.int .u8 144), .lit (.int .u8 191)], .agg [.lit (.int .u8 128), .lit (.int .u8 143)], .agg [.lit (.int .u8 0), .lit (.int .u8 0)], .agg [.lit (.int .u8 0), .lit (.int .u8 0)], .agg [.lit (.int .u8 0), .lit (.int .u8 0)], .agg [.lit (.int .u8 0), .lit (.int .u8 0)], .agg [.lit (.int .u8 0), .lit (.int .u8 0)], .agg [.lit (.int .u8 0), .lit (.int .u8 0)], .agg [.lit (.int .u8 0), .lit (.int .u8 0)], .agg [.lit (.int .u8 0), .lit (.int .u8 0)], .agg [.lit (.int .u8 0), .lit (.int .u8 0)], .agg [.lit (.int .u8 0), .lit (.int .u8 0)], .agg [.lit (.int .u8 0), .lit (.int .u8 0)]]
/-- One of Go's own tables, pinned by name: the form's constant. -/
def laid_unicode_utf8_first : DataW Unit := Go.Pinned.utf8First

/-- 'postroomkeep.ExpungeAll': WHATEVER THE INPUT: true; the input reads as it did. -/
def expungeAllSpec : ChangeSpec := { name := "expungeAll", fn := fun _ => fun
  | [d1, d2] => { results := [.lit (.bool true)], args := [d1, d2] }
  | _ => none }
def expungeAllRow : OpenClaim := { program := "ytbddahdkjngecaadoor", sum := "ef11401764ae33d3e41561f5fe91c5300453f93305ec24bb87bced22f9a41a4c", func := "postroom/postroomkeep.ExpungeAll", spec := "expungeAll", inPlace := ["internal/bytealg.IndexByteString", "internal/bytealg.CountString", "internal/bytealg.IndexString"], unfollowed := true, recurses := true, named := ["unicode/utf8.first", "unicode/utf8.acceptRanges", "internal/bytealg.MaxLen"], apart := false, laid := [("unicode/utf8.acceptRanges", laid_unicode_utf8_acceptRanges), ("unicode/utf8.first", laid_unicode_utf8_first)] }
def ExpungeAllSaid : Prop := expungeAllRow.holds Tryd.pinned (OpenSpec.ofChange expungeAllSpec)

/-- ITS FALSE NEIGHBOUR: 'it returns false'. Refute it at one input. -/
def expungeAllWrong : ChangeSpec := { name := "expungeAll", fn := fun _ => fun
  | [d1, d2] => { results := [.lit (.bool false)], args := [d1, d2] }
  | _ => none }
def ExpungeAllWrongFalsely : Prop := expungeAllRow.holds Tryd.pinned (OpenSpec.ofChange expungeAllWrong)

/-- 'postroomkeep.CopySame': WHATEVER THE INPUT: true; the input reads as it did. -/
def copySameSpec : ChangeSpec := { name := "copySame", fn := fun _ => fun
  | [d1, d2] => { results := [.lit (.bool true)], args := [d1, d2] }
  | _ => none }
def copySameRow : OpenClaim := { program := "ytbddahdkjngecaadoor", sum := "ef11401764ae33d3e41561f5fe91c5300453f93305ec24bb87bced22f9a41a4c", func := "postroom/postroomkeep.CopySame", spec := "copySame", inPlace := ["internal/bytealg.IndexByteString", "internal/bytealg.CountString", "internal/bytealg.IndexString"], unfollowed := true, recurses := true, named := ["unicode/utf8.first", "unicode/utf8.acceptRanges", "internal/bytealg.MaxLen"], apart := false, laid := [("unicode/utf8.acceptRanges", laid_unicode_utf8_acceptRanges), ("unicode/utf8.first", laid_unicode_utf8_first)] }
def CopySameSaid : Prop := copySameRow.holds Tryd.pinned (OpenSpec.ofChange copySameSpec)

/-- ITS FALSE NEIGHBOUR: 'it returns false'. Refute it at one input. -/
def copySameWrong : ChangeSpec := { name := "copySame", fn := fun _ => fun
  | [d1, d2] => { results := [.lit (.bool false)], args := [d1, d2] }
  | _ => none }
def CopySameWrongFalsely : Prop := copySameRow.holds Tryd.pinned (OpenSpec.ofChange copySameWrong)

/-- 'postroomkeep.CreateOnce': WHATEVER THE INPUT: true; the input reads as it did. -/
def createOnceSpec : ChangeSpec := { name := "createOnce", fn := fun _ => fun
  | [d1, d2] => { results := [.lit (.bool true)], args := [d1, d2] }
  | _ => none }
def createOnceRow : OpenClaim := { program := "ytbddahdkjngecaadoor", sum := "ef11401764ae33d3e41561f5fe91c5300453f93305ec24bb87bced22f9a41a4c", func := "postroom/postroomkeep.CreateOnce", spec := "createOnce", inPlace := ["internal/bytealg.IndexByteString", "internal/bytealg.CountString", "internal/bytealg.IndexString"], unfollowed := true, recurses := true, named := ["unicode/utf8.first", "unicode/utf8.acceptRanges", "internal/bytealg.MaxLen"], apart := false, laid := [("unicode/utf8.acceptRanges", laid_unicode_utf8_acceptRanges), ("unicode/utf8.first", laid_unicode_utf8_first)] }
def CreateOnceSaid : Prop := createOnceRow.holds Tryd.pinned (OpenSpec.ofChange createOnceSpec)

/-- ITS FALSE NEIGHBOUR: 'it returns false'. Refute it at one input. -/
def createOnceWrong : ChangeSpec := { name := "createOnce", fn := fun _ => fun
  | [d1, d2] => { results := [.lit (.bool false)], args := [d1, d2] }
  | _ => none }
def CreateOnceWrongFalsely : Prop := createOnceRow.holds Tryd.pinned (OpenSpec.ofChange createOnceWrong)

/-- 'postroomkeep.AllParts': WHATEVER THE INPUT: true; the input reads as it did. -/
def allPartsSpec : ChangeSpec := { name := "allParts", fn := fun _ => fun
  | [d1, d2] => { results := [.lit (.bool true)], args := [d1, d2] }
  | _ => none }
def allPartsRow : OpenClaim := { program := "ytbddahdkjngecaadoor", sum := "ef11401764ae33d3e41561f5fe91c5300453f93305ec24bb87bced22f9a41a4c", func := "postroom/postroomkeep.AllParts", spec := "allParts", inPlace := ["internal/bytealg.IndexByteString", "internal/bytealg.CountString", "internal/bytealg.IndexString"], unfollowed := true, recurses := true, named := ["unicode/utf8.first", "unicode/utf8.acceptRanges", "internal/bytealg.MaxLen"], apart := false, laid := [("unicode/utf8.acceptRanges", laid_unicode_utf8_acceptRanges), ("unicode/utf8.first", laid_unicode_utf8_first)] }
def AllPartsSaid : Prop := allPartsRow.holds Tryd.pinned (OpenSpec.ofChange allPartsSpec)

/-- ITS FALSE NEIGHBOUR: 'it returns false'. Refute it at one input. -/
def allPartsWrong : ChangeSpec := { name := "allParts", fn := fun _ => fun
  | [d1, d2] => { results := [.lit (.bool false)], args := [d1, d2] }
  | _ => none }
def AllPartsWrongFalsely : Prop := allPartsRow.holds Tryd.pinned (OpenSpec.ofChange allPartsWrong)

/-- 'postroomkeep.SpoolLast': WHATEVER THE INPUT: true; the input reads as it did. -/
def spoolLastSpec : ChangeSpec := { name := "spoolLast", fn := fun _ => fun
  | [d1, d2] => { results := [.lit (.bool true)], args := [d1, d2] }
  | _ => none }
def spoolLastRow : OpenClaim := { program := "ytbddahdkjngecaadoor", sum := "ef11401764ae33d3e41561f5fe91c5300453f93305ec24bb87bced22f9a41a4c", func := "postroom/postroomkeep.SpoolLast", spec := "spoolLast", inPlace := ["internal/bytealg.IndexByteString", "internal/bytealg.CountString", "internal/bytealg.IndexString"], unfollowed := true, recurses := true, named := ["unicode/utf8.first", "unicode/utf8.acceptRanges", "internal/bytealg.MaxLen"], apart := false, laid := [("unicode/utf8.acceptRanges", laid_unicode_utf8_acceptRanges), ("unicode/utf8.first", laid_unicode_utf8_first)] }
def SpoolLastSaid : Prop := spoolLastRow.holds Tryd.pinned (OpenSpec.ofChange spoolLastSpec)

/-- ITS FALSE NEIGHBOUR: 'it returns false'. Refute it at one input. -/
def spoolLastWrong : ChangeSpec := { name := "spoolLast", fn := fun _ => fun
  | [d1, d2] => { results := [.lit (.bool false)], args := [d1, d2] }
  | _ => none }
def SpoolLastWrongFalsely : Prop := spoolLastRow.holds Tryd.pinned (OpenSpec.ofChange spoolLastWrong)

/-- 'postroomkeep.StateMay': WHATEVER THE INPUT: true; the input reads as it did. -/
def stateMaySpec : ChangeSpec := { name := "stateMay", fn := fun _ => fun
  | [d] => { results := [.lit (.bool true)], args := [d] }
  | _ => none }
def stateMayRow : OpenClaim := { program := "ytbddahdkjngecaadoor", sum := "ef11401764ae33d3e41561f5fe91c5300453f93305ec24bb87bced22f9a41a4c", func := "postroom/postroomkeep.StateMay", spec := "stateMay", inPlace := ["internal/bytealg.IndexByteString", "internal/bytealg.CountString", "internal/bytealg.IndexString"], unfollowed := true, recurses := true, named := ["unicode/utf8.first", "unicode/utf8.acceptRanges", "internal/bytealg.MaxLen"], apart := false, laid := [("unicode/utf8.acceptRanges", laid_unicode_utf8_acceptRanges), ("unicode/utf8.first", laid_unicode_utf8_first)] }
def StateMaySaid : Prop := stateMayRow.holds Tryd.pinned (OpenSpec.ofChange stateMaySpec)

/-- ITS FALSE NEIGHBOUR: 'it returns false'. Refute it at one input. -/
def stateMayWrong : ChangeSpec := { name := "stateMay", fn := fun _ => fun
  | [d] => { results := [.lit (.bool false)], args := [d] }
  | _ => none }
def StateMayWrongFalsely : Prop := stateMayRow.holds Tryd.pinned (OpenSpec.ofChange stateMayWrong)

/-- 'postroomkeep.AppendLast': WHATEVER THE INPUT: true; the input reads as it did. -/
def appendLastSpec : ChangeSpec := { name := "appendLast", fn := fun _ => fun
  | [d1, d2] => { results := [.lit (.bool true)], args := [d1, d2] }
  | _ => none }
def appendLastRow : OpenClaim := { program := "ytbddahdkjngecaadoor", sum := "ef11401764ae33d3e41561f5fe91c5300453f93305ec24bb87bced22f9a41a4c", func := "postroom/postroomkeep.AppendLast", spec := "appendLast", inPlace := ["internal/bytealg.IndexByteString", "internal/bytealg.CountString", "internal/bytealg.IndexString"], unfollowed := true, recurses := true, named := ["unicode/utf8.first", "unicode/utf8.acceptRanges", "internal/bytealg.MaxLen"], apart := false, laid := [("unicode/utf8.acceptRanges", laid_unicode_utf8_acceptRanges), ("unicode/utf8.first", laid_unicode_utf8_first)] }
def AppendLastSaid : Prop := appendLastRow.holds Tryd.pinned (OpenSpec.ofChange appendLastSpec)

/-- ITS FALSE NEIGHBOUR: 'it returns false'. Refute it at one input. -/
def appendLastWrong : ChangeSpec := { name := "appendLast", fn := fun _ => fun
  | [d1, d2] => { results := [.lit (.bool false)], args := [d1, d2] }
  | _ => none }
def AppendLastWrongFalsely : Prop := appendLastRow.holds Tryd.pinned (OpenSpec.ofChange appendLastWrong)

/-- 'postroomkeep.FlagOnly': WHATEVER THE INPUT: true; the input reads as it did. -/
def flagOnlySpec : ChangeSpec := { name := "flagOnly", fn := fun _ => fun
  | [d1, d2] => { results := [.lit (.bool true)], args := [d1, d2] }
  | _ => none }
def flagOnlyRow : OpenClaim := { program := "ytbddahdkjngecaadoor", sum := "ef11401764ae33d3e41561f5fe91c5300453f93305ec24bb87bced22f9a41a4c", func := "postroom/postroomkeep.FlagOnly", spec := "flagOnly", inPlace := ["internal/bytealg.IndexByteString", "internal/bytealg.CountString", "internal/bytealg.IndexString"], unfollowed := true, recurses := true, named := ["unicode/utf8.first", "unicode/utf8.acceptRanges", "internal/bytealg.MaxLen"], apart := false, laid := [("unicode/utf8.acceptRanges", laid_unicode_utf8_acceptRanges), ("unicode/utf8.first", laid_unicode_utf8_first)] }
def FlagOnlySaid : Prop := flagOnlyRow.holds Tryd.pinned (OpenSpec.ofChange flagOnlySpec)

/-- ITS FALSE NEIGHBOUR: 'it returns false'. Refute it at one input. -/
def flagOnlyWrong : ChangeSpec := { name := "flagOnly", fn := fun _ => fun
  | [d1, d2] => { results := [.lit (.bool false)], args := [d1, d2] }
  | _ => none }
def FlagOnlyWrongFalsely : Prop := flagOnlyRow.holds Tryd.pinned (OpenSpec.ofChange flagOnlyWrong)

/- THE SECOND FORM. 'bulk': how many values and letters a reading holds, each counted each time it is reached (what is shared counts as often as it is met; a slice's spare places count too). A statement '..UptoSaid' is the law's where the arguments, and the package variables that the reading takes, are together of bulk at most 1048576: NARROWER than '..Said'. Prove '..Said' where nothing that the law and all that it calls make is longer than what came in: it says more and counts as full. Else prove '..UptoSaid'. A law counts once. -/
mutual
def uptoBulk {H : Type} : DataW H → Nat
  | .lit (.string bytes) => bytes.length + 1
  | .lit _ => 1
  | .nil => 1
  | .ptr d => uptoBulk d + 1
  | .slice elems spare => uptoBulkAll elems + uptoBulkAll spare + 1
  | .agg parts => uptoBulkAll parts + 1
  | .iface _ d => uptoBulk d + 1
  | .map entries => uptoBulkEntries entries + 1
  | .held _ => 1
def uptoBulkAll {H : Type} : List (DataW H) → Nat
  | [] => 0
  | d :: r => uptoBulk d + uptoBulkAll r
def uptoBulkEntries {H : Type} : List (Lit × DataW H) → Nat
  | [] => 0
  | x :: r => uptoBulkEntry x + uptoBulkEntries r
def uptoBulkEntry {H : Type} : Lit × DataW H → Nat
  | (.string bytes, d) => bytes.length + uptoBulk d + 1
  | (_, d) => uptoBulk d + 1
 end
def uptoSmall : (H : Type) → List (DataW H) → Bool := fun _ ds => decide (uptoBulkAll ds ≤ 1048576)
def OpenSpec.upto (s : _root_.Go.ChangeSpec) : _root_.Go.OpenSpec := { _root_.Go.OpenSpec.ofChange s with cond := some uptoSmall }

/-- 'postroomkeep.ExpungeAll', WHERE WHAT IT READS IS OF BULK AT MOST 1048576: true; the input reads as it did. -/
def expungeAllUptoRow : OpenClaim := { program := "ytbddahdkjngecaadoor", sum := "ef11401764ae33d3e41561f5fe91c5300453f93305ec24bb87bced22f9a41a4c", func := "postroom/postroomkeep.ExpungeAll", spec := "expungeAll", inPlace := ["internal/bytealg.IndexByteString", "internal/bytealg.CountString", "internal/bytealg.IndexString"], unfollowed := true, recurses := true, named := ["unicode/utf8.first", "unicode/utf8.acceptRanges", "internal/bytealg.MaxLen"], apart := false, laid := [("unicode/utf8.acceptRanges", laid_unicode_utf8_acceptRanges), ("unicode/utf8.first", laid_unicode_utf8_first)], narrowed := true }
def ExpungeAllUptoSaid : Prop := expungeAllUptoRow.holds Tryd.pinned (OpenSpec.upto expungeAllSpec)

/-- 'postroomkeep.CopySame', WHERE WHAT IT READS IS OF BULK AT MOST 1048576: true; the input reads as it did. -/
def copySameUptoRow : OpenClaim := { program := "ytbddahdkjngecaadoor", sum := "ef11401764ae33d3e41561f5fe91c5300453f93305ec24bb87bced22f9a41a4c", func := "postroom/postroomkeep.CopySame", spec := "copySame", inPlace := ["internal/bytealg.IndexByteString", "internal/bytealg.CountString", "internal/bytealg.IndexString"], unfollowed := true, recurses := true, named := ["unicode/utf8.first", "unicode/utf8.acceptRanges", "internal/bytealg.MaxLen"], apart := false, laid := [("unicode/utf8.acceptRanges", laid_unicode_utf8_acceptRanges), ("unicode/utf8.first", laid_unicode_utf8_first)], narrowed := true }
def CopySameUptoSaid : Prop := copySameUptoRow.holds Tryd.pinned (OpenSpec.upto copySameSpec)

/-- 'postroomkeep.CreateOnce', WHERE WHAT IT READS IS OF BULK AT MOST 1048576: true; the input reads as it did. -/
def createOnceUptoRow : OpenClaim := { program := "ytbddahdkjngecaadoor", sum := "ef11401764ae33d3e41561f5fe91c5300453f93305ec24bb87bced22f9a41a4c", func := "postroom/postroomkeep.CreateOnce", spec := "createOnce", inPlace := ["internal/bytealg.IndexByteString", "internal/bytealg.CountString", "internal/bytealg.IndexString"], unfollowed := true, recurses := true, named := ["unicode/utf8.first", "unicode/utf8.acceptRanges", "internal/bytealg.MaxLen"], apart := false, laid := [("unicode/utf8.acceptRanges", laid_unicode_utf8_acceptRanges), ("unicode/utf8.first", laid_unicode_utf8_first)], narrowed := true }
def CreateOnceUptoSaid : Prop := createOnceUptoRow.holds Tryd.pinned (OpenSpec.upto createOnceSpec)

/-- 'postroomkeep.AllParts', WHERE WHAT IT READS IS OF BULK AT MOST 1048576: true; the input reads as it did. -/
def allPartsUptoRow : OpenClaim := { program := "ytbddahdkjngecaadoor", sum := "ef11401764ae33d3e41561f5fe91c5300453f93305ec24bb87bced22f9a41a4c", func := "postroom/postroomkeep.AllParts", spec := "allParts", inPlace := ["internal/bytealg.IndexByteString", "internal/bytealg.CountString", "internal/bytealg.IndexString"], unfollowed := true, recurses := true, named := ["unicode/utf8.first", "unicode/utf8.acceptRanges", "internal/bytealg.MaxLen"], apart := false, laid := [("unicode/utf8.acceptRanges", laid_unicode_utf8_acceptRanges), ("unicode/utf8.first", laid_unicode_utf8_first)], narrowed := true }
def AllPartsUptoSaid : Prop := allPartsUptoRow.holds Tryd.pinned (OpenSpec.upto allPartsSpec)

/-- 'postroomkeep.SpoolLast', WHERE WHAT IT READS IS OF BULK AT MOST 1048576: true; the input reads as it did. -/
def spoolLastUptoRow : OpenClaim := { program := "ytbddahdkjngecaadoor", sum := "ef11401764ae33d3e41561f5fe91c5300453f93305ec24bb87bced22f9a41a4c", func := "postroom/postroomkeep.SpoolLast", spec := "spoolLast", inPlace := ["internal/bytealg.IndexByteString", "internal/bytealg.CountString", "internal/bytealg.IndexString"], unfollowed := true, recurses := true, named := ["unicode/utf8.first", "unicode/utf8.acceptRanges", "internal/bytealg.MaxLen"], apart := false, laid := [("unicode/utf8.acceptRanges", laid_unicode_utf8_acceptRanges), ("unicode/utf8.first", laid_unicode_utf8_first)], narrowed := true }
def SpoolLastUptoSaid : Prop := spoolLastUptoRow.holds Tryd.pinned (OpenSpec.upto spoolLastSpec)

/-- 'postroomkeep.StateMay', WHERE WHAT IT READS IS OF BULK AT MOST 1048576: true; the input reads as it did. -/
def stateMayUptoRow : OpenClaim := { program := "ytbddahdkjngecaadoor", sum := "ef11401764ae33d3e41561f5fe91c5300453f93305ec24bb87bced22f9a41a4c", func := "postroom/postroomkeep.StateMay", spec := "stateMay", inPlace := ["internal/bytealg.IndexByteString", "internal/bytealg.CountString", "internal/bytealg.IndexString"], unfollowed := true, recurses := true, named := ["unicode/utf8.first", "unicode/utf8.acceptRanges", "internal/bytealg.MaxLen"], apart := false, laid := [("unicode/utf8.acceptRanges", laid_unicode_utf8_acceptRanges), ("unicode/utf8.first", laid_unicode_utf8_first)], narrowed := true }
def StateMayUptoSaid : Prop := stateMayUptoRow.holds Tryd.pinned (OpenSpec.upto stateMaySpec)

/-- 'postroomkeep.AppendLast', WHERE WHAT IT READS IS OF BULK AT MOST 1048576: true; the input reads as it did. -/
def appendLastUptoRow : OpenClaim := { program := "ytbddahdkjngecaadoor", sum := "ef11401764ae33d3e41561f5fe91c5300453f93305ec24bb87bced22f9a41a4c", func := "postroom/postroomkeep.AppendLast", spec := "appendLast", inPlace := ["internal/bytealg.IndexByteString", "internal/bytealg.CountString", "internal/bytealg.IndexString"], unfollowed := true, recurses := true, named := ["unicode/utf8.first", "unicode/utf8.acceptRanges", "internal/bytealg.MaxLen"], apart := false, laid := [("unicode/utf8.acceptRanges", laid_unicode_utf8_acceptRanges), ("unicode/utf8.first", laid_unicode_utf8_first)], narrowed := true }
def AppendLastUptoSaid : Prop := appendLastUptoRow.holds Tryd.pinned (OpenSpec.upto appendLastSpec)

/-- 'postroomkeep.FlagOnly', WHERE WHAT IT READS IS OF BULK AT MOST 1048576: true; the input reads as it did. -/
def flagOnlyUptoRow : OpenClaim := { program := "ytbddahdkjngecaadoor", sum := "ef11401764ae33d3e41561f5fe91c5300453f93305ec24bb87bced22f9a41a4c", func := "postroom/postroomkeep.FlagOnly", spec := "flagOnly", inPlace := ["internal/bytealg.IndexByteString", "internal/bytealg.CountString", "internal/bytealg.IndexString"], unfollowed := true, recurses := true, named := ["unicode/utf8.first", "unicode/utf8.acceptRanges", "internal/bytealg.MaxLen"], apart := false, laid := [("unicode/utf8.acceptRanges", laid_unicode_utf8_acceptRanges), ("unicode/utf8.first", laid_unicode_utf8_first)], narrowed := true }
def FlagOnlyUptoSaid : Prop := flagOnlyUptoRow.holds Tryd.pinned (OpenSpec.upto flagOnlySpec)

end Rows
end Go.Proofs.YtbddahdkjngecaaDoor
