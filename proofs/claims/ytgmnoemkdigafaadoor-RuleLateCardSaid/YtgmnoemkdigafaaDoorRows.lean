/-
  NARROWER THAN 'FOR EVERY INPUT', by the rows' own cells (each row's printed sentence says how): FlagsBoth: laid · ScriptDeep: laid · ScriptElse: loops, laid · ScriptBack: loops, laid · ScriptFixed: laid · ScriptTorn: loops, laid · RuleAllowed: loops, laid · RuleNeeds: loops, laid · RuleLate: loops, laid · CodeCount: loops, laid.
  DERIVED. THE GIVEN ROWS OF THIS SEAT. 10 by the template 'for every input the law returns true; each argument reads behind the call as it read before'; 0 by the template 'total and deterministic' (their statements: YtgmnoemkdigafaaDoorTotals.lean).
  GIVEN WITH THE SEED: the statements are not yours to turn. If you find one false, say at which input.
  Laid BY PROGRAM, IN A SANDBOX (cutbox-rows.mjs): the forced cells as the released guide's own fill.sh prints them over the translation 72dfb8a2b99bc00e… (all of the seat's roots in one cut). By AI agents, Wed Nov 11 2026. No macro, syntax, notation, axiom, sorry.
-/
import Derived.Test.YtgmnoemkdigafaaDoorChecked
import GoSem.PinnedTables
import GoSem.Claim
import GoSem.ClaimJoined
import GoSem.ClaimMapViews
import Derived.JoinedTies
import Derived.KernelRfl
namespace Go.Proofs.YtgmnoemkdigafaaDoor
/- THE CELL 'sum', in the pinned program and in every row, IS THE sha256 OF THE DUMP (.gsa) THAT YtgmnoemkdigafaaDoorProg.lean LOADS. Nothing in Lean hashes anything: it is a label: what it is worth is what the hold of that sum in a sandbox is worth. -/
noncomputable def Tryd.pinned : Pinned := { name := "ytgmnoemkdigafaadoor", sum := "72dfb8a2b99bc00e731e89d38f7f12e4708e7d342191d03904994e6da01e86a7", checked := Tryd.checked }
namespace Rows
def none {H : Type} : Left H := { results := [], args := [] }

/- WHAT THE LISTED PACKAGE-LEVEL VARIABLES READ AS WHEN THE CALL BEGINS. Each datum BY PROGRAM (the guide's laid-datum.mjs) off the statement by which the dump's own 'gosem.cut.vars' lays the variable. In a bare row this is a premise. The card (YtgmnoemkdigafaaDoorCards.lean) ties it to the program's text. -/
def laid_postroom_rule_names {H : Type} : DataW H := .agg [.lit (.string [92, 83, 101, 101, 110]), .lit (.string [92, 65, 110, 115, 119, 101, 114, 101, 100]), .lit (.string [92, 70, 108, 97, 103, 103, 101, 100]), .lit (.string [92, 68, 101, 108, 101, 116, 101, 100]), .lit (.string [92, 68, 114, 97, 102, 116])]
def laid_postroom_script_commands {H : Type} : DataW H := .agg [.lit (.string []), .lit (.string [114, 101, 113, 117, 105, 114, 101]), .lit (.string [105, 102]), .lit (.string [107, 101, 101, 112]), .lit (.string [100, 105, 115, 99, 97, 114, 100]), .lit (.string [102, 105, 108, 101, 105, 110, 116, 111]), .lit (.string [114, 101, 100, 105, 114, 101, 99, 116]), .lit (.string [114, 101, 106, 101, 99, 116]), .lit (.string [115, 101, 116, 102, 108, 97, 103]), .lit (.string [97, 100, 100, 102, 108, 97, 103]), .lit (.string [115, 116, 111, 112])]
def laid_postroom_script_tests {H : Type} : DataW H := .agg [.lit (.string []), .lit (.string [116, 114, 117, 101]), .lit (.string [102, 97, 108, 115, 101]), .lit (.string [110, 111, 116]), .lit (.string [97, 108, 108, 111, 102]), .lit (.string [97, 110, 121, 111, 102]), .lit (.string [104, 101, 97, 100, 101, 114]), .lit (.string [97, 100, 100, 114, 101, 115, 115]), .lit (.string [101, 110, 118, 101, 108, 111, 112, 101]), .lit (.string [101, 120, 105, 115, 116, 115]), .lit (.string [115, 105, 122, 101])]
def laid_postroom_script_matches {H : Type} : DataW H := .agg [.lit (.string []), .lit (.string [105, 115]), .lit (.string [99, 111, 110, 116, 97, 105, 110, 115]), .lit (.string [109, 97, 116, 99, 104, 101, 115])]
def laid_postroom_script_parts {H : Type} : DataW H := .agg [.lit (.string []), .lit (.string [97, 108, 108]), .lit (.string [108, 111, 99, 97, 108, 112, 97, 114, 116]), .lit (.string [100, 111, 109, 97, 105, 110])]
def laid_unicode_utf8_acceptRanges {H : Type} : DataW H := .agg [.agg [.lit (.int .u8 128), .lit (.int .u8 191)], .agg [.lit (.int .u8 160), .lit (.int .u8 191)], .agg [.lit (.int .u8 128), .lit (.int .u8 159)], .agg [.lit (.int .u8 144), .lit (.int .u8 191)], .agg [.lit (.int .u8 128), .lit (.int .u8 143)], .agg [.lit (.int .u8 0), .lit (.int .u8 0)], .agg [.lit (.int .u8 0), .lit (.int .u8 0)], .agg [.lit (.int .u8 0), .lit (.int .u8 0)], .agg [.lit (.int .u8 0), .lit (.int .u8 0)], .agg [.lit (.int .u8 0), .lit (.int .u8 0)], .agg [.lit (.int .u8 0), .lit (.int .u8 0)], .agg [.lit (.int .u8 0), .lit (.int .u8 0)], .agg [.lit (.int .u8 0), .lit (.int .u8 0)], .agg [.lit (.int .u8 0), .lit (.int .u8 0)], .agg [.lit (.int .u8 0), .lit (.int .u8 0)], .agg [.lit (.int .u8 0), .lit (.int .u8 0)]]
def laid_postroom_rule_extensions {H : Type} : DataW H := .agg [.lit (.string [102, 105, 108, 101, 105, 110, 116, 111]), .lit (.string [114, 101, 106, 101, 99, 116]), .lit (.string [101, 110, 118, 101, 108, 111, 112, 101]), .lit (.string [105, 109, 97, 112, 52, 102, 108, 97, 103, 115])]
/-- One of Go's own tables, pinned by name: the form's constant. -/
def laid_unicode_utf8_first : DataW Unit := Go.Pinned.utf8First

/-- 'postroomkeep.FlagsBoth': WHATEVER THE INPUT: true; the input reads as it did. -/
def flagsBothSpec : ChangeSpec := { name := "flagsBoth", fn := fun _ => fun
  | [d1, d2] => { results := [.lit (.bool true)], args := [d1, d2] }
  | _ => none }
def flagsBothRow : OpenClaim := { program := "ytgmnoemkdigafaadoor", sum := "72dfb8a2b99bc00e731e89d38f7f12e4708e7d342191d03904994e6da01e86a7", func := "postroom/postroomkeep.FlagsBoth", spec := "flagsBoth", named := ["postroom/rule.names"], apart := false, laid := [("postroom/rule.names", laid_postroom_rule_names)] }
def FlagsBothSaid : Prop := flagsBothRow.holds Tryd.pinned (OpenSpec.ofChange flagsBothSpec)

/-- ITS FALSE NEIGHBOUR: 'it returns false'. Refute it at one input. -/
def flagsBothWrong : ChangeSpec := { name := "flagsBoth", fn := fun _ => fun
  | [d1, d2] => { results := [.lit (.bool false)], args := [d1, d2] }
  | _ => none }
def FlagsBothWrongFalsely : Prop := flagsBothRow.holds Tryd.pinned (OpenSpec.ofChange flagsBothWrong)

/-- 'postroomkeep.ScriptDeep': WHATEVER THE INPUT: true; the input reads as it did. -/
def scriptDeepSpec : ChangeSpec := { name := "scriptDeep", fn := fun _ => fun
  | [d1, d2] => { results := [.lit (.bool true)], args := [d1, d2] }
  | _ => none }
def scriptDeepRow : OpenClaim := { program := "ytgmnoemkdigafaadoor", sum := "72dfb8a2b99bc00e731e89d38f7f12e4708e7d342191d03904994e6da01e86a7", func := "postroom/postroomkeep.ScriptDeep", spec := "scriptDeep", recurses := true, named := ["postroom/script.commands", "postroom/script.tests", "postroom/script.parts", "postroom/script.matches"], apart := false, laid := [("postroom/script.commands", laid_postroom_script_commands), ("postroom/script.tests", laid_postroom_script_tests), ("postroom/script.matches", laid_postroom_script_matches), ("postroom/script.parts", laid_postroom_script_parts)] }
def ScriptDeepSaid : Prop := scriptDeepRow.holds Tryd.pinned (OpenSpec.ofChange scriptDeepSpec)

/-- ITS FALSE NEIGHBOUR: 'it returns false'. Refute it at one input. -/
def scriptDeepWrong : ChangeSpec := { name := "scriptDeep", fn := fun _ => fun
  | [d1, d2] => { results := [.lit (.bool false)], args := [d1, d2] }
  | _ => none }
def ScriptDeepWrongFalsely : Prop := scriptDeepRow.holds Tryd.pinned (OpenSpec.ofChange scriptDeepWrong)

/-- 'postroomkeep.ScriptElse': WHATEVER THE INPUT: true; the input reads as it did. -/
def scriptElseSpec : ChangeSpec := { name := "scriptElse", fn := fun _ => fun
  | [d1, d2] => { results := [.lit (.bool true)], args := [d1, d2] }
  | _ => none }
def scriptElseRow : OpenClaim := { program := "ytgmnoemkdigafaadoor", sum := "72dfb8a2b99bc00e731e89d38f7f12e4708e7d342191d03904994e6da01e86a7", func := "postroom/postroomkeep.ScriptElse", spec := "scriptElse", recurses := true, named := ["postroom/script.commands", "postroom/script.tests", "postroom/script.parts", "postroom/script.matches"], loops := true, apart := false, laid := [("postroom/script.commands", laid_postroom_script_commands), ("postroom/script.tests", laid_postroom_script_tests), ("postroom/script.matches", laid_postroom_script_matches), ("postroom/script.parts", laid_postroom_script_parts)] }
def ScriptElseSaid : Prop := scriptElseRow.holds Tryd.pinned (OpenSpec.ofChange scriptElseSpec)

/-- ITS FALSE NEIGHBOUR: 'it returns false'. Refute it at one input. -/
def scriptElseWrong : ChangeSpec := { name := "scriptElse", fn := fun _ => fun
  | [d1, d2] => { results := [.lit (.bool false)], args := [d1, d2] }
  | _ => none }
def ScriptElseWrongFalsely : Prop := scriptElseRow.holds Tryd.pinned (OpenSpec.ofChange scriptElseWrong)

/-- 'postroomkeep.ScriptBack': WHATEVER THE INPUT: true; the input reads as it did. -/
def scriptBackSpec : ChangeSpec := { name := "scriptBack", fn := fun _ => fun
  | [d] => { results := [.lit (.bool true)], args := [d] }
  | _ => none }
def scriptBackRow : OpenClaim := { program := "ytgmnoemkdigafaadoor", sum := "72dfb8a2b99bc00e731e89d38f7f12e4708e7d342191d03904994e6da01e86a7", func := "postroom/postroomkeep.ScriptBack", spec := "scriptBack", inPlace := ["internal/bytealg.IndexByteString", "internal/bytealg.IndexString"], unfollowed := true, recurses := true, named := ["postroom/script.commands", "postroom/script.tests", "postroom/script.parts", "postroom/script.matches", "internal/bytealg.MaxLen"], loops := true, apart := false, laid := [("postroom/script.commands", laid_postroom_script_commands), ("postroom/script.tests", laid_postroom_script_tests), ("postroom/script.matches", laid_postroom_script_matches), ("postroom/script.parts", laid_postroom_script_parts)] }
def ScriptBackSaid : Prop := scriptBackRow.holds Tryd.pinned (OpenSpec.ofChange scriptBackSpec)

/-- ITS FALSE NEIGHBOUR: 'it returns false'. Refute it at one input. -/
def scriptBackWrong : ChangeSpec := { name := "scriptBack", fn := fun _ => fun
  | [d] => { results := [.lit (.bool false)], args := [d] }
  | _ => none }
def ScriptBackWrongFalsely : Prop := scriptBackRow.holds Tryd.pinned (OpenSpec.ofChange scriptBackWrong)

/-- 'postroomkeep.ScriptFixed': WHATEVER THE INPUT: true; the input reads as it did. -/
def scriptFixedSpec : ChangeSpec := { name := "scriptFixed", fn := fun _ => fun
  | [d] => { results := [.lit (.bool true)], args := [d] }
  | _ => none }
def scriptFixedRow : OpenClaim := { program := "ytgmnoemkdigafaadoor", sum := "72dfb8a2b99bc00e731e89d38f7f12e4708e7d342191d03904994e6da01e86a7", func := "postroom/postroomkeep.ScriptFixed", spec := "scriptFixed", inPlace := ["internal/bytealg.IndexByteString", "internal/bytealg.IndexString"], unfollowed := true, recurses := true, named := ["internal/bytealg.MaxLen", "postroom/script.commands", "postroom/script.tests", "postroom/script.matches", "postroom/script.parts"], apart := false, laid := [("postroom/script.commands", laid_postroom_script_commands), ("postroom/script.tests", laid_postroom_script_tests), ("postroom/script.matches", laid_postroom_script_matches), ("postroom/script.parts", laid_postroom_script_parts)] }
def ScriptFixedSaid : Prop := scriptFixedRow.holds Tryd.pinned (OpenSpec.ofChange scriptFixedSpec)

/-- ITS FALSE NEIGHBOUR: 'it returns false'. Refute it at one input. -/
def scriptFixedWrong : ChangeSpec := { name := "scriptFixed", fn := fun _ => fun
  | [d] => { results := [.lit (.bool false)], args := [d] }
  | _ => none }
def ScriptFixedWrongFalsely : Prop := scriptFixedRow.holds Tryd.pinned (OpenSpec.ofChange scriptFixedWrong)

/-- 'postroomkeep.ScriptTorn': WHATEVER THE INPUT: true; the input reads as it did. -/
def scriptTornSpec : ChangeSpec := { name := "scriptTorn", fn := fun _ => fun
  | [d1, d2] => { results := [.lit (.bool true)], args := [d1, d2] }
  | _ => none }
def scriptTornRow : OpenClaim := { program := "ytgmnoemkdigafaadoor", sum := "72dfb8a2b99bc00e731e89d38f7f12e4708e7d342191d03904994e6da01e86a7", func := "postroom/postroomkeep.ScriptTorn", spec := "scriptTorn", inPlace := ["internal/bytealg.IndexByteString", "internal/bytealg.IndexString"], unfollowed := true, recurses := true, named := ["postroom/script.commands", "postroom/script.tests", "postroom/script.parts", "postroom/script.matches", "internal/bytealg.MaxLen"], loops := true, apart := false, laid := [("postroom/script.commands", laid_postroom_script_commands), ("postroom/script.tests", laid_postroom_script_tests), ("postroom/script.matches", laid_postroom_script_matches), ("postroom/script.parts", laid_postroom_script_parts)] }
def ScriptTornSaid : Prop := scriptTornRow.holds Tryd.pinned (OpenSpec.ofChange scriptTornSpec)

/-- ITS FALSE NEIGHBOUR: 'it returns false'. Refute it at one input. -/
def scriptTornWrong : ChangeSpec := { name := "scriptTorn", fn := fun _ => fun
  | [d1, d2] => { results := [.lit (.bool false)], args := [d1, d2] }
  | _ => none }
def ScriptTornWrongFalsely : Prop := scriptTornRow.holds Tryd.pinned (OpenSpec.ofChange scriptTornWrong)

/-- 'postroomkeep.RuleAllowed': WHATEVER THE INPUT: true; the input reads as it did. -/
def ruleAllowedSpec : ChangeSpec := { name := "ruleAllowed", fn := fun _ => fun
  | [d] => { results := [.lit (.bool true)], args := [d] }
  | _ => none }
def ruleAllowedRow : OpenClaim := { program := "ytgmnoemkdigafaadoor", sum := "72dfb8a2b99bc00e731e89d38f7f12e4708e7d342191d03904994e6da01e86a7", func := "postroom/postroomkeep.RuleAllowed", spec := "ruleAllowed", inPlace := ["internal/bytealg.IndexByteString", "internal/bytealg.CountString", "internal/bytealg.IndexString"], unfollowed := true, recurses := true, named := ["postroom/script.commands", "postroom/script.tests", "postroom/script.parts", "postroom/script.matches", "postroom/rule.names", "postroom/rule.extensions", "unicode/utf8.first", "unicode/utf8.acceptRanges", "internal/bytealg.MaxLen"], loops := true, apart := false, laid := [("unicode/utf8.acceptRanges", laid_unicode_utf8_acceptRanges), ("postroom/script.commands", laid_postroom_script_commands), ("postroom/script.tests", laid_postroom_script_tests), ("postroom/script.matches", laid_postroom_script_matches), ("postroom/script.parts", laid_postroom_script_parts), ("postroom/rule.extensions", laid_postroom_rule_extensions), ("postroom/rule.names", laid_postroom_rule_names), ("unicode/utf8.first", laid_unicode_utf8_first)] }
def RuleAllowedSaid : Prop := ruleAllowedRow.holds Tryd.pinned (OpenSpec.ofChange ruleAllowedSpec)

/-- ITS FALSE NEIGHBOUR: 'it returns false'. Refute it at one input. -/
def ruleAllowedWrong : ChangeSpec := { name := "ruleAllowed", fn := fun _ => fun
  | [d] => { results := [.lit (.bool false)], args := [d] }
  | _ => none }
def RuleAllowedWrongFalsely : Prop := ruleAllowedRow.holds Tryd.pinned (OpenSpec.ofChange ruleAllowedWrong)

/-- 'postroomkeep.RuleNeeds': WHATEVER THE INPUT: true; the input reads as it did. -/
def ruleNeedsSpec : ChangeSpec := { name := "ruleNeeds", fn := fun _ => fun
  | [d] => { results := [.lit (.bool true)], args := [d] }
  | _ => none }
def ruleNeedsRow : OpenClaim := { program := "ytgmnoemkdigafaadoor", sum := "72dfb8a2b99bc00e731e89d38f7f12e4708e7d342191d03904994e6da01e86a7", func := "postroom/postroomkeep.RuleNeeds", spec := "ruleNeeds", inPlace := ["internal/bytealg.IndexByteString", "internal/bytealg.CountString", "internal/bytealg.IndexString"], unfollowed := true, recurses := true, named := ["postroom/script.commands", "postroom/script.tests", "postroom/script.parts", "postroom/script.matches", "postroom/rule.extensions", "postroom/rule.names", "unicode/utf8.first", "unicode/utf8.acceptRanges", "internal/bytealg.MaxLen"], loops := true, apart := false, laid := [("unicode/utf8.acceptRanges", laid_unicode_utf8_acceptRanges), ("postroom/script.commands", laid_postroom_script_commands), ("postroom/script.tests", laid_postroom_script_tests), ("postroom/script.matches", laid_postroom_script_matches), ("postroom/script.parts", laid_postroom_script_parts), ("postroom/rule.extensions", laid_postroom_rule_extensions), ("postroom/rule.names", laid_postroom_rule_names), ("unicode/utf8.first", laid_unicode_utf8_first)] }
def RuleNeedsSaid : Prop := ruleNeedsRow.holds Tryd.pinned (OpenSpec.ofChange ruleNeedsSpec)

/-- ITS FALSE NEIGHBOUR: 'it returns false'. Refute it at one input. -/
def ruleNeedsWrong : ChangeSpec := { name := "ruleNeeds", fn := fun _ => fun
  | [d] => { results := [.lit (.bool false)], args := [d] }
  | _ => none }
def RuleNeedsWrongFalsely : Prop := ruleNeedsRow.holds Tryd.pinned (OpenSpec.ofChange ruleNeedsWrong)

/-- 'postroomkeep.RuleLate': WHATEVER THE INPUT: true; the input reads as it did. -/
def ruleLateSpec : ChangeSpec := { name := "ruleLate", fn := fun _ => fun
  | [d] => { results := [.lit (.bool true)], args := [d] }
  | _ => none }
def ruleLateRow : OpenClaim := { program := "ytgmnoemkdigafaadoor", sum := "72dfb8a2b99bc00e731e89d38f7f12e4708e7d342191d03904994e6da01e86a7", func := "postroom/postroomkeep.RuleLate", spec := "ruleLate", inPlace := ["internal/bytealg.IndexByteString", "internal/bytealg.CountString", "internal/bytealg.IndexString"], unfollowed := true, recurses := true, named := ["postroom/script.commands", "postroom/script.tests", "postroom/script.parts", "postroom/script.matches", "postroom/rule.extensions", "postroom/rule.names", "unicode/utf8.first", "unicode/utf8.acceptRanges", "internal/bytealg.MaxLen"], loops := true, apart := false, laid := [("unicode/utf8.acceptRanges", laid_unicode_utf8_acceptRanges), ("postroom/script.commands", laid_postroom_script_commands), ("postroom/script.tests", laid_postroom_script_tests), ("postroom/script.matches", laid_postroom_script_matches), ("postroom/script.parts", laid_postroom_script_parts), ("postroom/rule.extensions", laid_postroom_rule_extensions), ("postroom/rule.names", laid_postroom_rule_names), ("unicode/utf8.first", laid_unicode_utf8_first)] }
def RuleLateSaid : Prop := ruleLateRow.holds Tryd.pinned (OpenSpec.ofChange ruleLateSpec)

/-- ITS FALSE NEIGHBOUR: 'it returns false'. Refute it at one input. -/
def ruleLateWrong : ChangeSpec := { name := "ruleLate", fn := fun _ => fun
  | [d] => { results := [.lit (.bool false)], args := [d] }
  | _ => none }
def RuleLateWrongFalsely : Prop := ruleLateRow.holds Tryd.pinned (OpenSpec.ofChange ruleLateWrong)

/-- 'postroomkeep.CodeCount': WHATEVER THE INPUT: true; the input reads as it did. -/
def codeCountSpec : ChangeSpec := { name := "codeCount", fn := fun _ => fun
  | [d] => { results := [.lit (.bool true)], args := [d] }
  | _ => none }
def codeCountRow : OpenClaim := { program := "ytgmnoemkdigafaadoor", sum := "72dfb8a2b99bc00e731e89d38f7f12e4708e7d342191d03904994e6da01e86a7", func := "postroom/postroomkeep.CodeCount", spec := "codeCount", inPlace := ["internal/bytealg.IndexByteString", "internal/bytealg.CountString", "internal/bytealg.IndexString"], unfollowed := true, recurses := true, named := ["postroom/script.commands", "postroom/script.tests", "postroom/script.parts", "postroom/script.matches", "postroom/rule.extensions", "postroom/rule.names", "unicode/utf8.first", "unicode/utf8.acceptRanges", "internal/bytealg.MaxLen"], loops := true, apart := false, laid := [("unicode/utf8.acceptRanges", laid_unicode_utf8_acceptRanges), ("postroom/script.commands", laid_postroom_script_commands), ("postroom/script.tests", laid_postroom_script_tests), ("postroom/script.matches", laid_postroom_script_matches), ("postroom/script.parts", laid_postroom_script_parts), ("postroom/rule.extensions", laid_postroom_rule_extensions), ("postroom/rule.names", laid_postroom_rule_names), ("unicode/utf8.first", laid_unicode_utf8_first)] }
def CodeCountSaid : Prop := codeCountRow.holds Tryd.pinned (OpenSpec.ofChange codeCountSpec)

/-- ITS FALSE NEIGHBOUR: 'it returns false'. Refute it at one input. -/
def codeCountWrong : ChangeSpec := { name := "codeCount", fn := fun _ => fun
  | [d] => { results := [.lit (.bool false)], args := [d] }
  | _ => none }
def CodeCountWrongFalsely : Prop := codeCountRow.holds Tryd.pinned (OpenSpec.ofChange codeCountWrong)

/- THE SECOND FORM. 'bulk': how many values and letters a reading holds, each counted each time it is reached (what is shared counts as often as it is met; a slice's spare places count too). A statement '..UptoSaid' is the law's where the arguments, and the package variables that the reading takes, are together of bulk at most 1048576: NARROWER than '..Said'. Prove '..Said' where nothing that the law and all that it calls make is longer than what came in: it says more and counts as full. Else prove '..UptoSaid'. A law counts once. -/
mutual
def uptoBulk {H : Type} : DataW H → Nat
  | .lit (.string bytes) => bytes.length + 1
  | .lit _ => 1
  | .nil => 1
  | .ptr d => uptoBulk d + 1
  | .slice elems spare => uptoBulkAll elems + uptoBulkAll spare + 1
  | .agg parts => uptoBulkAll parts + 1
  | .iface _ d => uptoBulk d + 1
  | .map entries => uptoBulkEntries entries + 1
  | .held _ => 1
def uptoBulkAll {H : Type} : List (DataW H) → Nat
  | [] => 0
  | d :: r => uptoBulk d + uptoBulkAll r
def uptoBulkEntries {H : Type} : List (Lit × DataW H) → Nat
  | [] => 0
  | x :: r => uptoBulkEntry x + uptoBulkEntries r
def uptoBulkEntry {H : Type} : Lit × DataW H → Nat
  | (.string bytes, d) => bytes.length + uptoBulk d + 1
  | (_, d) => uptoBulk d + 1
 end
def uptoSmall : (H : Type) → List (DataW H) → Bool := fun _ ds => decide (uptoBulkAll ds ≤ 1048576)
def OpenSpec.upto (s : _root_.Go.ChangeSpec) : _root_.Go.OpenSpec := { _root_.Go.OpenSpec.ofChange s with cond := some uptoSmall }

/-- 'postroomkeep.FlagsBoth', WHERE WHAT IT READS IS OF BULK AT MOST 1048576: true; the input reads as it did. -/
def flagsBothUptoRow : OpenClaim := { program := "ytgmnoemkdigafaadoor", sum := "72dfb8a2b99bc00e731e89d38f7f12e4708e7d342191d03904994e6da01e86a7", func := "postroom/postroomkeep.FlagsBoth", spec := "flagsBoth", named := ["postroom/rule.names"], apart := false, laid := [("postroom/rule.names", laid_postroom_rule_names)], narrowed := true }
def FlagsBothUptoSaid : Prop := flagsBothUptoRow.holds Tryd.pinned (OpenSpec.upto flagsBothSpec)

/-- 'postroomkeep.ScriptDeep', WHERE WHAT IT READS IS OF BULK AT MOST 1048576: true; the input reads as it did. -/
def scriptDeepUptoRow : OpenClaim := { program := "ytgmnoemkdigafaadoor", sum := "72dfb8a2b99bc00e731e89d38f7f12e4708e7d342191d03904994e6da01e86a7", func := "postroom/postroomkeep.ScriptDeep", spec := "scriptDeep", recurses := true, named := ["postroom/script.commands", "postroom/script.tests", "postroom/script.parts", "postroom/script.matches"], apart := false, laid := [("postroom/script.commands", laid_postroom_script_commands), ("postroom/script.tests", laid_postroom_script_tests), ("postroom/script.matches", laid_postroom_script_matches), ("postroom/script.parts", laid_postroom_script_parts)], narrowed := true }
def ScriptDeepUptoSaid : Prop := scriptDeepUptoRow.holds Tryd.pinned (OpenSpec.upto scriptDeepSpec)

/-- 'postroomkeep.ScriptElse', WHERE WHAT IT READS IS OF BULK AT MOST 1048576: true; the input reads as it did. -/
def scriptElseUptoRow : OpenClaim := { program := "ytgmnoemkdigafaadoor", sum := "72dfb8a2b99bc00e731e89d38f7f12e4708e7d342191d03904994e6da01e86a7", func := "postroom/postroomkeep.ScriptElse", spec := "scriptElse", recurses := true, named := ["postroom/script.commands", "postroom/script.tests", "postroom/script.parts", "postroom/script.matches"], loops := true, apart := false, laid := [("postroom/script.commands", laid_postroom_script_commands), ("postroom/script.tests", laid_postroom_script_tests), ("postroom/script.matches", laid_postroom_script_matches), ("postroom/script.parts", laid_postroom_script_parts)], narrowed := true }
def ScriptElseUptoSaid : Prop := scriptElseUptoRow.holds Tryd.pinned (OpenSpec.upto scriptElseSpec)

/-- 'postroomkeep.ScriptBack', WHERE WHAT IT READS IS OF BULK AT MOST 1048576: true; the input reads as it did. -/
def scriptBackUptoRow : OpenClaim := { program := "ytgmnoemkdigafaadoor", sum := "72dfb8a2b99bc00e731e89d38f7f12e4708e7d342191d03904994e6da01e86a7", func := "postroom/postroomkeep.ScriptBack", spec := "scriptBack", inPlace := ["internal/bytealg.IndexByteString", "internal/bytealg.IndexString"], unfollowed := true, recurses := true, named := ["postroom/script.commands", "postroom/script.tests", "postroom/script.parts", "postroom/script.matches", "internal/bytealg.MaxLen"], loops := true, apart := false, laid := [("postroom/script.commands", laid_postroom_script_commands), ("postroom/script.tests", laid_postroom_script_tests), ("postroom/script.matches", laid_postroom_script_matches), ("postroom/script.parts", laid_postroom_script_parts)], narrowed := true }
def ScriptBackUptoSaid : Prop := scriptBackUptoRow.holds Tryd.pinned (OpenSpec.upto scriptBackSpec)

/-- 'postroomkeep.ScriptFixed', WHERE WHAT IT READS IS OF BULK AT MOST 1048576: true; the input reads as it did. -/
def scriptFixedUptoRow : OpenClaim := { program := "ytgmnoemkdigafaadoor", sum := "72dfb8a2b99bc00e731e89d38f7f12e4708e7d342191d03904994e6da01e86a7", func := "postroom/postroomkeep.ScriptFixed", spec := "scriptFixed", inPlace := ["internal/bytealg.IndexByteString", "internal/bytealg.IndexString"], unfollowed := true, recurses := true, named := ["internal/bytealg.MaxLen", "postroom/script.commands", "postroom/script.tests", "postroom/script.matches", "postroom/script.parts"], apart := false, laid := [("postroom/script.commands", laid_postroom_script_commands), ("postroom/script.tests", laid_postroom_script_tests), ("postroom/script.matches", laid_postroom_script_matches), ("postroom/script.parts", laid_postroom_script_parts)], narrowed := true }
def ScriptFixedUptoSaid : Prop := scriptFixedUptoRow.holds Tryd.pinned (OpenSpec.upto scriptFixedSpec)

/-- 'postroomkeep.ScriptTorn', WHERE WHAT IT READS IS OF BULK AT MOST 1048576: true; the input reads as it did. -/
def scriptTornUptoRow : OpenClaim := { program := "ytgmnoemkdigafaadoor", sum := "72dfb8a2b99bc00e731e89d38f7f12e4708e7d342191d03904994e6da01e86a7", func := "postroom/postroomkeep.ScriptTorn", spec := "scriptTorn", inPlace := ["internal/bytealg.IndexByteString", "internal/bytealg.IndexString"], unfollowed := true, recurses := true, named := ["postroom/script.commands", "postroom/script.tests", "postroom/script.parts", "postroom/script.matches", "internal/bytealg.MaxLen"], loops := true, apart := false, laid := [("postroom/script.commands", laid_postroom_script_commands), ("postroom/script.tests", laid_postroom_script_tests), ("postroom/script.matches", laid_postroom_script_matches), ("postroom/script.parts", laid_postroom_script_parts)], narrowed := true }
def ScriptTornUptoSaid : Prop := scriptTornUptoRow.holds Tryd.pinned (OpenSpec.upto scriptTornSpec)

/-- 'postroomkeep.RuleAllowed', WHERE WHAT IT READS IS OF BULK AT MOST 1048576: true; the input reads as it did. -/
def ruleAllowedUptoRow : OpenClaim := { program := "ytgmnoemkdigafaadoor", sum := "72dfb8a2b99bc00e731e89d38f7f12e4708e7d342191d03904994e6da01e86a7", func := "postroom/postroomkeep.RuleAllowed", spec := "ruleAllowed", inPlace := ["internal/bytealg.IndexByteString", "internal/bytealg.CountString", "internal/bytealg.IndexString"], unfollowed := true, recurses := true, named := ["postroom/script.commands", "postroom/script.tests", "postroom/script.parts", "postroom/script.matches", "postroom/rule.names", "postroom/rule.extensions", "unicode/utf8.first", "unicode/utf8.acceptRanges", "internal/bytealg.MaxLen"], loops := true, apart := false, laid := [("unicode/utf8.acceptRanges", laid_unicode_utf8_acceptRanges), ("postroom/script.commands", laid_postroom_script_commands), ("postroom/script.tests", laid_postroom_script_tests), ("postroom/script.matches", laid_postroom_script_matches), ("postroom/script.parts", laid_postroom_script_parts), ("postroom/rule.extensions", laid_postroom_rule_extensions), ("postroom/rule.names", laid_postroom_rule_names), ("unicode/utf8.first", laid_unicode_utf8_first)], narrowed := true }
def RuleAllowedUptoSaid : Prop := ruleAllowedUptoRow.holds Tryd.pinned (OpenSpec.upto ruleAllowedSpec)

/-- 'postroomkeep.RuleNeeds', WHERE WHAT IT READS IS OF BULK AT MOST 1048576: true; the input reads as it did. -/
def ruleNeedsUptoRow : OpenClaim := { program := "ytgmnoemkdigafaadoor", sum := "72dfb8a2b99bc00e731e89d38f7f12e4708e7d342191d03904994e6da01e86a7", func := "postroom/postroomkeep.RuleNeeds", spec := "ruleNeeds", inPlace := ["internal/bytealg.IndexByteString", "internal/bytealg.CountString", "internal/bytealg.IndexString"], unfollowed := true, recurses := true, named := ["postroom/script.commands", "postroom/script.tests", "postroom/script.parts", "postroom/script.matches", "postroom/rule.extensions", "postroom/rule.names", "unicode/utf8.first", "unicode/utf8.acceptRanges", "internal/bytealg.MaxLen"], loops := true, apart := false, laid := [("unicode/utf8.acceptRanges", laid_unicode_utf8_acceptRanges), ("postroom/script.commands", laid_postroom_script_commands), ("postroom/script.tests", laid_postroom_script_tests), ("postroom/script.matches", laid_postroom_script_matches), ("postroom/script.parts", laid_postroom_script_parts), ("postroom/rule.extensions", laid_postroom_rule_extensions), ("postroom/rule.names", laid_postroom_rule_names), ("unicode/utf8.first", laid_unicode_utf8_first)], narrowed := true }
def RuleNeedsUptoSaid : Prop := ruleNeedsUptoRow.holds Tryd.pinned (OpenSpec.upto ruleNeedsSpec)

/-- 'postroomkeep.RuleLate', WHERE WHAT IT READS IS OF BULK AT MOST 1048576: true; the input reads as it did. -/
def ruleLateUptoRow : OpenClaim := { program := "ytgmnoemkdigafaadoor", sum := "72dfb8a2b99bc00e731e89d38f7f12e4708e7d342191d03904994e6da01e86a7", func := "postroom/postroomkeep.RuleLate", spec := "ruleLate", inPlace := ["internal/bytealg.IndexByteString", "internal/bytealg.CountString", "internal/bytealg.IndexString"], unfollowed := true, recurses := true, named := ["postroom/script.commands", "postroom/script.tests", "postroom/script.parts", "postroom/script.matches", "postroom/rule.extensions", "postroom/rule.names", "unicode/utf8.first", "unicode/utf8.acceptRanges", "internal/bytealg.MaxLen"], loops := true, apart := false, laid := [("unicode/utf8.acceptRanges", laid_unicode_utf8_acceptRanges), ("postroom/script.commands", laid_postroom_script_commands), ("postroom/script.tests", laid_postroom_script_tests), ("postroom/script.matches", laid_postroom_script_matches), ("postroom/script.parts", laid_postroom_script_parts), ("postroom/rule.extensions", laid_postroom_rule_extensions), ("postroom/rule.names", laid_postroom_rule_names), ("unicode/utf8.first", laid_unicode_utf8_first)], narrowed := true }
def RuleLateUptoSaid : Prop := ruleLateUptoRow.holds Tryd.pinned (OpenSpec.upto ruleLateSpec)

/-- 'postroomkeep.CodeCount', WHERE WHAT IT READS IS OF BULK AT MOST 1048576: true; the input reads as it did. -/
def codeCountUptoRow : OpenClaim := { program := "ytgmnoemkdigafaadoor", sum := "72dfb8a2b99bc00e731e89d38f7f12e4708e7d342191d03904994e6da01e86a7", func := "postroom/postroomkeep.CodeCount", spec := "codeCount", inPlace := ["internal/bytealg.IndexByteString", "internal/bytealg.CountString", "internal/bytealg.IndexString"], unfollowed := true, recurses := true, named := ["postroom/script.commands", "postroom/script.tests", "postroom/script.parts", "postroom/script.matches", "postroom/rule.extensions", "postroom/rule.names", "unicode/utf8.first", "unicode/utf8.acceptRanges", "internal/bytealg.MaxLen"], loops := true, apart := false, laid := [("unicode/utf8.acceptRanges", laid_unicode_utf8_acceptRanges), ("postroom/script.commands", laid_postroom_script_commands), ("postroom/script.tests", laid_postroom_script_tests), ("postroom/script.matches", laid_postroom_script_matches), ("postroom/script.parts", laid_postroom_script_parts), ("postroom/rule.extensions", laid_postroom_rule_extensions), ("postroom/rule.names", laid_postroom_rule_names), ("unicode/utf8.first", laid_unicode_utf8_first)], narrowed := true }
def CodeCountUptoSaid : Prop := codeCountUptoRow.holds Tryd.pinned (OpenSpec.upto codeCountSpec)

end Rows
end Go.Proofs.YtgmnoemkdigafaaDoor
