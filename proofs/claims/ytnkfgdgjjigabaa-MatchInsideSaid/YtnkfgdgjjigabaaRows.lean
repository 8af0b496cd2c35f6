/-
  No cell of these rows narrows 'for every input' (looked for: loops, veiled, ifaces, maps, wideKeys, modest, calm, conditions, laid).
  DERIVED. THE GIVEN ROWS OF THIS SEAT. 8 by the template 'for every input the law returns true; each argument reads behind the call as it read before'; 0 by the template 'total and deterministic' (their statements: YtnkfgdgjjigabaaTotals.lean).
  GIVEN WITH THE SEED: the statements are not yours to turn. If you find one false, say at which input.
  Laid BY PROGRAM, IN A SANDBOX (cutbox-rows.mjs): the forced cells as the released guide's own fill.sh prints them over the translation b25b17e924b06a02… (all of the seat's roots in one cut). By AI agents, Wed Nov 11 2026. No macro, syntax, notation, axiom, sorry.
-/
import Derived.Test.YtnkfgdgjjigabaaChecked
import GoSem.Claim
import GoSem.ClaimJoined
import GoSem.ClaimMapViews
import Derived.JoinedTies
import Derived.KernelRfl
namespace Go.Proofs.Ytnkfgdgjjigabaa
/- THE CELL 'sum', in the pinned program and in every row, IS THE sha256 OF THE DUMP (.gsa) THAT YtnkfgdgjjigabaaProg.lean LOADS. Nothing in Lean hashes anything: it is a label: what it is worth is what the hold of that sum in a sandbox is worth. -/
noncomputable def Try.pinned : Pinned := { name := "ytnkfgdgjjigabaa", sum := "b25b17e924b06a02a578f7f20cf6dea1cec9dcdb75695abb59c74f52c049189c", checked := Try.checked }
namespace Rows
def none {H : Type} : Left H := { results := [], args := [] }

/-- 'postroomkeep.NameLong': WHATEVER THE INPUT: true; the input reads as it did. -/
def nameLongSpec : ChangeSpec := { name := "nameLong", fn := fun _ => fun
  | [d1, d2] => { results := [.lit (.bool true)], args := [d1, d2] }
  | _ => none }
def nameLongRow : OpenClaim := { program := "ytnkfgdgjjigabaa", sum := "b25b17e924b06a02a578f7f20cf6dea1cec9dcdb75695abb59c74f52c049189c", func := "postroom/postroomkeep.NameLong", spec := "nameLong", apart := false }
def NameLongSaid : Prop := nameLongRow.holds Try.pinned (OpenSpec.ofChange nameLongSpec)

/-- ITS FALSE NEIGHBOUR: 'it returns false'. Refute it at one input. -/
def nameLongWrong : ChangeSpec := { name := "nameLong", fn := fun _ => fun
  | [d1, d2] => { results := [.lit (.bool false)], args := [d1, d2] }
  | _ => none }
def NameLongWrongFalsely : Prop := nameLongRow.holds Try.pinned (OpenSpec.ofChange nameLongWrong)

/-- 'postroomkeep.MatchSelf': WHATEVER THE INPUT: true; the input reads as it did. -/
def matchSelfSpec : ChangeSpec := { name := "matchSelf", fn := fun _ => fun
  | [d1, d2] => { results := [.lit (.bool true)], args := [d1, d2] }
  | _ => none }
def matchSelfRow : OpenClaim := { program := "ytnkfgdgjjigabaa", sum := "b25b17e924b06a02a578f7f20cf6dea1cec9dcdb75695abb59c74f52c049189c", func := "postroom/postroomkeep.MatchSelf", spec := "matchSelf", inPlace := ["internal/bytealg.IndexByteString", "internal/bytealg.IndexString"], unfollowed := true, recurses := true, named := ["internal/bytealg.MaxLen"], apart := false }
def MatchSelfSaid : Prop := matchSelfRow.holds Try.pinned (OpenSpec.ofChange matchSelfSpec)

/-- ITS FALSE NEIGHBOUR: 'it returns false'. Refute it at one input. -/
def matchSelfWrong : ChangeSpec := { name := "matchSelf", fn := fun _ => fun
  | [d1, d2] => { results := [.lit (.bool false)], args := [d1, d2] }
  | _ => none }
def MatchSelfWrongFalsely : Prop := matchSelfRow.holds Try.pinned (OpenSpec.ofChange matchSelfWrong)

/-- 'postroomkeep.MatchStar': WHATEVER THE INPUT: true; the input reads as it did. -/
def matchStarSpec : ChangeSpec := { name := "matchStar", fn := fun _ => fun
  | [d1, d2, d3] => { results := [.lit (.bool true)], args := [d1, d2, d3] }
  | _ => none }
def matchStarRow : OpenClaim := { program := "ytnkfgdgjjigabaa", sum := "b25b17e924b06a02a578f7f20cf6dea1cec9dcdb75695abb59c74f52c049189c", func := "postroom/postroomkeep.MatchStar", spec := "matchStar", inPlace := ["internal/bytealg.IndexByteString", "internal/bytealg.IndexString"], unfollowed := true, recurses := true, named := ["internal/bytealg.MaxLen"], apart := false }
def MatchStarSaid : Prop := matchStarRow.holds Try.pinned (OpenSpec.ofChange matchStarSpec)

/-- ITS FALSE NEIGHBOUR: 'it returns false'. Refute it at one input. -/
def matchStarWrong : ChangeSpec := { name := "matchStar", fn := fun _ => fun
  | [d1, d2, d3] => { results := [.lit (.bool false)], args := [d1, d2, d3] }
  | _ => none }
def MatchStarWrongFalsely : Prop := matchStarRow.holds Try.pinned (OpenSpec.ofChange matchStarWrong)

/-- 'postroomkeep.MatchInside': WHATEVER THE INPUT: true; the input reads as it did. -/
def matchInsideSpec : ChangeSpec := { name := "matchInside", fn := fun _ => fun
  | [d1, d2] => { results := [.lit (.bool true)], args := [d1, d2] }
  | _ => none }
def matchInsideRow : OpenClaim := { program := "ytnkfgdgjjigabaa", sum := "b25b17e924b06a02a578f7f20cf6dea1cec9dcdb75695abb59c74f52c049189c", func := "postroom/postroomkeep.MatchInside", spec := "matchInside", inPlace := ["internal/bytealg.IndexByteString", "internal/bytealg.IndexString"], unfollowed := true, recurses := true, named := ["internal/bytealg.MaxLen"], apart := false }
def MatchInsideSaid : Prop := matchInsideRow.holds Try.pinned (OpenSpec.ofChange matchInsideSpec)

/-- ITS FALSE NEIGHBOUR: 'it returns false'. Refute it at one input. -/
def matchInsideWrong : ChangeSpec := { name := "matchInside", fn := fun _ => fun
  | [d1, d2] => { results := [.lit (.bool false)], args := [d1, d2] }
  | _ => none }
def MatchInsideWrongFalsely : Prop := matchInsideRow.holds Try.pinned (OpenSpec.ofChange matchInsideWrong)

/-- 'postroomkeep.MatchParts': WHATEVER THE INPUT: true; the input reads as it did. -/
def matchPartsSpec : ChangeSpec := { name := "matchParts", fn := fun _ => fun
  | [d1, d2, d3, d4] => { results := [.lit (.bool true)], args := [d1, d2, d3, d4] }
  | _ => none }
def matchPartsRow : OpenClaim := { program := "ytnkfgdgjjigabaa", sum := "b25b17e924b06a02a578f7f20cf6dea1cec9dcdb75695abb59c74f52c049189c", func := "postroom/postroomkeep.MatchParts", spec := "matchParts", inPlace := ["internal/bytealg.IndexByteString", "internal/bytealg.IndexString"], unfollowed := true, recurses := true, named := ["internal/bytealg.MaxLen"], apart := false }
def MatchPartsSaid : Prop := matchPartsRow.holds Try.pinned (OpenSpec.ofChange matchPartsSpec)

/-- ITS FALSE NEIGHBOUR: 'it returns false'. Refute it at one input. -/
def matchPartsWrong : ChangeSpec := { name := "matchParts", fn := fun _ => fun
  | [d1, d2, d3, d4] => { results := [.lit (.bool false)], args := [d1, d2, d3, d4] }
  | _ => none }
def MatchPartsWrongFalsely : Prop := matchPartsRow.holds Try.pinned (OpenSpec.ofChange matchPartsWrong)

/-- 'postroomkeep.MatchOne': WHATEVER THE INPUT: true; the input reads as it did. -/
def matchOneSpec : ChangeSpec := { name := "matchOne", fn := fun _ => fun
  | [d1, d2] => { results := [.lit (.bool true)], args := [d1, d2] }
  | _ => none }
def matchOneRow : OpenClaim := { program := "ytnkfgdgjjigabaa", sum := "b25b17e924b06a02a578f7f20cf6dea1cec9dcdb75695abb59c74f52c049189c", func := "postroom/postroomkeep.MatchOne", spec := "matchOne", inPlace := ["internal/bytealg.IndexByteString", "internal/bytealg.IndexString"], unfollowed := true, recurses := true, named := ["internal/bytealg.MaxLen"], apart := false }
def MatchOneSaid : Prop := matchOneRow.holds Try.pinned (OpenSpec.ofChange matchOneSpec)

/-- ITS FALSE NEIGHBOUR: 'it returns false'. Refute it at one input. -/
def matchOneWrong : ChangeSpec := { name := "matchOne", fn := fun _ => fun
  | [d1, d2] => { results := [.lit (.bool false)], args := [d1, d2] }
  | _ => none }
def MatchOneWrongFalsely : Prop := matchOneRow.holds Try.pinned (OpenSpec.ofChange matchOneWrong)

/-- 'postroomkeep.MatchStars': WHATEVER THE INPUT: true; the input reads as it did. -/
def matchStarsSpec : ChangeSpec := { name := "matchStars", fn := fun _ => fun
  | [d1, d2, d3] => { results := [.lit (.bool true)], args := [d1, d2, d3] }
  | _ => none }
def matchStarsRow : OpenClaim := { program := "ytnkfgdgjjigabaa", sum := "b25b17e924b06a02a578f7f20cf6dea1cec9dcdb75695abb59c74f52c049189c", func := "postroom/postroomkeep.MatchStars", spec := "matchStars", inPlace := ["internal/bytealg.IndexByteString", "internal/bytealg.IndexString"], unfollowed := true, recurses := true, named := ["internal/bytealg.MaxLen"], apart := false }
def MatchStarsSaid : Prop := matchStarsRow.holds Try.pinned (OpenSpec.ofChange matchStarsSpec)

/-- ITS FALSE NEIGHBOUR: 'it returns false'. Refute it at one input. -/
def matchStarsWrong : ChangeSpec := { name := "matchStars", fn := fun _ => fun
  | [d1, d2, d3] => { results := [.lit (.bool false)], args := [d1, d2, d3] }
  | _ => none }
def MatchStarsWrongFalsely : Prop := matchStarsRow.holds Try.pinned (OpenSpec.ofChange matchStarsWrong)

/-- 'postroomkeep.FoldTwice': WHATEVER THE INPUT: true; the input reads as it did. -/
def foldTwiceSpec : ChangeSpec := { name := "foldTwice", fn := fun _ => fun
  | [d] => { results := [.lit (.bool true)], args := [d] }
  | _ => none }
def foldTwiceRow : OpenClaim := { program := "ytnkfgdgjjigabaa", sum := "b25b17e924b06a02a578f7f20cf6dea1cec9dcdb75695abb59c74f52c049189c", func := "postroom/postroomkeep.FoldTwice", spec := "foldTwice", inPlace := ["internal/bytealg.IndexByteString", "internal/bytealg.IndexString"], unfollowed := true, recurses := true, named := ["internal/bytealg.MaxLen"], apart := false }
def FoldTwiceSaid : Prop := foldTwiceRow.holds Try.pinned (OpenSpec.ofChange foldTwiceSpec)

/-- ITS FALSE NEIGHBOUR: 'it returns false'. Refute it at one input. -/
def foldTwiceWrong : ChangeSpec := { name := "foldTwice", fn := fun _ => fun
  | [d] => { results := [.lit (.bool false)], args := [d] }
  | _ => none }
def FoldTwiceWrongFalsely : Prop := foldTwiceRow.holds Try.pinned (OpenSpec.ofChange foldTwiceWrong)

/- THE SECOND FORM. 'bulk': how many values and letters a reading holds, each counted each time it is reached (what is shared counts as often as it is met; a slice's spare places count too). A statement '..UptoSaid' is the law's where the arguments, and the package variables that the reading takes, are together of bulk at most 1048576: NARROWER than '..Said'. Prove '..Said' where nothing that the law and all that it calls make is longer than what came in: it says more and counts as full. Else prove '..UptoSaid'. A law counts once. -/
mutual
def uptoBulk {H : Type} : DataW H → Nat
  | .lit (.string bytes) => bytes.length + 1
  | .lit _ => 1
  | .nil => 1
  | .ptr d => uptoBulk d + 1
  | .slice elems spare => uptoBulkAll elems + uptoBulkAll spare + 1
  | .agg parts => uptoBulkAll parts + 1
  | .iface _ d => uptoBulk d + 1
  | .map entries => uptoBulkEntries entries + 1
  | .held _ => 1
def uptoBulkAll {H : Type} : List (DataW H) → Nat
  | [] => 0
  | d :: r => uptoBulk d + uptoBulkAll r
def uptoBulkEntries {H : Type} : List (Lit × DataW H) → Nat
  | [] => 0
  | x :: r => uptoBulkEntry x + uptoBulkEntries r
def uptoBulkEntry {H : Type} : Lit × DataW H → Nat
  | (.string bytes, d) => bytes.length + uptoBulk d + 1
  | (_, d) => uptoBulk d + 1
 end
def uptoSmall : (H : Type) → List (DataW H) → Bool := fun _ ds => decide (uptoBulkAll ds ≤ 1048576)
def OpenSpec.upto (s : _root_.Go.ChangeSpec) : _root_.Go.OpenSpec := { _root_.Go.OpenSpec.ofChange s with cond := some uptoSmall }

/-- 'postroomkeep.NameLong', WHERE WHAT IT READS IS OF BULK AT MOST 1048576: true; the input reads as it did. -/
def nameLongUptoRow : OpenClaim := { program := "ytnkfgdgjjigabaa", sum := "b25b17e924b06a02a578f7f20cf6dea1cec9dcdb75695abb59c74f52c049189c", func := "postroom/postroomkeep.NameLong", spec := "nameLong", apart := false, narrowed := true }
def NameLongUptoSaid : Prop := nameLongUptoRow.holds Try.pinned (OpenSpec.upto nameLongSpec)

/-- 'postroomkeep.MatchSelf', WHERE WHAT IT READS IS OF BULK AT MOST 1048576: true; the input reads as it did. -/
def matchSelfUptoRow : OpenClaim := { program := "ytnkfgdgjjigabaa", sum := "b25b17e924b06a02a578f7f20cf6dea1cec9dcdb75695abb59c74f52c049189c", func := "postroom/postroomkeep.MatchSelf", spec := "matchSelf", inPlace := ["internal/bytealg.IndexByteString", "internal/bytealg.IndexString"], unfollowed := true, recurses := true, named := ["internal/bytealg.MaxLen"], apart := false, narrowed := true }
def MatchSelfUptoSaid : Prop := matchSelfUptoRow.holds Try.pinned (OpenSpec.upto matchSelfSpec)

/-- 'postroomkeep.MatchStar', WHERE WHAT IT READS IS OF BULK AT MOST 1048576: true; the input reads as it did. -/
def matchStarUptoRow : OpenClaim := { program := "ytnkfgdgjjigabaa", sum := "b25b17e924b06a02a578f7f20cf6dea1cec9dcdb75695abb59c74f52c049189c", func := "postroom/postroomkeep.MatchStar", spec := "matchStar", inPlace := ["internal/bytealg.IndexByteString", "internal/bytealg.IndexString"], unfollowed := true, recurses := true, named := ["internal/bytealg.MaxLen"], apart := false, narrowed := true }
def MatchStarUptoSaid : Prop := matchStarUptoRow.holds Try.pinned (OpenSpec.upto matchStarSpec)

/-- 'postroomkeep.MatchInside', WHERE WHAT IT READS IS OF BULK AT MOST 1048576: true; the input reads as it did. -/
def matchInsideUptoRow : OpenClaim := { program := "ytnkfgdgjjigabaa", sum := "b25b17e924b06a02a578f7f20cf6dea1cec9dcdb75695abb59c74f52c049189c", func := "postroom/postroomkeep.MatchInside", spec := "matchInside", inPlace := ["internal/bytealg.IndexByteString", "internal/bytealg.IndexString"], unfollowed := true, recurses := true, named := ["internal/bytealg.MaxLen"], apart := false, narrowed := true }
def MatchInsideUptoSaid : Prop := matchInsideUptoRow.holds Try.pinned (OpenSpec.upto matchInsideSpec)

/-- 'postroomkeep.MatchParts', WHERE WHAT IT READS IS OF BULK AT MOST 1048576: true; the input reads as it did. -/
def matchPartsUptoRow : OpenClaim := { program := "ytnkfgdgjjigabaa", sum := "b25b17e924b06a02a578f7f20cf6dea1cec9dcdb75695abb59c74f52c049189c", func := "postroom/postroomkeep.MatchParts", spec := "matchParts", inPlace := ["internal/bytealg.IndexByteString", "internal/bytealg.IndexString"], unfollowed := true, recurses := true, named := ["internal/bytealg.MaxLen"], apart := false, narrowed := true }
def MatchPartsUptoSaid : Prop := matchPartsUptoRow.holds Try.pinned (OpenSpec.upto matchPartsSpec)

/-- 'postroomkeep.MatchOne', WHERE WHAT IT READS IS OF BULK AT MOST 1048576: true; the input reads as it did. -/
def matchOneUptoRow : OpenClaim := { program := "ytnkfgdgjjigabaa", sum := "b25b17e924b06a02a578f7f20cf6dea1cec9dcdb75695abb59c74f52c049189c", func := "postroom/postroomkeep.MatchOne", spec := "matchOne", inPlace := ["internal/bytealg.IndexByteString", "internal/bytealg.IndexString"], unfollowed := true, recurses := true, named := ["internal/bytealg.MaxLen"], apart := false, narrowed := true }
def MatchOneUptoSaid : Prop := matchOneUptoRow.holds Try.pinned (OpenSpec.upto matchOneSpec)

/-- 'postroomkeep.MatchStars', WHERE WHAT IT READS IS OF BULK AT MOST 1048576: true; the input reads as it did. -/
def matchStarsUptoRow : OpenClaim := { program := "ytnkfgdgjjigabaa", sum := "b25b17e924b06a02a578f7f20cf6dea1cec9dcdb75695abb59c74f52c049189c", func := "postroom/postroomkeep.MatchStars", spec := "matchStars", inPlace := ["internal/bytealg.IndexByteString", "internal/bytealg.IndexString"], unfollowed := true, recurses := true, named := ["internal/bytealg.MaxLen"], apart := false, narrowed := true }
def MatchStarsUptoSaid : Prop := matchStarsUptoRow.holds Try.pinned (OpenSpec.upto matchStarsSpec)

/-- 'postroomkeep.FoldTwice', WHERE WHAT IT READS IS OF BULK AT MOST 1048576: true; the input reads as it did. -/
def foldTwiceUptoRow : OpenClaim := { program := "ytnkfgdgjjigabaa", sum := "b25b17e924b06a02a578f7f20cf6dea1cec9dcdb75695abb59c74f52c049189c", func := "postroom/postroomkeep.FoldTwice", spec := "foldTwice", inPlace := ["internal/bytealg.IndexByteString", "internal/bytealg.IndexString"], unfollowed := true, recurses := true, named := ["internal/bytealg.MaxLen"], apart := false, narrowed := true }
def FoldTwiceUptoSaid : Prop := foldTwiceUptoRow.holds Try.pinned (OpenSpec.upto foldTwiceSpec)

end Rows
end Go.Proofs.Ytnkfgdgjjigabaa
