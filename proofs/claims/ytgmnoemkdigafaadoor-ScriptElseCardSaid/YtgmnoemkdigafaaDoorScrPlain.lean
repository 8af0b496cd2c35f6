/- Plain words: scripts as commands and tests; which of them may be; their tokens. -/
import Derived.Test.YtgmnoemkdigafaaDoorBytes
namespace Go.Proofs.YtgmnoemkdigafaaDoor
set_option linter.unusedVariables false

inductive Tst where
  | mk (kind mtch part : Int) (names keys : List ByteArray) (over : Bool) (limit : Int) (tests : List Tst)
inductive Cmd where
  | mk (kind : Int) (texts : List ByteArray) (test : Tst) (thn els : List Cmd)
structure Tok where
  kind : Int
  text : ByteArray
  num : Int
def zeroT : Tst := .mk 0 0 0 [] [] false 0 []
/-- Has a test of this kind what it must have, and nothing else? -/
def formT (k m p : Int) (nn nk : Nat) (o : Bool) (lm : Int) (nt : Nat) : Bool :=
  (if 3 ≤ k ∧ k ≤ 5 then decide (nt = 1) || (decide (k ≠ 3) && decide (0 < nt))
   else if 6 ≤ k ∧ k ≤ 8 then decide (1 ≤ m ∧ m ≤ 3 ∧ 0 < nn ∧ 0 < nk) && (decide (k = 6) || decide (1 ≤ p ∧ p ≤ 3))
   else if k = 9 then decide (0 < nn)
   else if k = 10 then decide (0 ≤ lm ∧ lm ≤ 2147483647)
   else true) &&
  (decide (6 ≤ k ∧ k ≤ 9) || decide (nn = 0)) && (decide (6 ≤ k ∧ k ≤ 8) || decide (nk = 0 ∧ m = 0)) && (decide (7 ≤ k ∧ k ≤ 8) || decide (p = 0)) &&
  (decide (k = 10) || decide (o = false ∧ lm = 0)) && (decide (3 ≤ k ∧ k ≤ 5) || decide (nt = 0))
mutual
def chkT : Tst → Int → Int
  | .mk k m p ns ks o lm ts, d =>
    if k < 1 ∨ 10 < k then 2
    else if 6 < d then 1
    else if formT k m p ns.length ks.length o lm ts.length = false then 3
    else chkTs ts (d + 1)
def chkTs : List Tst → Int → Int
  | [], _ => 0
  | t :: l, d => if chkT t d ≠ 0 then chkT t d else chkTs l d
end
def bareT : Tst → Bool
  | .mk k m p ns ks o lm ts => decide (k = 0 ∧ m = 0 ∧ p = 0 ∧ ns.length + ks.length + ts.length = 0 ∧ o = false ∧ lm = 0)
def formC (k : Int) (n : Nat) : Bool :=
  if k = 1 ∨ k = 8 ∨ k = 9 then decide (0 < n) else if 5 ≤ k ∧ k ≤ 7 then decide (n = 1) else decide (n = 0)
def Cmd.kind : Cmd → Int
  | .mk k _ _ _ _ => k
/-- Is there just one command in an else, and is it an if? -/
def lone : List Cmd → Bool
  | [c] => decide (c.kind = 2)
  | _ => false
mutual
def chkC : Cmd → Int → Int
  | .mk k tx t th el, d =>
    if k < 1 ∨ 10 < k then 2
    else if 6 < d then 1
    else if k = 2 then
      (if 0 < tx.length then 3
       else if chkT t 1 ≠ 0 then chkT t 1
       else if chkCs th (d + 1) ≠ 0 then chkCs th (d + 1)
       else chkCs el (if lone el = true then d else d + 1))
    else if formC k tx.length = true ∧ bareT t = true ∧ th.length + el.length = 0 then 0 else 3
def chkCs : List Cmd → Int → Int
  | [], _ => 0
  | c :: l, d => if chkC c d ≠ 0 then chkC c d else chkCs l d
end
def wordTk (s : ByteArray) : Tok := ⟨1, s, 0⟩
def markTk (c : UInt8) : Tok := ⟨5, mkS [c], 0⟩
def strTk (s : ByteArray) : Tok := ⟨4, s, 0⟩
/-- The tokens of a list's strings, each with a mark ahead of it. -/
def listTks : Nat → List ByteArray → List Tok
  | _, [] => []
  | i, s :: l => markTk (if i = 0 then 91 else 44) :: strTk s :: listTks (i + 1) l
def listTk : List ByteArray → List Tok
  | [s] => [strTk s]
  | l => listTks 0 l ++ [markTk 93]
/-- The words of tests, of commands, of ways to compare and of parts. -/
def testsW : List (List UInt8) := [[], [116, 114, 117, 101], [102, 97, 108, 115, 101], [110, 111, 116], [97, 108, 108, 111, 102], [97, 110, 121, 111, 102], [104, 101, 97, 100, 101, 114], [97, 100, 100, 114, 101, 115, 115], [101, 110, 118, 101, 108, 111, 112, 101], [101, 120, 105, 115, 116, 115], [115, 105, 122, 101]]
def commandsW : List (List UInt8) := [[], [114, 101, 113, 117, 105, 114, 101], [105, 102], [107, 101, 101, 112], [100, 105, 115, 99, 97, 114, 100], [102, 105, 108, 101, 105, 110, 116, 111], [114, 101, 100, 105, 114, 101, 99, 116], [114, 101, 106, 101, 99, 116], [115, 101, 116, 102, 108, 97, 103], [97, 100, 100, 102, 108, 97, 103], [115, 116, 111, 112]]
def matchesW : List (List UInt8) := [[], [105, 115], [99, 111, 110, 116, 97, 105, 110, 115], [109, 97, 116, 99, 104, 101, 115]]
def partsW : List (List UInt8) := [[], [97, 108, 108], [108, 111, 99, 97, 108, 112, 97, 114, 116], [100, 111, 109, 97, 105, 110]]
def wAt (l : List (List UInt8)) (k : Int) : ByteArray := mkS (l.getD k.toNat [])
def tagTk (s : ByteArray) : Tok := ⟨2, s, 0⟩
mutual
def testTk : Tst → List Tok
  | .mk k m p ns ks o lm ts =>
    wordTk (wAt testsW k) ::
    (if k = 3 ∨ k = 4 ∨ k = 5 then (if k = 3 then testsTk1 ts else testsTk 0 ts ++ [markTk 41])
     else if 6 ≤ k ∧ k ≤ 8 then (if k = 6 then [] else [tagTk (wAt partsW p)]) ++ tagTk (wAt matchesW m) :: (listTk ns ++ listTk ks)
     else if k = 9 then listTk ns
     else if k = 10 then [tagTk (if o = true then mkS [111, 118, 101, 114] else mkS [117, 110, 100, 101, 114]), ⟨3, mkS [], lm⟩]
     else [])
def testsTk1 : List Tst → List Tok
  | [] => []
  | t :: _ => testTk t
def testsTk : Nat → List Tst → List Tok
  | _, [] => []
  | i, t :: l => markTk (if i = 0 then 40 else 44) :: (testTk t ++ testsTk (i + 1) l)
end
mutual
/-- A command's tokens; what stands behind its first word. -/
def cmdTk : Cmd → List Tok
  | .mk k tx t th el => wordTk (wAt commandsW k) :: (if k = 2 then testTk t ++ (markTk 123 :: (cmdsTk th ++ [markTk 125])) ++ elseTk el else (if 0 < tx.length then listTk tx else []) ++ [markTk 59])
def cmdsTk : List Cmd → List Tok
  | [] => []
  | c :: l => cmdTk c ++ cmdsTk l
/-- An else. -/
def elseTk : List Cmd → List Tok
  | [] => []
  | c :: l => if l = [] ∧ c.kind = 2 then wordTk (mkS [101, 108, 115, 105, 102]) :: (cmdTk c).tail else wordTk (mkS [101, 108, 115, 101]) :: markTk 123 :: (cmdTk c ++ cmdsTk l ++ [markTk 125])
end
end Go.Proofs.YtgmnoemkdigafaaDoor
