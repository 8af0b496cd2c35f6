/- Plain words on entries and batches: their form, and their bytes. -/
import Derived.Test.YtpncahklapfoaaaDoorPick
import Derived.Test.YtpncahklapfoaaaDoorWhoList2
namespace Go.Proofs.YtpncahklapfoaaaDoor
open Go.RowKit
set_option linter.unusedVariables false

/-- An entry of a book. -/
structure Ent where
  kind : Int
  box : ByteArray
  uid : Int
  flags : Int
  dst : ByteArray
  text : ByteArray
deriving DecidableEq
/-- May a byte be in a box's name? -/
def rnB (c : UInt8) : Bool := 33 ≤ c && c ≤ 126
/-- What rule.Name answers. -/
def nameR (l : List UInt8) : Int := if l.length < 1 ∨ 12 < l.length then 1 else if l.all rnB = true then 0 else 3
/-- What an entry of its kind is allowed to have: the same entry without the rest. -/
def ownE (x : Ent) : Option Ent :=
  if x.kind = 1 ∨ x.kind = 4 then some ⟨x.kind, x.box, 0, 0, ⟨#[]⟩, ⟨#[]⟩⟩
  else if x.kind = 2 then some ⟨x.kind, x.box, 0, x.flags, ⟨#[]⟩, x.text⟩
  else if x.kind = 3 then some ⟨x.kind, x.box, x.uid, x.flags, ⟨#[]⟩, ⟨#[]⟩⟩
  else if x.kind = 5 then some ⟨x.kind, x.box, x.uid, 0, x.dst, ⟨#[]⟩⟩
  else if x.kind = 6 then some ⟨x.kind, ⟨#[]⟩, 0, 0, x.dst, x.text⟩
  else none
/-- Is a text a list of one address, and short? -/
def oneL (s : ByteArray) : Bool := match listL (s.size + 1) (s.size + 1) (bs s) with
  | some [a] => decide (s.size ≤ 100)
  | _ => false
/-- What box.Form answers. -/
def formR (x : Ent) : Int := match ownE x with
  | none => 2
  | some y => if x ≠ y then 3 else if x.flags < 0 ∨ 31 < x.flags ∨ x.uid < 0 ∨ 1048576 < x.uid then 6 else if 2000 < x.text.size then 1
    else if x.kind = 6 then (if oneL x.dst = true then 0 else 3)
    else if nameR (bs x.box) ≠ 0 then nameR (bs x.box) else if x.kind = 5 then nameR (bs x.dst) else 0
def entCells (e : Ent) : List Value := [.int .i64 e.kind, .string e.box, .int .i64 e.uid, .int .i64 e.flags, .string e.dst, .string e.text]
def entVal (e : Ent) : Value := .agg #[.int .i64 e.kind, .string e.box, .int .i64 e.uid, .int .i64 e.flags, .string e.dst, .string e.text]
def wide2 (n : Nat) : List UInt8 := [UInt8.ofNat (n / 256), UInt8.ofNat n]
def wide3 (n : Nat) : List UInt8 := [UInt8.ofNat (n / 65536), UInt8.ofNat (n / 256), UInt8.ofNat n]
def txtE (s : ByteArray) : List UInt8 := wide2 s.size ++ bs s
def encE (e : Ent) : List UInt8 := [UInt8.ofNat e.kind.toNat, UInt8.ofNat e.flags.toNat] ++ wide3 e.uid.toNat ++ (txtE e.box ++ (txtE e.dst ++ txtE e.text))
def encB (user : Nat) (es : List Ent) : List UInt8 := [UInt8.ofNat user, UInt8.ofNat es.length] ++ es.flatMap encE
/-- A number of so many bytes, the highest one first. -/
def numL (l : List UInt8) : Nat := l.foldl (fun n c => n * 256 + c.toNat) 0
end Go.Proofs.YtpncahklapfoaaaDoor
