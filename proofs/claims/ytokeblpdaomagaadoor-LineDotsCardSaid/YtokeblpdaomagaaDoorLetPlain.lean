/- Plain words on messages: names, values, lines, what Parse and Show answer. -/
import Derived.Test.YtokeblpdaomagaaDoorKit
import Derived.Lib.IndexMore
import Derived.Lib.IndexBytes
import Derived.Lib.SlTrimSet
namespace Go.Proofs.YtokeblpdaomagaaDoor
open Go.RowKit

/-- A field: its name and its value. -/
structure Fld where
  name : ByteArray
  value : ByteArray
/-- May a byte be in a field's name? -/
def nameB (c : UInt8) : Bool := 33 ≤ c && c ≤ 126 && c != 58
/-- May a field's name be so? -/
def nameL (l : List UInt8) : Bool := l.all nameB && !l.isEmpty
def blkB (c : UInt8) : Bool := c == 32 || c == 9
/-- A value's byte out of a raw one: n bytes there are. -/
def valueC (n i : Nat) (c : UInt8) : UInt8 := if c = 13 ∨ c = 10 ∨ (c = 32 ∨ c = 9) ∧ (i = 0 ∨ i + 1 = n ∨ i = 39) then 121 else c
def valueL (l : List UInt8) : List UInt8 := (l.take 40).mapIdx fun i c => valueC l.length i c
/-- A text without the blanks at its ends. -/
def trimL (l : List UInt8) : List UInt8 := Lib.trimS l [32, 9]
/-- What stands ahead of and behind the first end of a line; none: there is none. -/
def crlfL : List UInt8 → Option (List UInt8 × List UInt8)
  | [] => none
  | c :: l => if c = 13 ∧ l.head? = some 10 then some ([], l.tail) else (crlfL l).map fun x => (c :: x.1, x.2)
/-- What stands ahead of and behind the first colon. -/
def colonL : List UInt8 → Option (List UInt8 × List UInt8)
  | [] => none
  | c :: l => if c = 58 then some ([], l) else (colonL l).map fun x => (c :: x.1, x.2)
theorem index_crlf_cons (c : UInt8) (l : List UInt8) : Lib.index (c :: l) [13, 10] = if c = 13 ∧ l.head? = some 10 then 0 else if Lib.index l [13, 10] = -1 then -1 else Lib.index l [13, 10] + 1 := by
  rw [Lib.index]
  have h : ([13, 10] : List UInt8).isPrefixOf (c :: l) = decide (c = 13 ∧ l.head? = some 10) := by
    rw [Bool.eq_iff_iff, decide_eq_true_iff]
    cases l with
    | nil => simp [List.isPrefixOf]
    | cons d l =>
      simp only [List.isPrefixOf, Bool.and_true, Bool.and_eq_true, beq_iff_eq, List.head?_cons, Option.some.injEq]
      exact ⟨fun h => ⟨h.1.symm, h.2.symm⟩, fun h => ⟨h.1.symm, h.2.symm⟩⟩
  rw [h]
  by_cases hc : c = 13 ∧ l.head? = some 10
  · simp [hc]
  · simp [hc]
theorem cut_crlf (l : List UInt8) : Lib.cut l [13, 10] = match crlfL l with
    | some (a, b) => (a, b, true)
    | none => (l, [], false) := by
  induction l with
  | nil => rfl
  | cons c l ih =>
    have hge := Lib.index_ge l [13, 10]
    rw [crlfL]
    by_cases hc : c = 13 ∧ l.head? = some 10
    · rw [if_pos hc]
      unfold Lib.cut
      rw [index_crlf_cons, if_pos hc]
      obtain ⟨rfl, h2⟩ := hc
      cases l with
      | nil => simp at h2
      | cons d l => rfl
    · rw [if_neg hc]
      unfold Lib.cut at ih ⊢
      rw [index_crlf_cons, if_neg hc]
      by_cases hm : Lib.index l [13, 10] = -1
      · rw [if_pos hm, if_neg (by decide)]
        rw [hm, if_neg (by decide)] at ih
        cases hcr : crlfL l with
        | none => rfl
        | some x => rw [hcr] at ih; simp at ih
      · rw [if_neg hm, if_pos (by omega)]
        rw [if_pos (by omega)] at ih
        cases hcr : crlfL l with
        | none => rw [hcr] at ih; simp at ih
        | some x =>
          rw [hcr] at ih
          simp only [Prod.mk.injEq, and_true] at ih
          have e1 : (Lib.index l [13, 10] + 1).toNat = (Lib.index l [13, 10]).toNat + 1 := by omega
          rw [e1]
          simp only [Option.map_some, List.take_succ_cons, ih.1, Prod.mk.injEq, and_true, true_and]
          rw [show (Lib.index l [13, 10]).toNat + 1 + ([13, 10] : List UInt8).length = ((Lib.index l [13, 10]).toNat + ([13, 10] : List UInt8).length) + 1 by omega, List.drop_succ_cons]
          exact ih.2
theorem cut_colon (l : List UInt8) : Lib.cut l [58] = match colonL l with
    | some (a, b) => (a, b, true)
    | none => (l, [], false) := by
  induction l with
  | nil => rfl
  | cons c l ih =>
    have hge := Lib.index_ge l [58]
    have hi : Lib.index (c :: l) [58] = if c = 58 then 0 else if Lib.index l [58] = -1 then -1 else Lib.index l [58] + 1 := by
      rw [Lib.index]
      by_cases h : c = 58
      · subst h; simp [List.isPrefixOf]
      · have h' : ¬ (58 : UInt8) = c := fun e => h e.symm
        simp [List.isPrefixOf, h, h']
    rw [colonL]
    by_cases hc : c = 58
    · rw [if_pos hc]
      unfold Lib.cut
      rw [hi, if_pos hc]
      rfl
    · rw [if_neg hc]
      unfold Lib.cut at ih ⊢
      rw [hi, if_neg hc]
      by_cases hm : Lib.index l [58] = -1
      · rw [if_pos hm, if_neg (by decide)]
        rw [hm, if_neg (by decide)] at ih
        cases hcr : colonL l with
        | none => rfl
        | some x => rw [hcr] at ih; simp at ih
      · rw [if_neg hm, if_pos (by omega)]
        rw [if_pos (by omega)] at ih
        cases hcr : colonL l with
        | none => rw [hcr] at ih; simp at ih
        | some x =>
          rw [hcr] at ih
          simp only [Prod.mk.injEq, and_true] at ih
          have e1 : (Lib.index l [58] + 1).toNat = (Lib.index l [58]).toNat + 1 := by omega
          rw [e1]
          simp only [Option.map_some, List.take_succ_cons, ih.1, Prod.mk.injEq, and_true, true_and]
          rw [show (Lib.index l [58]).toNat + 1 + ([58] : List UInt8).length = ((Lib.index l [58]).toNat + ([58] : List UInt8).length) + 1 by omega, List.drop_succ_cons]
          exact ih.2
/-- What Parse answers: fields and a body, or a place and what is wrong. -/
inductive PRes where
  | ok (fs : List Fld) (body : List UInt8)
  | bad (at' : Nat) (e : Int)
def trimF (f : Fld) : Fld := ⟨f.name, mkS (trimL (bs f.value))⟩
/-- The last field's value goes on. -/
def goOn (fs : List Fld) (line : List UInt8) : List Fld := match fs.getLast? with
  | some f => fs.dropLast ++ [⟨f.name, f.value ++ mkS line⟩]
  | none => fs
/-- Parse's rounds: how many lines were read, and the fields so far. -/
def parseL : Nat → Nat → List Fld → List UInt8 → PRes
  | 0, _, _, _ => .bad 0 0
  | k + 1, n, fs, s => match crlfL s with
    | none => .bad n 4
    | some (line, rest) =>
      if line = [] then .ok (fs.map trimF) rest
      else if blkB (line.headD 0) = true ∧ fs ≠ [] then parseL k (n + 1) (goOn fs line) rest
      else match colonL line with
        | none => .bad n 3
        | some (a, b) => if nameL a = false then .bad n 3 else if fs.length = 30 then .bad n 5 else parseL k (n + 1) (fs ++ [⟨mkS a, mkS b⟩]) rest
def fldL (f : Fld) : List UInt8 := bs f.name ++ 58 :: 32 :: (bs f.value ++ [13, 10])
def fldsL (fs : List Fld) : List UInt8 := fs.flatMap fldL
/-- A message as it is shown. -/
def showL (fs : List Fld) (body : List UInt8) : List UInt8 := fldsL fs ++ 13 :: 10 :: body
def fldCells (l : List Fld) : List Value := l.flatMap fun f => [.string f.name, .string f.value]
theorem fldCells_append (a b : List Fld) : fldCells (a ++ b) = fldCells a ++ fldCells b := by simp [fldCells]
theorem fldCells_len (l : List Fld) : (fldCells l).length = l.length * 2 := by
  induction l with
  | nil => rfl
  | cons f l ih => rw [fldCells, List.flatMap_cons, List.length_append, ← fldCells, ih]; simp; omega
theorem fldCells_get : ∀ (l : List Fld) (q : Nat) (a : Fld), l[q]? = some a → (fldCells l)[q * 2]? = some (.string a.name) ∧ (fldCells l)[q * 2 + 1]? = some (.string a.value)
  | [], q, a, h => by simp at h
  | b :: l, 0, a, h => by
    simp at h
    subst h
    exact ⟨rfl, rfl⟩
  | b :: l, q + 1, a, h => by
    obtain ⟨h1, h2⟩ := fldCells_get l q a (by simpa using h)
    have e : ∀ k, (fldCells (b :: l))[k + 2]? = (fldCells l)[k]? := fun k => by simp [fldCells]
    rw [show (q + 1) * 2 = q * 2 + 2 by omega, show q * 2 + 2 + 1 = (q * 2 + 1) + 2 by omega, e, e]
    exact ⟨h1, h2⟩
end Go.Proofs.YtokeblpdaomagaaDoor
