/- Plain words on states of a postroom: boxes of mails, what may be, and what an entry makes of a state. -/
import Derived.Test.YtpncahklapfoaaaDoorEntRow
namespace Go.Proofs.YtpncahklapfoaaaDoor
open Go.RowKit
set_option linter.unusedVariables false

structure MailS where
  uid : Int
  flags : Int
  text : ByteArray
deriving DecidableEq
structure BoxS where
  name : ByteArray
  next : Int
  mails : List MailS
deriving DecidableEq
structure StS where
  boxes : List BoxS
  spool : List Ent
deriving DecidableEq
def mailsB (next : Int) : Int → List MailS → Bool
  | _, [] => true
  | last, m :: r => if m.uid ≤ last ∨ next ≤ m.uid ∨ m.flags < 0 ∨ 31 < m.flags ∨ 2000 < m.text.size then false else mailsB next m.uid r
/-- What box.box answers. -/
def boxB (b : BoxS) : Bool := if nameR (bs b.name) ≠ 0 ∨ b.next < 1 ∨ 1048577 < b.next ∨ 30 < b.mails.length then false else mailsB b.next 0 b.mails
/-- The place of the first element that is so; -1: there is none. -/
def idxR {α : Type} (p : α → Bool) (l : List α) : Int := if l.findIdx p < l.length then (l.findIdx p : Int) else -1
def findR (l : List BoxS) (n : ByteArray) : Int := idxR (fun b => decide (b.name = n)) l
def mailsZ (l : List MailS) : Nat := (l.map fun m => m.text.size).sum
def boxesZ (l : List BoxS) : Nat := (l.map fun b => mailsZ b.mails).sum
def sizeR (s : StS) : Nat := boxesZ s.boxes
def boxesB (pre : List BoxS) : List BoxS → Bool
  | [] => true
  | b :: r => if boxB b = true ∧ findR pre b.name < 0 then boxesB (pre ++ [b]) r else false
def spoolB : List Ent → Bool
  | [] => true
  | x :: r => if x.kind = 6 ∧ formR x = 0 then spoolB r else false
/-- What box.Check answers. -/
def checkR (s : StS) : Int :=
  if 5 < s.boxes.length ∨ 20 < s.spool.length then 11 else if boxesB [] s.boxes = false then 11 else if spoolB s.spool = false then 11 else if 6000 < sizeR s then 11 else 0
/-- What box.add makes: the error and the state. -/
def addR (s : StS) (i : Nat) (fl : Int) (t : ByteArray) : Int × StS := match s.boxes[i]? with
  | none => (5, s)
  | some b => if b.mails.length = 30 ∨ 1048576 < b.next ∨ 6000 < sizeR s + t.size then (5, s) else (0, { s with boxes := s.boxes.set i { b with mails := b.mails ++ [⟨b.next, fl, t⟩], next := b.next + 1 } })
/-- Is a mail deleted? -/
def delB (m : MailS) : Bool := m.flags.toNat / 8 % 2 == 1
def uidB (u : Int) (m : MailS) : Bool := decide (m.uid = u)
def flagS (l : List MailS) (k : Nat) (f : Int) : List MailS := match l[k]? with
  | none => l
  | some m => l.set k { m with flags := f }
/-- What box.apply makes of a state. -/
def applyR (s : StS) (x : Ent) : Int × StS :=
  if x.kind = 6 then (if s.spool.length = 20 then (5, s) else (0, { s with spool := s.spool ++ [x] }))
  else if x.kind = 1 then (if 0 ≤ findR s.boxes x.box then (10, s) else if s.boxes.length = 5 then (5, s) else (0, { s with boxes := s.boxes ++ [⟨x.box, 1, []⟩] }))
  else match s.boxes[(findR s.boxes x.box).toNat]? with
    | none => (7, s)
    | some b => if findR s.boxes x.box < 0 then (7, s)
      else if x.kind = 2 then addR s (findR s.boxes x.box).toNat x.flags x.text
      else if x.kind = 4 then (0, { s with boxes := s.boxes.set (findR s.boxes x.box).toNat { b with mails := b.mails.filter fun m => !delB m } })
      else match b.mails[(idxR (uidB x.uid) b.mails).toNat]? with
        | none => (7, s)
        | some m => if idxR (uidB x.uid) b.mails < 0 then (7, s)
          else if x.kind = 3 then (0, { s with boxes := s.boxes.set (findR s.boxes x.box).toNat { b with mails := b.mails.set (idxR (uidB x.uid) b.mails).toNat { m with flags := x.flags } } })
          else if findR s.boxes x.dst < 0 then (7, s) else addR s (findR s.boxes x.dst).toNat m.flags m.text
/-- Entries, one behind the other. -/
def goR (s : StS) : List Ent → Int × StS
  | [] => (0, s)
  | x :: r => if formR x ≠ 0 then (formR x, s) else if (applyR s x).1 ≠ 0 then applyR s x else goR (applyR s x).2 r
def noneS : StS := ⟨[], []⟩
/-- What box.All answers. -/
def allR (s : StS) (l : List Ent) : Int × StS :=
  if checkR s ≠ 0 then (checkR s, noneS) else if 10 < l.length then (1, noneS) else if (goR s l).1 ≠ 0 then ((goR s l).1, noneS) else goR s l
/-- Bounds that a state that may be has. -/
structure OkS (s : StS) : Prop where
  nb : s.boxes.length ≤ 5
  ns : s.spool.length ≤ 20
  nm : ∀ b ∈ s.boxes, b.mails.length ≤ 30 ∧ b.name.size ≤ 12 ∧ 1 ≤ b.next ∧ b.next ≤ 1048577 ∧ ∀ m ∈ b.mails, 0 < m.uid ∧ m.uid < b.next ∧ 0 ≤ m.flags ∧ m.flags ≤ 31 ∧ m.text.size ≤ 2000
  sp : ∀ x ∈ s.spool, x.kind = 6 ∧ formR x = 0
theorem mailsB_all {next : Int} : ∀ (l : List MailS) (last : Int), 0 ≤ last → mailsB next last l = true → ∀ m ∈ l, 0 < m.uid ∧ m.uid < next ∧ 0 ≤ m.flags ∧ m.flags ≤ 31 ∧ m.text.size ≤ 2000
  | [], last, h0, h, m, hm => by simp at hm
  | x :: r, last, h0, h, m, hm => by
    unfold mailsB at h
    by_cases hc : x.uid ≤ last ∨ next ≤ x.uid ∨ x.flags < 0 ∨ 31 < x.flags ∨ 2000 < x.text.size
    · rw [if_pos hc] at h; cases h
    · rw [if_neg hc] at h
      rcases List.mem_cons.1 hm with rfl | hm
      · exact ⟨by omega, by omega, by omega, by omega, by omega⟩
      · exact mailsB_all r x.uid (by omega) h m hm
theorem nameR_len' (l : List UInt8) (h : nameR l = 0) : l.length ≤ 12 := by
  unfold nameR at h
  by_cases hl : l.length < 1 ∨ 12 < l.length
  · rw [if_pos hl] at h; cases h
  · omega
theorem boxB_all (b : BoxS) (h : boxB b = true) : b.mails.length ≤ 30 ∧ b.name.size ≤ 12 ∧ 1 ≤ b.next ∧ b.next ≤ 1048577 ∧ ∀ m ∈ b.mails, 0 < m.uid ∧ m.uid < b.next ∧ 0 ≤ m.flags ∧ m.flags ≤ 31 ∧ m.text.size ≤ 2000 := by
  unfold boxB at h
  by_cases hc : nameR (bs b.name) ≠ 0 ∨ b.next < 1 ∨ 1048577 < b.next ∨ 30 < b.mails.length
  · rw [if_pos hc] at h; cases h
  · rw [if_neg hc] at h
    have hn : nameR (bs b.name) = 0 := Decidable.not_not.1 fun hn => hc (.inl hn)
    have := nameR_len' _ hn
    rw [bs_len] at this
    exact ⟨by omega, this, by omega, by omega, mailsB_all _ 0 (Int.le_refl _) h⟩
theorem boxesB_all : ∀ (l pre : List BoxS), boxesB pre l = true → ∀ b ∈ l, boxB b = true
  | [], pre, h, b, hb => by simp at hb
  | x :: r, pre, h, b, hb => by
    unfold boxesB at h
    by_cases hc : boxB x = true ∧ findR pre x.name < 0
    · rw [if_pos hc] at h
      rcases List.mem_cons.1 hb with rfl | hb
      · exact hc.1
      · exact boxesB_all r _ h b hb
    · rw [if_neg hc] at h; cases h
theorem spoolB_all : ∀ (l : List Ent), spoolB l = true → ∀ x ∈ l, x.kind = 6 ∧ formR x = 0
  | [], h, x, hx => by simp at hx
  | y :: r, h, x, hx => by
    unfold spoolB at h
    by_cases hc : y.kind = 6 ∧ formR y = 0
    · rw [if_pos hc] at h
      rcases List.mem_cons.1 hx with rfl | hx
      · exact hc
      · exact spoolB_all r h x hx
    · rw [if_neg hc] at h; cases h
theorem check_parts (s : StS) (h : checkR s = 0) : s.boxes.length ≤ 5 ∧ s.spool.length ≤ 20 ∧ boxesB [] s.boxes = true ∧ spoolB s.spool = true ∧ sizeR s ≤ 6000 := by
  unfold checkR at h
  by_cases h1 : 5 < s.boxes.length ∨ 20 < s.spool.length
  · rw [if_pos h1] at h; cases h
  · rw [if_neg h1] at h
    by_cases h2 : boxesB [] s.boxes = false
    · rw [if_pos h2] at h; cases h
    · rw [if_neg h2] at h
      by_cases h3 : spoolB s.spool = false
      · rw [if_pos h3] at h; cases h
      · rw [if_neg h3] at h
        by_cases h4 : 6000 < sizeR s
        · rw [if_pos h4] at h; cases h
        · exact ⟨by omega, by omega, by simpa using h2, by simpa using h3, by omega⟩
theorem check_ok (s : StS) (h : checkR s = 0) : OkS s := by
  obtain ⟨h1, h2, h3, h4, h5⟩ := check_parts s h
  exact ⟨h1, h2, fun b hb => boxB_all b (boxesB_all _ _ h3 b hb), spoolB_all _ h4⟩
theorem idxR_lt {α : Type} (p : α → Bool) (l : List α) : -1 ≤ idxR p l ∧ idxR p l < l.length ∧ (0 ≤ idxR p l → (idxR p l).toNat < l.length) := by
  unfold idxR
  by_cases h : l.findIdx p < l.length
  · rw [if_pos h]; omega
  · rw [if_neg h]; omega
theorem idxR_nil {α : Type} (p : α → Bool) : idxR p ([] : List α) = -1 := by unfold idxR; simp
/-- A search that has come as far as k. -/
theorem idxR_hit {α : Type} (p : α → Bool) (l : List α) (k : Nat) (h : k < l.length) (hp : p l[k] = true) (hno : ∀ j (hj : j < l.length), j < k → p l[j] = false) : idxR p l = k := by
  have h1 : l.findIdx p = k := by
    rw [List.findIdx_eq h]
    exact ⟨hp, fun j hj => hno j (by omega) hj⟩
  unfold idxR
  rw [h1, if_pos h]
theorem idxR_miss {α : Type} (p : α → Bool) (l : List α) (hno : ∀ j (hj : j < l.length), p l[j] = false) : idxR p l = -1 := by
  have h1 : l.findIdx p = l.length := by
    rw [List.findIdx_eq_length]
    intro x hx
    obtain ⟨j, hj, rfl⟩ := List.getElem_of_mem hx
    exact hno j hj
  unfold idxR
  rw [h1, if_neg (by omega)]
theorem delB_of (m : MailS) (h0 : 0 ≤ m.flags) (h1 : m.flags ≤ 31) : (bits BinOp.and IntKind.i64 m.flags 8 != 0) = delB m := by
  obtain ⟨n, hn⟩ : ∃ n : Nat, m.flags = n := ⟨m.flags.toNat, by omega⟩
  unfold delB
  rw [hn, Int.toNat_natCast]
  have h2 : n < 32 := by omega
  clear h0 h1 hn
  revert h2
  revert n
  decide
end Go.Proofs.YtpncahklapfoaaaDoor
