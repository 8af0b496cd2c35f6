/- Plain words on byte strings: a string and the list of its bytes. Small laws on memory that the walks share. What leaves all blocks but one as they are. Plain words: scripts as commands and tests; which of them may be; their tokens. Plain words: deep tests, deep commands, long chains of elsifs. What a walk over scripts leans on. How commands and tests lie in memory. Plain words and memory for script.checkTest: tests whose parts may be. Plain words and memory for script's commands whose parts may be. Tests and commands of script, as they are made in memory. The writer of tokens of package script: it puts a token. Plain words on addresses: atoms, dotted texts, the word that raw bytes make. The helper picked of the statements: what it returns. What is frozen stays so. The helper word of the statements: what it returns. The helper cut of the statements: what it returns for every string. Raw numbers for scripts (a stick) and the test that is made of them. The command, and the commands, that are made of sticks. Plain words: which scripts are allowed, and the script that is made of sticks. The judge of a script: what it has required, as a map; its method need. -/
import Derived.Below
import Derived.Laws.Strings
import Derived.WalkKit
import Derived.KernelRfl
import Derived.Laws.BytesArg
import Derived.Lib.Hide
import Derived.RangeFuncBox
import Derived.Deep.Draws
import Derived.Test.YtgmnoemkdigafaaDoorProg
import Derived.RangeFuncOwn
import Derived.Deep.QuietTactic
import Derived.BigQuiet
import Derived.WalkSmall
import Derived.WalkArith
import Derived.Laws.OwnMore
import Derived.Deep.RegionHeld3
import Derived.Lib.SliceRun
import Derived.Maps.AppendAt
import Derived.Laws.AppendOwnNone
import Derived.Lib.Split
import Derived.Lib.SplitLaws
import Derived.OpenShut
import Derived.Deep.RegionWith
import Derived.Maps.OwnSet
import Derived.StringKeys
namespace Go.Proofs.YtgmnoemkdigafaaDoor

/-- The string of these bytes. -/
def mkS (l : List UInt8) : ByteArray := ⟨l.toArray⟩
/-- The bytes of a string. -/
def bs (s : ByteArray) : List UInt8 := s.data.toList
theorem bs_mkS (l : List UInt8) : bs (mkS l) = l := rfl
theorem mkS_bs (s : ByteArray) : mkS (bs s) = s := rfl
theorem bs_len (s : ByteArray) : (bs s).length = s.size := rfl
theorem mkS_size (l : List UInt8) : (mkS l).size = l.length := by show l.toArray.size = _; rw [List.size_toArray]
theorem bs_inj {s t : ByteArray} (h : bs s = bs t) : s = t := by rw [← mkS_bs s, ← mkS_bs t, h]
theorem mkS_inj {s t : List UInt8} (h : mkS s = mkS t) : s = t := by rw [← bs_mkS s, ← bs_mkS t, h]
theorem bs_append (s t : ByteArray) : bs (s ++ t) = bs s ++ bs t := by simp [bs]
theorem append_mkS (s t : ByteArray) : s ++ t = mkS (bs s ++ bs t) := bs_inj (by rw [bs_append, bs_mkS])
theorem bs_extract (s : ByteArray) (a b : Nat) : bs (s.extract a b) = ((bs s).take b).drop a := by
  simp [bs, List.drop_take]
theorem extract_mkS (s : ByteArray) (a b : Nat) : s.extract a b = mkS (((bs s).take b).drop a) := bs_inj (by rw [bs_extract, bs_mkS])
theorem extract_all (s : ByteArray) (n : Nat) (h : s.size ≤ n) : s.extract 0 n = s := bs_inj (by rw [bs_extract, List.drop_zero, List.take_of_length_le (by rw [bs_len]; exact h)])
theorem toList_bs (s : ByteArray) : s.toList = bs s := Go.ByteArray.toList_eq s
end Go.Proofs.YtgmnoemkdigafaaDoor
namespace Go.Proofs.YtgmnoemkdigafaaDoor
open Go.RowKit

theorem new_cells (w : World) (l : List Value) (t : TypeId) : ∀ (j : Nat) (u : Value), l[j]? = some u → (w.alloc (.cells l.toArray t)).cell? ((⟨w.heap.size, 0, none⟩ : Addr).add j) = some u := by
  intro j u hu
  have h0 := World.alloc_heap_new w (.cells l.toArray t)
  have hp : (⟨w.heap.size, 0, none⟩ : Addr).add j = ⟨w.heap.size, 0 + j, none⟩ := by unfold Addr.add; split <;> simp_all
  rw [hp, Nat.zero_add, ← hu]
  simp only [World.cell?, h0]
  simp

theorem own_base' {w : World} {base e size n : Nat} {v : Value} {xs : List Value} (h : w.ownsRow base e size v n xs) (k : Nat) (hk : v.ownBlock = some k) : base ≤ k := by
  rcases h.2 with ⟨rfl, _⟩ | ⟨g, cap, cur, rfl, hg, _⟩
  · simp [Value.ownBlock] at hk
  · obtain rfl : g = k := by simpa [Value.ownBlock] using hk
    exact hg

theorem below_append {w wr w1 : World} {B e size n : Nat} {v : Value} {xs : List Value} {o : Obj} (hb : Below B w wr) (hB : B ≤ wr.heap.size) (hrow : wr.ownsRow B e size v n xs) (hgrow : (wr.alloc o).grownBy w1 v.ownBlock) : Below B w w1 :=
  (hb.alloc hB o).grown hgrow (by simp; omega) (fun k e => own_base' hrow k e)

def u8s (l : List UInt8) : List Value := l.map fun c => .int .u8 c.toNat
theorem u8s_append (a b : List UInt8) : u8s (a ++ b) = u8s a ++ u8s b := by simp [u8s]
/-- What a row of bytes of one's own reads as. -/
theorem bytes_of_own {w : World} {base e : Nat} {v : Value} {l : List UInt8} (h : w.ownsRow base e 1 v l.length (u8s l)) :
    (v = .slice none 0 0 ∧ l = []) ∨ ∃ g c, v = .slice (some ⟨g, 0, none⟩) l.length c ∧ l.length ≤ c ∧ base ≤ g ∧ ∀ i, i < l.length → w.cell? ⟨g, 0 + i, none⟩ = some (.int .u8 ((l.map fun c => (c.toNat : Int)).getD i 0)) := by
  rcases h.2 with ⟨rfl, h0⟩ | ⟨g, cap, cur, rfl, hb, hgb, hn, hc, hcur, ht⟩
  · exact .inl ⟨rfl, List.length_eq_zero_iff.1 h0⟩
  · refine .inr ⟨g, cap, rfl, hn, hb, fun i hi => ?_⟩
    have h1 : (u8s l)[i]? = some (.int .u8 (l[i]).toNat) := by simp [u8s, hi]
    rw [← ht, List.getElem?_take_of_lt (by omega)] at h1
    rw [Nat.zero_add]
    simp only [World.cell?, hgb]
    rw [Array.getElem?_toList] at h1
    rw [h1]
    simp [List.getD, hi]
theorem strOfNums_bytes (l : List UInt8) : strOfNums (l.map fun c => (c.toNat : Int)) = mkS l := by
  simp only [strOfNums, mkS, List.map_map]
  congr 2
  conv => rhs; rw [← List.map_id l]
  apply List.map_congr_left
  intro c _
  simp
/-- '[]byte' of the call's own as a string. -/
theorem conv_own {P : Program} {src e dst : TypeId} (hs : P.underlying src = some (.slice e)) (he : P.underlying e = some (.int .u8)) (hd : P.underlying dst = some .string) {w : World} {base : Nat} {v : Value} {l : List UInt8} (h : w.ownsRow base e 1 v l.length (u8s l)) :
    (convert src dst v).run P w = .ok (.string (mkS l)) w := by
  rcases bytes_of_own h with ⟨rfl, rfl⟩ | ⟨g, c, rfl, _, _, hc⟩
  · exact run_convert_bytes_nil w src e hs he 0 0 dst hd
  · have h1 := run_convert_bytes_arg (P := P) w src e hs he g 0 l.length c _ (by rw [List.length_map]) hc dst hd
    rw [strOfNums_bytes] at h1
    exact h1

theorem take_snoc (s : ByteArray) (k : Nat) (h : k < s.size) : (bs s).take (k + 1) = (bs s).take k ++ [s[k]] := by
  have h' : k < (bs s).length := h
  rw [List.take_succ_eq_append_getElem h']; rfl
theorem take_full (s : ByteArray) : (bs s).take s.size = bs s := List.take_of_length_le (Nat.le_of_eq (bs_len s))
end Go.Proofs.YtgmnoemkdigafaaDoor
namespace Go.Proofs.YtgmnoemkdigafaaDoor
open Go.RowKit
set_option linter.unusedVariables false

theorem cell_later {w w' : World} {a : Addr} {v : Value} (hb : Below w.heap.size w w') (h : w.cell? a = some v) : w'.cell? a = some v := by
  obtain ⟨o, ho, _⟩ := cells_of_cell h
  exact (hb.cell (p := a) (Array.getElem?_eq_some_iff.1 ho).1).trans h
/-- Nothing but block b has been turned. -/
structure Mv (b : Nat) (w w' : World) : Prop where
  os : w'.os = w.os
  tape : w'.tape = w.tape
  output : w'.output = w.output
  size : w.heap.size ≤ w'.heap.size
  block : ∀ k, k < w.heap.size → k ≠ b → w'.heap[k]? = w.heap[k]?
theorem Mv.refl (b : Nat) (w : World) : Mv b w w := ⟨rfl, rfl, rfl, Nat.le_refl _, fun _ _ _ => rfl⟩
theorem Mv.trans {b : Nat} {x y z : World} (h : Mv b x y) (k : Mv b y z) : Mv b x z :=
  ⟨k.os.trans h.os, k.tape.trans h.tape, k.output.trans h.output, Nat.le_trans h.size k.size, fun i h1 h2 => (k.block i (Nat.lt_of_lt_of_le h1 h.size) h2).trans (h.block i h1 h2)⟩
theorem Mv.drewN {b : Nat} {x y : World} (h : Mv b x y) (n : Nat) : Mv b x (y.drewN n) := ⟨h.os, h.tape, h.output, h.size, h.block⟩
theorem Mv.drew {b : Nat} {x y : World} (h : Mv b x y) : Mv b x y.drew := ⟨h.os, h.tape, h.output, h.size, h.block⟩
theorem Mv.set {b : Nat} {x y : World} (h : Mv b x y) (j : Nat) (v : Value) : Mv b x (y.setCell ⟨b, j, none⟩ v) :=
  h.trans ⟨rfl, rfl, rfl, (KeepsWalks.setCell y _ v).size, fun k _ hk => Below.heap_setCell _ _ _ k (fun e => hk (by rw [e]))⟩
theorem Mv.of_below {b : Nat} {x y : World} (h : Below x.heap.size x y) : Mv b x y := ⟨h.os, h.tape, h.output, h.size, fun k h1 _ => h.block k h1⟩
theorem Mv.alloc {b : Nat} {x y : World} (h : Mv b x y) (o : Obj) : Mv b x (y.alloc o) := h.trans (Mv.of_below ((Below.refl _ y).alloc (Nat.le_refl _) o))
theorem Mv.below {b B : Nat} {x y : World} (h : Mv b x y) (hb : B ≤ b) (hB : B ≤ x.heap.size) : Below B x y := ⟨h.os, h.tape, h.output, h.size, fun k hk => h.block k (Nat.lt_of_lt_of_le hk hB) (by omega)⟩
theorem Mv.cell {b : Nat} {x y : World} (h : Mv b x y) {a : Addr} {v : Value} (hc : x.cell? a = some v) (hne : a.block ≠ b) : y.cell? a = some v := by
  obtain ⟨o, ho, _⟩ := cells_of_cell hc
  exact (World.cell?_of_block (h.block a.block (Array.getElem?_eq_some_iff.1 ho).1 hne)).trans hc

theorem heap_setCell_at {w : World} {b : Nat} {cs : Array Value} {t : TypeId} {f : Nat × Nat} (h : w.heap[b]? = some (.cells cs t f)) (j : Nat) (v : Value) :
    (w.setCell ⟨b, j, none⟩ v).heap[b]? = some (.cells (cs.setIfInBounds j v) t f) := by
  obtain ⟨hlt, hk⟩ := Array.getElem?_eq_some_iff.1 h
  show (w.heap.modify b _)[b]? = _
  rw [Array.getElem?_eq_getElem (by rw [Array.size_modify]; exact hlt), Array.getElem_modify_self, hk]
  rfl
/-- A block of these cells. -/
def Bk (W : World) (b : Nat) (cs : List Value) (t : TypeId) : Prop := W.heap[b]? = some (.cells cs.toArray t (0, 0))
section
variable {W W' : World} {b c B : Nat} {cs : List Value} {t : TypeId}
theorem Bk.cell (h : Bk W b cs t) (j : Nat) (v : Value) (hv : cs[j]? = some v) : W.cell? ⟨b, j, none⟩ = some v := by
  simp [World.cell?, show W.heap[b]? = _ from h, hv]
theorem Bk.frozen (h : Bk W b cs t) (j : Nat) : W.frozen? ⟨b, j, none⟩ = false := by
  simp [World.frozen?, show W.heap[b]? = _ from h]
theorem Bk.lt (h : Bk W b cs t) : b < W.heap.size := (Array.getElem?_eq_some_iff.1 h).1
theorem Bk.set (h : Bk W b cs t) (j : Nat) (v : Value) : Bk (W.setCell ⟨b, j, none⟩ v) b (cs.set j v) t := by
  have h1 := heap_setCell_at h j v
  unfold Bk
  rw [h1]
  simp
theorem Bk.other (h : Bk W b cs t) (hne : c ≠ b) (j : Nat) (u : Value) : Bk (W.setCell ⟨c, j, none⟩ u) b cs t :=
  (Below.heap_setCell _ _ _ b (fun e => hne e.symm)).trans h
theorem Bk.below (h : Bk W b cs t) (hb : Below B W W') (hB : b < B) : Bk W' b cs t := (hb.block b hB).trans h
theorem Bk.later (h : Bk W b cs t) (hb : Below W.heap.size W W') : Bk W' b cs t := (hb.block b h.lt).trans h
theorem Bk.mv (h : Bk W b cs t) (hm : Mv c W W') (hne : b ≠ c) : Bk W' b cs t := (hm.block b h.lt hne).trans h
theorem Bk.grown {r : Option Nat} (h : Bk W b cs t) (hg : W.grownBy W' r) (hne : some b ≠ r) : Bk W' b cs t := (hg.block b h.lt hne).trans h
theorem Bk.new (w : World) (cs : List Value) (t : TypeId) : Bk (w.alloc (.cells cs.toArray t)) w.heap.size cs t := World.alloc_heap_new w _
theorem Bk.alloc (h : Bk W b cs t) (o : Obj) : Bk (W.alloc o) b cs t := h.later ((Below.refl _ W).alloc (Nat.le_refl _) o)
theorem Bk.drew (h : Bk W b cs t) : Bk W.drew b cs t := h
theorem Bk.drewN (h : Bk W b cs t) (n : Nat) : Bk (W.drewN n) b cs t := h
end
theorem row_later {w w' : World} {base e size n : Nat} {v : Value} {xs : List Value} (hb : Below w.heap.size w w') (h : w.ownsRow base e size v n xs) : w'.ownsRow base e size v n xs := by
  refine ⟨h.1, ?_⟩
  rcases h.2 with hn | ⟨g, cap, cur, rfl, h1, h2, rest⟩
  · exact .inl hn
  · exact .inr ⟨g, cap, cur, rfl, h1, (hb.block g (Array.getElem?_eq_some_iff.1 h2).1).trans h2, rest⟩
theorem row_base {w : World} {base base2 e size n : Nat} {v : Value} {xs : List Value} (hb : base2 ≤ base) (h : w.ownsRow base e size v n xs) : w.ownsRow base2 e size v n xs := by
  refine ⟨h.1, ?_⟩
  rcases h.2 with hn | ⟨g, cap, cur, rfl, h1, rest⟩
  · exact .inl hn
  · exact .inr ⟨g, cap, cur, rfl, by omega, rest⟩
theorem grown_of_below {w w' : World} (hb : Below w.heap.size w w') : w.grownBy w' none := ⟨hb.os, hb.tape, hb.output, hb.size, fun k hk _ => hb.block k hk⟩
theorem below_new {B : Nat} {w w' : World} (hg : w.grownBy w' none) (hB : B ≤ w.heap.size) : Below B w w' := (Below.refl B w).grown hg hB (fun k e => by cases e)
theorem btr {w W W' : World} (h : Below w.heap.size w W) (h2 : Below W.heap.size W W') : Below w.heap.size w W' := h.trans (h2.mono h.size)
theorem bal {w W : World} (h : Below w.heap.size w W) (o : Obj) : Below w.heap.size w (W.alloc o) := h.alloc h.size o
theorem bdr (w : World) : Below w.heap.size w w.drew := ⟨rfl, rfl, rfl, Nat.le_refl _, fun _ _ => rfl⟩
/-- Several ways that end alike are walked on but once. -/
theorem one_key {T G : Prop} (pf : T) (main : T → G) : G := main pf
theorem setCell_grown (w : World) (g j : Nat) (u : Value) : w.grownBy (w.setCell ⟨g, j, none⟩ u) (some g) :=
  ⟨rfl, rfl, rfl, by simp, fun k hk hne => Below.heap_setCell _ _ _ k (fun e => hne (by rw [e]))⟩
theorem row_grown {w w' : World} {B e s n : Nat} {u : Value} {xs : List Value} {r : Option Nat} (h : w.ownsRow B e s u n xs) (hg : w.grownBy w' r) (hne : ∀ k, u.ownBlock = some k → some k ≠ r) : w'.ownsRow B e s u n xs := by
  refine ⟨h.1, ?_⟩
  rcases h.2 with hn | ⟨g, cap, cur, rfl, h1, h2, rest⟩
  · exact .inl hn
  · exact .inr ⟨g, cap, cur, rfl, h1, (hg.block g (Array.getElem?_eq_some_iff.1 h2).1 (hne g rfl)).trans h2, rest⟩
theorem own_set {w : World} {B e s n q : Nat} {v : Value} {xs cs : List Value} {t : TypeId} (h : w.ownsRow B e s v n xs) (hb : Bk w q cs t) (hne : e ≠ t) (j : Nat) (u : Value) : (w.setCell ⟨q, j, none⟩ u).ownsRow B e s v n xs := by
  refine row_grown h (setCell_grown w q j u) fun k hk e1 => ?_
  obtain rfl := Option.some.inj e1
  rcases h.2 with ⟨rfl, _⟩ | ⟨g, cap, cur, rfl, _, hg, _⟩
  · cases hk
  · obtain rfl : g = k := Option.some.inj hk
    unfold Bk at hb
    rw [hg] at hb
    have := Option.some.inj hb
    simp only [Obj.cells.injEq] at this
    exact hne this.2.1
end Go.Proofs.YtgmnoemkdigafaaDoor
namespace Go.Proofs.YtgmnoemkdigafaaDoor
set_option linter.unusedVariables false

inductive Tst where
  | mk (kind mtch part : Int) (names keys : List ByteArray) (over : Bool) (limit : Int) (tests : List Tst)
inductive Cmd where
  | mk (kind : Int) (texts : List ByteArray) (test : Tst) (thn els : List Cmd)
structure Tok where
  kind : Int
  text : ByteArray
  num : Int
def zeroT : Tst := .mk 0 0 0 [] [] false 0 []
/-- Has a test of this kind what it must have, and nothing else? -/
def formT (k m p : Int) (nn nk : Nat) (o : Bool) (lm : Int) (nt : Nat) : Bool :=
  (if 3 ≤ k ∧ k ≤ 5 then decide (nt = 1) || (decide (k ≠ 3) && decide (0 < nt))
   else if 6 ≤ k ∧ k ≤ 8 then decide (1 ≤ m ∧ m ≤ 3 ∧ 0 < nn ∧ 0 < nk) && (decide (k = 6) || decide (1 ≤ p ∧ p ≤ 3))
   else if k = 9 then decide (0 < nn)
   else if k = 10 then decide (0 ≤ lm ∧ lm ≤ 2147483647)
   else true) &&
  (decide (6 ≤ k ∧ k ≤ 9) || decide (nn = 0)) && (decide (6 ≤ k ∧ k ≤ 8) || decide (nk = 0 ∧ m = 0)) && (decide (7 ≤ k ∧ k ≤ 8) || decide (p = 0)) &&
  (decide (k = 10) || decide (o = false ∧ lm = 0)) && (decide (3 ≤ k ∧ k ≤ 5) || decide (nt = 0))
mutual
def chkT : Tst → Int → Int
  | .mk k m p ns ks o lm ts, d =>
    if k < 1 ∨ 10 < k then 2
    else if 6 < d then 1
    else if formT k m p ns.length ks.length o lm ts.length = false then 3
    else chkTs ts (d + 1)
def chkTs : List Tst → Int → Int
  | [], _ => 0
  | t :: l, d => if chkT t d ≠ 0 then chkT t d else chkTs l d
end
def bareT : Tst → Bool
  | .mk k m p ns ks o lm ts => decide (k = 0 ∧ m = 0 ∧ p = 0 ∧ ns.length + ks.length + ts.length = 0 ∧ o = false ∧ lm = 0)
def formC (k : Int) (n : Nat) : Bool :=
  if k = 1 ∨ k = 8 ∨ k = 9 then decide (0 < n) else if 5 ≤ k ∧ k ≤ 7 then decide (n = 1) else decide (n = 0)
def Cmd.kind : Cmd → Int
  | .mk k _ _ _ _ => k
/-- Is there just one command in an else, and is it an if? -/
def lone : List Cmd → Bool
  | [c] => decide (c.kind = 2)
  | _ => false
mutual
def chkC : Cmd → Int → Int
  | .mk k tx t th el, d =>
    if k < 1 ∨ 10 < k then 2
    else if 6 < d then 1
    else if k = 2 then
      (if 0 < tx.length then 3
       else if chkT t 1 ≠ 0 then chkT t 1
       else if chkCs th (d + 1) ≠ 0 then chkCs th (d + 1)
       else chkCs el (if lone el = true then d else d + 1))
    else if formC k tx.length = true ∧ bareT t = true ∧ th.length + el.length = 0 then 0 else 3
def chkCs : List Cmd → Int → Int
  | [], _ => 0
  | c :: l, d => if chkC c d ≠ 0 then chkC c d else chkCs l d
end
def wordTk (s : ByteArray) : Tok := ⟨1, s, 0⟩
def markTk (c : UInt8) : Tok := ⟨5, mkS [c], 0⟩
def strTk (s : ByteArray) : Tok := ⟨4, s, 0⟩
/-- The tokens of a list's strings, each with a mark ahead of it. -/
def listTks : Nat → List ByteArray → List Tok
  | _, [] => []
  | i, s :: l => markTk (if i = 0 then 91 else 44) :: strTk s :: listTks (i + 1) l
def listTk : List ByteArray → List Tok
  | [s] => [strTk s]
  | l => listTks 0 l ++ [markTk 93]
/-- The words of tests, of commands, of ways to compare and of parts. -/
def testsW : List (List UInt8) := [[], [116, 114, 117, 101], [102, 97, 108, 115, 101], [110, 111, 116], [97, 108, 108, 111, 102], [97, 110, 121, 111, 102], [104, 101, 97, 100, 101, 114], [97, 100, 100, 114, 101, 115, 115], [101, 110, 118, 101, 108, 111, 112, 101], [101, 120, 105, 115, 116, 115], [115, 105, 122, 101]]
def commandsW : List (List UInt8) := [[], [114, 101, 113, 117, 105, 114, 101], [105, 102], [107, 101, 101, 112], [100, 105, 115, 99, 97, 114, 100], [102, 105, 108, 101, 105, 110, 116, 111], [114, 101, 100, 105, 114, 101, 99, 116], [114, 101, 106, 101, 99, 116], [115, 101, 116, 102, 108, 97, 103], [97, 100, 100, 102, 108, 97, 103], [115, 116, 111, 112]]
def matchesW : List (List UInt8) := [[], [105, 115], [99, 111, 110, 116, 97, 105, 110, 115], [109, 97, 116, 99, 104, 101, 115]]
def partsW : List (List UInt8) := [[], [97, 108, 108], [108, 111, 99, 97, 108, 112, 97, 114, 116], [100, 111, 109, 97, 105, 110]]
def wAt (l : List (List UInt8)) (k : Int) : ByteArray := mkS (l.getD k.toNat [])
def tagTk (s : ByteArray) : Tok := ⟨2, s, 0⟩
mutual
def testTk : Tst → List Tok
  | .mk k m p ns ks o lm ts =>
    wordTk (wAt testsW k) ::
    (if k = 3 ∨ k = 4 ∨ k = 5 then (if k = 3 then testsTk1 ts else testsTk 0 ts ++ [markTk 41])
     else if 6 ≤ k ∧ k ≤ 8 then (if k = 6 then [] else [tagTk (wAt partsW p)]) ++ tagTk (wAt matchesW m) :: (listTk ns ++ listTk ks)
     else if k = 9 then listTk ns
     else if k = 10 then [tagTk (if o = true then mkS [111, 118, 101, 114] else mkS [117, 110, 100, 101, 114]), ⟨3, mkS [], lm⟩]
     else [])
def testsTk1 : List Tst → List Tok
  | [] => []
  | t :: _ => testTk t
def testsTk : Nat → List Tst → List Tok
  | _, [] => []
  | i, t :: l => markTk (if i = 0 then 40 else 44) :: (testTk t ++ testsTk (i + 1) l)
end
mutual
/-- A command's tokens; what stands behind its first word. -/
def cmdTk : Cmd → List Tok
  | .mk k tx t th el => wordTk (wAt commandsW k) :: (if k = 2 then testTk t ++ (markTk 123 :: (cmdsTk th ++ [markTk 125])) ++ elseTk el else (if 0 < tx.length then listTk tx else []) ++ [markTk 59])
def cmdsTk : List Cmd → List Tok
  | [] => []
  | c :: l => cmdTk c ++ cmdsTk l
/-- An else. -/
def elseTk : List Cmd → List Tok
  | [] => []
  | c :: l => if l = [] ∧ c.kind = 2 then wordTk (mkS [101, 108, 115, 105, 102]) :: (cmdTk c).tail else wordTk (mkS [101, 108, 115, 101]) :: markTk 123 :: (cmdTk c ++ cmdsTk l ++ [markTk 125])
end
end Go.Proofs.YtgmnoemkdigafaaDoor
namespace Go.Proofs.YtgmnoemkdigafaaDoor
set_option linter.unusedVariables false

def trueT : Tst := .mk 1 0 0 [] [] false 0 []
def falseT : Tst := .mk 2 0 0 [] [] false 0 []
def chainT : Nat → Tst
  | 0 => trueT
  | n + 1 => .mk 3 0 0 [] [] false 0 [chainT n]
def chainC : Nat → Cmd
  | 0 => .mk 2 [] trueT [] []
  | n + 1 => .mk 2 [] trueT [chainC n] []
def elseC : Nat → Cmd
  | 0 => .mk 2 [] trueT [] []
  | n + 1 => .mk 2 [] falseT [] [elseC n]
theorem chkTs_one (t : Tst) (d : Int) : chkTs [t] d = chkT t d := by
  unfold chkTs
  by_cases h : chkT t d ≠ 0
  · rw [if_pos h]
  · rw [if_neg h]
    unfold chkTs
    exact (Decidable.not_not.1 h).symm
theorem chkCs_one (c : Cmd) (d : Int) : chkCs [c] d = chkC c d := by
  unfold chkCs
  by_cases h : chkC c d ≠ 0
  · rw [if_pos h]
  · rw [if_neg h]
    unfold chkCs
    exact (Decidable.not_not.1 h).symm
theorem chkT_leaf (k : Int) (hk : k = 1 ∨ k = 2) (d : Int) : chkT (.mk k 0 0 [] [] false 0 []) d = if 6 < d then 1 else 0 := by
  unfold chkT
  rw [if_neg (by omega)]
  by_cases h : 6 < d
  · rw [if_pos h, if_pos h]
  · rw [if_neg h, if_neg h]
    have hf : formT k 0 0 ([] : List ByteArray).length ([] : List ByteArray).length false 0 ([] : List Tst).length = true := by
      rcases hk with rfl | rfl <;> rfl
    rw [hf, if_neg (by simp)]
    unfold chkTs
    rfl
theorem chkT_chain : ∀ (n : Nat) (d : Int), chkT (chainT n) d = if 6 < d + n then 1 else 0
  | 0, d => by
    have h := chkT_leaf 1 (.inl rfl) d
    rw [show d + ((0 : Nat) : Int) = d by simp]
    exact h
  | n + 1, d => by
    unfold chainT
    unfold chkT
    rw [if_neg (by decide)]
    by_cases h : 6 < d
    · rw [if_pos h, if_pos (by omega)]
    · rw [if_neg h]
      have hf : formT 3 0 0 ([] : List ByteArray).length ([] : List ByteArray).length false 0 [chainT n].length = true := rfl
      rw [hf, if_neg (by simp), chkTs_one, chkT_chain n (d + 1)]
      rw [show d + 1 + (n : Int) = d + ((n + 1 : Nat) : Int) by omega]
theorem chkC_if (t : Tst) (th el : List Cmd) (d : Int) (hd : ¬ 6 < d) (ht : chkT t 1 = 0) (hth : chkCs th (d + 1) = 0) : chkC (.mk 2 [] t th el) d = chkCs el (if lone el = true then d else d + 1) := by
  unfold chkC
  rw [if_neg (by decide), if_neg hd, if_pos rfl, if_neg (by simp), if_neg (by rw [ht]; simp), if_neg (by rw [hth]; simp)]
theorem chkCs_nil (d : Int) : chkCs [] d = 0 := by unfold chkCs; rfl
theorem chkC_chain : ∀ (n : Nat) (d : Int), chkC (chainC n) d = if 6 < d + n then 1 else 0
  | 0, d => by
    rw [show d + ((0 : Nat) : Int) = d by simp]
    unfold chainC
    by_cases h : 6 < d
    · rw [if_pos h]
      unfold chkC
      rw [if_neg (by decide), if_pos h]
    · rw [if_neg h, chkC_if _ _ _ _ h (show chkT trueT 1 = 0 from chkT_chain 0 1) (chkCs_nil _), chkCs_nil]
  | n + 1, d => by
    unfold chainC
    by_cases h : 6 < d
    · rw [if_pos (by omega)]
      unfold chkC
      rw [if_neg (by decide), if_pos h]
    · have hr := chkC_chain n (d + 1)
      rw [show d + 1 + (n : Int) = d + ((n + 1 : Nat) : Int) by omega] at hr
      by_cases h2 : 6 < d + ((n + 1 : Nat) : Int)
      · rw [if_pos h2] at hr ⊢
        unfold chkC
        rw [if_neg (by decide), if_neg h, if_pos rfl, if_neg (by simp), if_neg (by rw [show chkT trueT 1 = 0 from chkT_chain 0 1]; simp), chkCs_one, if_pos (by rw [hr]; decide), hr]
      · rw [if_neg h2] at hr ⊢
        rw [chkC_if _ _ _ _ h (show chkT trueT 1 = 0 from chkT_chain 0 1) (by rw [chkCs_one]; exact hr), chkCs_nil]
theorem kind_else (n : Nat) : (elseC n).kind = 2 := by cases n <;> rfl
theorem chkC_else : ∀ (n : Nat) (d : Int), ¬ 6 < d → chkC (elseC n) d = 0
  | 0, d, h => by
    unfold elseC
    rw [chkC_if _ _ _ _ h (show chkT trueT 1 = 0 from chkT_chain 0 1) (chkCs_nil _), chkCs_nil]
  | n + 1, d, h => by
    unfold elseC
    have ht : chkT falseT 1 = 0 := chkT_leaf 2 (.inr rfl) 1
    have hl : lone [elseC n] = true := by
      show decide ((elseC n).kind = 2) = true
      rw [kind_else]; rfl
    rw [chkC_if _ _ _ _ h ht (chkCs_nil _), hl, if_pos rfl, chkCs_one]
    exact chkC_else n d h
theorem testTk_chain : ∀ n : Nat, (testTk (chainT n)).length = n + 1
  | 0 => by unfold chainT; rfl
  | n + 1 => by
    unfold chainT
    unfold testTk
    rw [if_pos (.inl rfl), if_pos rfl]
    unfold testsTk1
    rw [List.length_cons, testTk_chain n]
theorem cmdTk_if (t : Tst) (th el : List Cmd) : (cmdTk (.mk 2 [] t th el)).length = 3 + (testTk t).length + (cmdsTk th).length + (elseTk el).length := by
  unfold cmdTk
  rw [if_pos rfl]
  simp only [List.length_cons, List.length_append, List.length_nil]
  omega
theorem cmdsTk_one (c : Cmd) : cmdsTk [c] = cmdTk c := by
  unfold cmdsTk
  unfold cmdsTk
  rw [List.append_nil]
theorem cmdTk_chain : ∀ n : Nat, (cmdTk (chainC n)).length = 4 * n + 4
  | 0 => by unfold chainC; rfl
  | n + 1 => by
    unfold chainC
    rw [cmdTk_if, cmdsTk_one, cmdTk_chain n]
    have h1 : (testTk trueT).length = 1 := testTk_chain 0
    have h2 : (elseTk []).length = 0 := rfl
    omega
theorem cmdTk_pos (c : Cmd) : 0 < (cmdTk c).length := by
  cases c
  unfold cmdTk
  simp
theorem cmdTk_else : ∀ n : Nat, (cmdTk (elseC n)).length = 4 * n + 4
  | 0 => by unfold elseC; rfl
  | n + 1 => by
    unfold elseC
    rw [cmdTk_if]
    have h1 : (testTk falseT).length = 1 := rfl
    have h2 : (cmdsTk []).length = 0 := rfl
    have h3 : (elseTk [elseC n]).length = (cmdTk (elseC n)).length := by
      unfold elseTk
      rw [if_pos ⟨rfl, kind_else n⟩, List.length_cons, List.length_tail]
      have := cmdTk_pos (elseC n)
      omega
    rw [h3, cmdTk_else n]
    omega
/-- A script of one command, as it stands under an if. -/
def deepT (k : Nat) : Cmd := .mk 2 [] (chainT k) [] []
theorem chkC_deepT (k : Nat) : chkC (deepT k) 0 = if 6 < 1 + (k : Int) then 1 else 0 := by
  unfold deepT
  by_cases h : 6 < 1 + (k : Int)
  · rw [if_pos h]
    have hc := chkT_chain k 1
    rw [if_pos h] at hc
    unfold chkC
    rw [if_neg (by decide), if_neg (by decide), if_pos rfl, if_neg (by simp), if_pos (by rw [hc]; decide), hc]
  · have hc := chkT_chain k 1
    rw [if_neg h] at hc
    rw [if_neg h, chkC_if _ _ _ _ (by decide) hc (chkCs_nil _), chkCs_nil]
theorem cmdTk_deepT (k : Nat) : (cmdTk (deepT k)).length = k + 4 := by
  unfold deepT
  rw [cmdTk_if, testTk_chain]
  have h1 : (cmdsTk []).length = 0 := rfl
  have h2 : (elseTk []).length = 0 := rfl
  omega
end Go.Proofs.YtgmnoemkdigafaaDoor
namespace Go.Proofs.YtgmnoemkdigafaaDoor
end Go.Proofs.YtgmnoemkdigafaaDoor
namespace Go.Proofs.YtgmnoemkdigafaaDoor
open Go.RowKit
set_option linter.unusedVariables false

/-- Strings in memory. -/
def TxAt (w : World) (A : Option Addr) (l : List ByteArray) : Prop := l = [] ∨ ∃ g off, A = some ⟨g, off, none⟩ ∧ ∀ j s, l[j]? = some s → w.cell? ⟨g, off + j, none⟩ = some (.string s)
theorem TxAt.later {w w' : World} {A : Option Addr} {l : List ByteArray} (hb : Below w.heap.size w w') (h : TxAt w A l) : TxAt w' A l := by
  rcases h with h | ⟨g, off, e, hc⟩
  · exact .inl h
  · exact .inr ⟨g, off, e, fun j s hj => cell_later hb (hc j s hj)⟩
mutual
/-- A test's eight cells. -/
def TestV (w : World) : Tst → List Value → Prop
  | .mk k m p ns ks o lm ts, vs => ∃ An cn Ak ck At ct, vs = [.int .i64 k, .int .i64 m, .int .i64 p, .slice An ns.length cn, .slice Ak ks.length ck, .bool o, .int .i64 lm, .slice At ts.length ct] ∧ TxAt w An ns ∧ TxAt w Ak ks ∧ TestsAt w ts At ∧ (ns.length ≤ cn ∧ ks.length ≤ ck ∧ ts.length ≤ ct ∧ ns.length ≤ 1000000 ∧ ks.length ≤ 1000000 ∧ ts.length ≤ 1000000)
def TestsAt (w : World) : List Tst → Option Addr → Prop
  | [], _ => True
  | t :: l, A => ∃ b off vs, A = some ⟨b, off, none⟩ ∧ (∀ i v, vs[i]? = some v → w.cell? ⟨b, off + i, none⟩ = some v) ∧ TestV w t vs ∧ TestsAt w l (some ⟨b, off + 8, none⟩)
end
mutual
/-- A command's twelve cells. -/
def CmdV (w : World) : Cmd → List Value → Prop
  | .mk k tx t th el, vs => ∃ Ax cx tv Ah ch Ae ce, vs = [.int .i64 k, .slice Ax tx.length cx] ++ tv ++ [.slice Ah th.length ch, .slice Ae el.length ce] ∧ TxAt w Ax tx ∧ TestV w t tv ∧ CmdsAt w th Ah ∧ CmdsAt w el Ae ∧ (tx.length ≤ cx ∧ th.length ≤ ch ∧ el.length ≤ ce ∧ tx.length ≤ 1000000 ∧ th.length ≤ 1000000 ∧ el.length ≤ 1000000)
def CmdsAt (w : World) : List Cmd → Option Addr → Prop
  | [], _ => True
  | c :: l, A => ∃ b off vs, A = some ⟨b, off, none⟩ ∧ (∀ i v, vs[i]? = some v → w.cell? ⟨b, off + i, none⟩ = some v) ∧ CmdV w c vs ∧ CmdsAt w l (some ⟨b, off + 12, none⟩)
end
section
variable {w w' : World}
mutual
theorem testV_later (hb : Below w.heap.size w w') : ∀ (t : Tst) (vs : List Value), TestV w t vs → TestV w' t vs
  | .mk k m p ns ks o lm ts, vs, h => by
    unfold TestV at h ⊢
    obtain ⟨An, cn, Ak, ck, At, ct, rfl, h1, h2, h3, h4⟩ := h
    exact ⟨An, cn, Ak, ck, At, ct, rfl, h1.later hb, h2.later hb, testsAt_later hb ts At h3, h4⟩
theorem testsAt_later (hb : Below w.heap.size w w') : ∀ (l : List Tst) (A : Option Addr), TestsAt w l A → TestsAt w' l A
  | [], _, _ => by unfold TestsAt; trivial
  | t :: l, A, h => by
    unfold TestsAt at h ⊢
    obtain ⟨b, off, vs, rfl, h1, h2, h3⟩ := h
    exact ⟨b, off, vs, rfl, fun i v hi => cell_later hb (h1 i v hi), testV_later hb t vs h2, testsAt_later hb l _ h3⟩
end
mutual
theorem cmdV_later (hb : Below w.heap.size w w') : ∀ (c : Cmd) (vs : List Value), CmdV w c vs → CmdV w' c vs
  | .mk k tx t th el, vs, h => by
    unfold CmdV at h ⊢
    obtain ⟨Ax, cx, tv, Ah, ch, Ae, ce, rfl, h1, h2, h3, h4, h5⟩ := h
    exact ⟨Ax, cx, tv, Ah, ch, Ae, ce, rfl, h1.later hb, testV_later hb t tv h2, cmdsAt_later hb th Ah h3, cmdsAt_later hb el Ae h4, h5⟩
theorem cmdsAt_later (hb : Below w.heap.size w w') : ∀ (l : List Cmd) (A : Option Addr), CmdsAt w l A → CmdsAt w' l A
  | [], _, _ => by unfold CmdsAt; trivial
  | c :: l, A, h => by
    unfold CmdsAt at h ⊢
    obtain ⟨b, off, vs, rfl, h1, h2, h3⟩ := h
    exact ⟨b, off, vs, rfl, fun i v hi => cell_later hb (h1 i v hi), cmdV_later hb c vs h2, cmdsAt_later hb l _ h3⟩
end
theorem testV_len {t : Tst} {vs : List Value} (h : TestV w t vs) : vs.length = 8 := by
  cases t
  unfold TestV at h
  obtain ⟨An, cn, Ak, ck, At, ct, rfl, _⟩ := h
  rfl
theorem cmdV_len {c : Cmd} {vs : List Value} (h : CmdV w c vs) : vs.length = 12 := by
  cases c
  unfold CmdV at h
  obtain ⟨Ax, cx, tv, Ah, ch, Ae, ce, rfl, _, h2, _⟩ := h
  simp [testV_len h2]
theorem testsAt_get : ∀ (l : List Tst) (b off j : Nat) (t : Tst), TestsAt w l (some ⟨b, off, none⟩) → l[j]? = some t → ∃ vs, (∀ i v, vs[i]? = some v → w.cell? ⟨b, off + j * 8 + i, none⟩ = some v) ∧ TestV w t vs
  | [], b, off, j, t, h, hj => by simp at hj
  | s :: l, b, off, 0, t, h, hj => by
    unfold TestsAt at h
    obtain ⟨b', off', vs, e, h1, h2, h3⟩ := h
    cases e
    simp only [List.getElem?_cons_zero, Option.some.injEq] at hj
    subst hj
    exact ⟨vs, by simpa using h1, h2⟩
  | s :: l, b, off, j + 1, t, h, hj => by
    unfold TestsAt at h
    obtain ⟨b', off', vs, e, h1, h2, h3⟩ := h
    cases e
    obtain ⟨us, h4, h5⟩ := testsAt_get l b (off + 8) j t h3 (by simpa using hj)
    exact ⟨us, fun i v hi => by have := h4 i v hi; rwa [show off + (j + 1) * 8 + i = off + 8 + j * 8 + i by omega], h5⟩
theorem testsAt_ptr {l : List Tst} {A : Option Addr} (h : TestsAt w l A) (hl : l ≠ []) : ∃ b off, A = some ⟨b, off, none⟩ := by
  cases l with
  | nil => exact absurd rfl hl
  | cons t l =>
    unfold TestsAt at h
    obtain ⟨b, off, vs, rfl, _⟩ := h
    exact ⟨b, off, rfl⟩
theorem cmdsAt_get : ∀ (l : List Cmd) (b off j : Nat) (c : Cmd), CmdsAt w l (some ⟨b, off, none⟩) → l[j]? = some c → ∃ vs, (∀ i v, vs[i]? = some v → w.cell? ⟨b, off + j * 12 + i, none⟩ = some v) ∧ CmdV w c vs
  | [], b, off, j, c, h, hj => by simp at hj
  | s :: l, b, off, 0, c, h, hj => by
    unfold CmdsAt at h
    obtain ⟨b', off', vs, e, h1, h2, h3⟩ := h
    cases e
    simp only [List.getElem?_cons_zero, Option.some.injEq] at hj
    subst hj
    exact ⟨vs, by simpa using h1, h2⟩
  | s :: l, b, off, j + 1, c, h, hj => by
    unfold CmdsAt at h
    obtain ⟨b', off', vs, e, h1, h2, h3⟩ := h
    cases e
    obtain ⟨us, h4, h5⟩ := cmdsAt_get l b (off + 12) j c h3 (by simpa using hj)
    exact ⟨us, fun i v hi => by have := h4 i v hi; rwa [show off + (j + 1) * 12 + i = off + 12 + j * 12 + i by omega], h5⟩
theorem cmdsAt_ptr {l : List Cmd} {A : Option Addr} (h : CmdsAt w l A) (hl : l ≠ []) : ∃ b off, A = some ⟨b, off, none⟩ := by
  cases l with
  | nil => exact absurd rfl hl
  | cons t l =>
    unfold CmdsAt at h
    obtain ⟨b, off, vs, rfl, _⟩ := h
    exact ⟨b, off, rfl⟩
end
end Go.Proofs.YtgmnoemkdigafaaDoor
namespace Go.Proofs.YtgmnoemkdigafaaDoor
open Go.RowKit
set_option linter.unusedVariables false

mutual
/-- A test whose parts may be, but for how deep it is. -/
def okT : Tst → Prop
  | .mk k m p ns ks o lm ts => 1 ≤ k ∧ k ≤ 10 ∧ formT k m p ns.length ks.length o lm ts.length = true ∧ okTs ts
def okTs : List Tst → Prop
  | [] => True
  | t :: l => okT t ∧ okTs l
end
theorem okTs_mem : ∀ (l : List Tst) (t : Tst), okTs l → t ∈ l → okT t
  | [], t, h, ht => by cases ht
  | s :: l, t, h, ht => by
    unfold okTs at h
    rcases List.mem_cons.1 ht with rfl | ht
    · exact h.1
    · exact okTs_mem l t h.2 ht
theorem form_facts {k m p lm : Int} {nn nk nt : Nat} {o : Bool} (h : formT k m p nn nk o lm nt = true) :
    (k = 3 → nt = 1) ∧ (k = 4 ∨ k = 5 → 0 < nt) ∧ (6 ≤ k ∧ k ≤ 8 → 1 ≤ m ∧ m ≤ 3 ∧ 0 < nn ∧ 0 < nk) ∧ (7 ≤ k ∧ k ≤ 8 → 1 ≤ p ∧ p ≤ 3) ∧ (k = 9 → 0 < nn) ∧ (k = 10 → 0 ≤ lm ∧ lm ≤ 2147483647) ∧
    (¬ (6 ≤ k ∧ k ≤ 9) → nn = 0) ∧ (¬ (6 ≤ k ∧ k ≤ 8) → nk = 0 ∧ m = 0) ∧ (¬ (7 ≤ k ∧ k ≤ 8) → p = 0) ∧ (k ≠ 10 → o = false ∧ lm = 0) ∧ (¬ (3 ≤ k ∧ k ≤ 5) → nt = 0) := by
  unfold formT at h
  simp only [Bool.and_eq_true, Bool.or_eq_true, decide_eq_true_eq] at h
  obtain ⟨⟨⟨⟨⟨h1, h2⟩, h3⟩, h4⟩, h5⟩, h6⟩ := h
  refine ⟨?_, ?_, ?_, ?_, ?_, ?_, ?_, ?_, ?_, ?_, ?_⟩
  · rintro rfl
    rw [if_pos (by decide)] at h1
    simpa using h1
  · intro hk
    rw [if_pos (by omega)] at h1
    simp only [Bool.or_eq_true, Bool.and_eq_true, decide_eq_true_eq] at h1
    omega
  · intro hk
    rw [if_neg (by omega), if_pos hk] at h1
    simp only [Bool.and_eq_true, decide_eq_true_eq] at h1
    exact h1.1
  · intro hk
    rw [if_neg (by omega), if_pos (by omega)] at h1
    simp only [Bool.or_eq_true, Bool.and_eq_true, decide_eq_true_eq] at h1
    rcases h1.2 with h | h
    · omega
    · exact h
  · rintro rfl
    rw [if_neg (by decide), if_neg (by decide), if_pos rfl] at h1
    simpa using h1
  · rintro rfl
    rw [if_neg (by decide), if_neg (by decide), if_neg (by decide), if_pos rfl] at h1
    simpa using h1
  · intro hk; exact h2.resolve_left hk
  · intro hk; exact h3.resolve_left hk
  · intro hk; exact h4.resolve_left hk
  · intro hk; exact h5.resolve_left hk
  · intro hk; exact h6.resolve_left hk
theorem chkT_ok {k m p lm : Int} {ns ks : List ByteArray} {o : Bool} {ts : List Tst} (h : okT (.mk k m p ns ks o lm ts)) (d : Int) : chkT (.mk k m p ns ks o lm ts) d = if 6 < d then 1 else chkTs ts (d + 1) := by
  unfold okT at h
  obtain ⟨h1, h2, h3, h4⟩ := h
  unfold chkT
  rw [if_neg (by omega), h3]
  by_cases h : 6 < d
  · rw [if_pos h, if_pos h]
  · rw [if_neg h, if_neg h, if_neg (by simp)]
theorem chkTs_drop (ts : List Tst) (d : Int) : ∀ j : Nat, (∀ i (t : Tst), i < j → ts[i]? = some t → chkT t d = 0) → chkTs ts d = chkTs (ts.drop j) d
  | 0, _ => by rw [List.drop_zero]
  | j + 1, h => by
    rw [chkTs_drop ts d j (fun i t hi => h i t (by omega))]
    by_cases hj : j < ts.length
    · rw [List.drop_eq_getElem_cons hj]
      have h0 := h j ts[j] (by omega) (by simp [hj])
      unfold chkTs
      rw [if_neg (by rw [h0]; simp)]
      cases ts.drop (j + 1) with
      | nil => unfold chkTs; rfl
      | cons a l => rfl
    · rw [List.drop_eq_nil_of_le (by omega), List.drop_eq_nil_of_le (by omega)]
theorem len8 {l : List Value} (h : l.length = 8) : ∃ u0 u1 u2 u3 u4 u5 u6 u7, l = [u0, u1, u2, u3, u4, u5, u6, u7] := by
  match l, h with
  | [u0, u1, u2, u3, u4, u5, u6, u7], _ => exact ⟨u0, u1, u2, u3, u4, u5, u6, u7, rfl⟩
theorem drop_get {α : Type} : ∀ (l : List α) (j : Nat) (s : α), l[j]? = some s → l.drop j = s :: l.drop (j + 1)
  | [], j, s, h => by simp at h
  | a :: l, 0, s, h => by
    simp only [List.getElem?_cons_zero, Option.some.injEq] at h
    subst h; rfl
  | a :: l, j + 1, s, h => by
    simp only [List.getElem?_cons_succ] at h
    simp only [List.drop_succ_cons]
    exact drop_get l j s h
/-- What the loop over a test's tests leans on, round by round. -/
theorem testsAt_round {w w' : World} {ts : List Tst} {A : Option Addr} {j : Nat} (hb : Below w.heap.size w w') (h : TestsAt w ts A) (hj : j < ts.length) :
    ∃ (b off : Nat) (s : Tst) (k m p lm : Int) (o : Bool) (An Ak At : Option Addr) (nn cn nk ck nt ct : Nat), A = some ⟨b, off, none⟩ ∧ s ∈ ts ∧ ts.drop j = s :: ts.drop (j + 1) ∧ TestV w' s [.int .i64 k, .int .i64 m, .int .i64 p, .slice An nn cn, .slice Ak nk ck, .bool o, .int .i64 lm, .slice At nt ct] ∧
      w'.cell? ⟨b, off + j * 8, none⟩ = some (.int .i64 k) ∧ w'.cell? ⟨b, off + j * 8 + 1, none⟩ = some (.int .i64 m) ∧ w'.cell? ⟨b, off + j * 8 + 2, none⟩ = some (.int .i64 p) ∧ w'.cell? ⟨b, off + j * 8 + 3, none⟩ = some (.slice An nn cn) ∧ w'.cell? ⟨b, off + j * 8 + 4, none⟩ = some (.slice Ak nk ck) ∧ w'.cell? ⟨b, off + j * 8 + 5, none⟩ = some (.bool o) ∧ w'.cell? ⟨b, off + j * 8 + 6, none⟩ = some (.int .i64 lm) ∧ w'.cell? ⟨b, off + j * 8 + 7, none⟩ = some (.slice At nt ct) := by
  obtain ⟨b, off, rfl⟩ := testsAt_ptr h (fun e => by rw [e] at hj; simp at hj)
  obtain ⟨s, hs⟩ : ∃ s, ts[j]? = some s := ⟨ts[j], by simp [hj]⟩
  obtain ⟨us, hcs, huv⟩ := testsAt_get ts b off j s (testsAt_later hb ts _ h) hs
  have huv2 := huv
  obtain ⟨k, m, p, ns, ks, o, lm, ss⟩ := s
  unfold TestV at huv2
  obtain ⟨An, cn, Ak, ck, At, ct, rfl, _⟩ := huv2
  exact ⟨b, off, _, k, m, p, lm, o, An, Ak, At, _, cn, _, ck, _, ct, rfl, List.mem_of_getElem? hs, drop_get ts j _ hs, huv, hcs 0 _ rfl, hcs 1 _ rfl, hcs 2 _ rfl, hcs 3 _ rfl, hcs 4 _ rfl, hcs 5 _ rfl, hcs 6 _ rfl, hcs 7 _ rfl⟩
theorem bel2 {w w' : World} {q j1 j2 : Nat} {v1 v2 : Value} (hq : w.heap.size ≤ q) (h : Below w.heap.size w w') : Below w.heap.size w ((w'.setCell ⟨q, j1, none⟩ v1).setCell ⟨q, j2, none⟩ v2).drew :=
  btr ((h.setCell (p := ⟨q, j1, none⟩) hq v1).setCell (p := ⟨q, j2, none⟩) hq v2) (bdr _)
theorem bel3 {w w' : World} {q j1 j2 j3 : Nat} {v1 v2 v3 : Value} (hq : w.heap.size ≤ q) (h : Below w.heap.size w w') : Below w.heap.size w (((w'.setCell ⟨q, j1, none⟩ v1).setCell ⟨q, j2, none⟩ v2).setCell ⟨q, j3, none⟩ v3).drew :=
  btr (((h.setCell (p := ⟨q, j1, none⟩) hq v1).setCell (p := ⟨q, j2, none⟩) hq v2).setCell (p := ⟨q, j3, none⟩) hq v3) (bdr _)
theorem bk_eq {W : World} {b : Nat} {cs cs' : List Value} {t : TypeId} (h : Bk W b cs t) (e : cs = cs') : Bk W b cs' t := e ▸ h
end Go.Proofs.YtgmnoemkdigafaaDoor
namespace Go.Proofs.YtgmnoemkdigafaaDoor
open Go.RowKit
set_option linter.unusedVariables false

mutual
/-- A command whose parts may be, but for how deep it is. -/
def okC : Cmd → Prop
  | .mk k tx t th el => (k = 2 ∧ tx = [] ∧ okT t ∧ okCs th ∧ okCs el) ∨ (1 ≤ k ∧ k ≤ 10 ∧ k ≠ 2 ∧ formC k tx.length = true ∧ t = zeroT ∧ th = [] ∧ el = [])
def okCs : List Cmd → Prop
  | [] => True
  | c :: l => okC c ∧ okCs l
end
theorem okCs_mem : ∀ (l : List Cmd) (t : Cmd), okCs l → t ∈ l → okC t
  | [], t, h, ht => by cases ht
  | s :: l, t, h, ht => by
    unfold okCs at h
    rcases List.mem_cons.1 ht with rfl | ht
    · exact h.1
    · exact okCs_mem l t h.2 ht
theorem okCs_of : ∀ (l : List Cmd), (∀ c ∈ l, okC c) → okCs l
  | [], _ => by unfold okCs; trivial
  | s :: l, h => by
    unfold okCs
    exact ⟨h s (by simp), okCs_of l fun c hc => h c (by simp [hc])⟩
theorem chkC_if_ok (t : Tst) (th el : List Cmd) (d : Int) : chkC (.mk 2 [] t th el) d = if 6 < d then 1 else if chkT t 1 ≠ 0 then chkT t 1 else if chkCs th (d + 1) ≠ 0 then chkCs th (d + 1) else chkCs el (if lone el = true then d else d + 1) := by
  rw [chkC, if_neg (by decide)]
  by_cases h : 6 < d
  · rw [if_pos h, if_pos h]
  · rw [if_neg h, if_neg h, if_pos rfl, if_neg (by simp)]
theorem chkC_other {k : Int} {tx : List ByteArray} (h1 : 1 ≤ k) (h2 : k ≤ 10) (h3 : k ≠ 2) (hf : formC k tx.length = true) (d : Int) : chkC (.mk k tx zeroT [] []) d = if 6 < d then 1 else 0 := by
  rw [chkC, if_neg (by omega)]
  by_cases h : 6 < d
  · rw [if_pos h, if_pos h]
  · rw [if_neg h, if_neg h, if_neg h3, if_pos ⟨hf, rfl, rfl⟩]
theorem chkCs_drop (ts : List Cmd) (d : Int) : ∀ j : Nat, (∀ i (t : Cmd), i < j → ts[i]? = some t → chkC t d = 0) → chkCs ts d = chkCs (ts.drop j) d
  | 0, _ => by rw [List.drop_zero]
  | j + 1, h => by
    rw [chkCs_drop ts d j (fun i t hi => h i t (by omega))]
    by_cases hj : j < ts.length
    · rw [List.drop_eq_getElem_cons hj]
      have h0 := h j ts[j] (by omega) (by simp [hj])
      rw [chkCs, if_neg (by rw [h0]; simp)]
    · rw [List.drop_eq_nil_of_le (by omega), List.drop_eq_nil_of_le (by omega)]
theorem cmdsTk_append : ∀ (a b : List Cmd), cmdsTk (a ++ b) = cmdsTk a ++ cmdsTk b
  | [], b => by rw [List.nil_append, cmdsTk, List.nil_append]
  | s :: a, b => by
    rw [List.cons_append, cmdsTk, cmdsTk_append a b, cmdsTk, List.append_assoc]
theorem cmdsTk_single (c : Cmd) : cmdsTk [c] = cmdTk c := by rw [cmdsTk, cmdsTk, List.append_nil]
theorem cmdsTk_take_succ {l : List Cmd} {j : Nat} {c : Cmd} (h : l[j]? = some c) : cmdsTk (l.take (j + 1)) = cmdsTk (l.take j) ++ cmdTk c := by
  rw [List.take_add_one, h, Option.toList_some, cmdsTk_append, cmdsTk_single]
theorem cmdsTk_take_le (l : List Cmd) (j : Nat) : (cmdsTk (l.take j)).length ≤ (cmdsTk l).length := by
  have h : cmdsTk l = cmdsTk (l.take j) ++ cmdsTk (l.drop j) := by rw [← cmdsTk_append, List.take_append_drop]
  rw [h, List.length_append]; omega
theorem elseTk_nil : elseTk [] = [] := by rw [elseTk]
theorem elseTk_one (c : Cmd) (h : c.kind = 2) : elseTk [c] = wordTk (mkS [101, 108, 115, 105, 102]) :: (cmdTk c).tail := by rw [elseTk, if_pos ⟨rfl, h⟩]
theorem elseTk_many {l : List Cmd} (hl : l ≠ []) (h : lone l = false) : elseTk l = wordTk (mkS [101, 108, 115, 101]) :: (markTk 123 :: (cmdsTk l ++ [markTk 125])) := by
  match l, hl with
  | c :: r, _ =>
    rw [elseTk, if_neg, cmdsTk]
    rintro ⟨rfl, hk⟩
    unfold lone at h
    simp [hk] at h
theorem lone_true {l : List Cmd} (h : lone l = true) : ∃ c, l = [c] ∧ c.kind = 2 := by
  match l with
  | [] => simp [lone] at h
  | [c] => exact ⟨c, rfl, by simpa [lone] using h⟩
  | a :: b :: r => simp [lone] at h
/-- A command's twelve cells, as they are read. -/
theorem cmdV_cells {w : World} {k : Int} {tx : List ByteArray} {t : Tst} {th el : List Cmd} {vs : List Value} (h : CmdV w (.mk k tx t th el) vs) :
    ∃ (Ax : Option Addr) (cx : Nat) (k2 m p lm : Int) (o : Bool) (An Ak At : Option Addr) (nn cn nk ck nt ct : Nat) (Ah : Option Addr) (ch : Nat) (Ae : Option Addr) (ce : Nat),
      vs = [.int .i64 k, .slice Ax tx.length cx, .int .i64 k2, .int .i64 m, .int .i64 p, .slice An nn cn, .slice Ak nk ck, .bool o, .int .i64 lm, .slice At nt ct, .slice Ah th.length ch, .slice Ae el.length ce] ∧
      TxAt w Ax tx ∧ TestV w t [.int .i64 k2, .int .i64 m, .int .i64 p, .slice An nn cn, .slice Ak nk ck, .bool o, .int .i64 lm, .slice At nt ct] ∧ CmdsAt w th Ah ∧ CmdsAt w el Ae ∧ (tx.length ≤ cx ∧ th.length ≤ ch ∧ el.length ≤ ce ∧ tx.length ≤ 1000000 ∧ th.length ≤ 1000000 ∧ el.length ≤ 1000000) := by
  unfold CmdV at h
  obtain ⟨Ax, cx, tv, Ah, ch, Ae, ce, rfl, h1, h2, h3, h4, h5⟩ := h
  have h2' := h2
  obtain ⟨k2, m, p, ns, ks, o, lm, ss⟩ := t
  unfold TestV at h2'
  obtain ⟨An, cn, Ak, ck, At, ct, rfl, _⟩ := h2'
  exact ⟨Ax, cx, k2, m, p, lm, o, An, Ak, At, _, cn, _, ck, _, ct, Ah, ch, Ae, ce, rfl, h1, h2, h3, h4, h5⟩
/-- What a loop over commands leans on, round by round. -/
theorem cmdsAt_round {w w' : World} {cs : List Cmd} {A : Option Addr} {j : Nat} (hb : Below w.heap.size w w') (h : CmdsAt w cs A) (hj : j < cs.length) :
    ∃ (b off : Nat) (s : Cmd) (k : Int) (Ax : Option Addr) (nx cx : Nat) (k2 m p lm : Int) (o : Bool) (An Ak At : Option Addr) (nn cn nk ck nt ct : Nat) (Ah : Option Addr) (nh ch : Nat) (Ae : Option Addr) (ne ce : Nat),
      A = some ⟨b, off, none⟩ ∧ s ∈ cs ∧ cs[j]? = some s ∧ cs.drop j = s :: cs.drop (j + 1) ∧ s.kind = k ∧
      CmdV w s [.int .i64 k, .slice Ax nx cx, .int .i64 k2, .int .i64 m, .int .i64 p, .slice An nn cn, .slice Ak nk ck, .bool o, .int .i64 lm, .slice At nt ct, .slice Ah nh ch, .slice Ae ne ce] ∧
      w'.cell? ⟨b, off + j * 12, none⟩ = some (.int .i64 k) ∧ w'.cell? ⟨b, off + j * 12 + 1, none⟩ = some (.slice Ax nx cx) ∧ w'.cell? ⟨b, off + j * 12 + 2, none⟩ = some (.int .i64 k2) ∧ w'.cell? ⟨b, off + j * 12 + 3, none⟩ = some (.int .i64 m) ∧ w'.cell? ⟨b, off + j * 12 + 4, none⟩ = some (.int .i64 p) ∧ w'.cell? ⟨b, off + j * 12 + 5, none⟩ = some (.slice An nn cn) ∧ w'.cell? ⟨b, off + j * 12 + 6, none⟩ = some (.slice Ak nk ck) ∧ w'.cell? ⟨b, off + j * 12 + 7, none⟩ = some (.bool o) ∧ w'.cell? ⟨b, off + j * 12 + 8, none⟩ = some (.int .i64 lm) ∧ w'.cell? ⟨b, off + j * 12 + 9, none⟩ = some (.slice At nt ct) ∧ w'.cell? ⟨b, off + j * 12 + 10, none⟩ = some (.slice Ah nh ch) ∧ w'.cell? ⟨b, off + j * 12 + 11, none⟩ = some (.slice Ae ne ce) := by
  obtain ⟨b, off, rfl⟩ := cmdsAt_ptr h (fun e => by rw [e] at hj; simp at hj)
  obtain ⟨s, hs⟩ : ∃ s, cs[j]? = some s := ⟨cs[j], by simp [hj]⟩
  obtain ⟨us, hcs, huv⟩ := cmdsAt_get cs b off j s h hs
  have huv2 := huv
  obtain ⟨k, tx, t, th, el⟩ := s
  obtain ⟨Ax, cx, k2, m, p, lm, o, An, Ak, At, nn, cn, nk, ck, nt, ct, Ah, ch, Ae, ce, rfl, _⟩ := cmdV_cells huv2
  have hcl := fun i v hi => cell_later hb (hcs i v hi)
  exact ⟨b, off, _, k, Ax, _, cx, k2, m, p, lm, o, An, Ak, At, nn, cn, nk, ck, nt, ct, Ah, _, ch, Ae, _, ce, rfl, List.mem_of_getElem? hs, hs, drop_get cs j _ hs, rfl, huv, hcl 0 _ rfl, hcl 1 _ rfl, hcl 2 _ rfl, hcl 3 _ rfl, hcl 4 _ rfl, hcl 5 _ rfl, hcl 6 _ rfl, hcl 7 _ rfl, hcl 8 _ rfl, hcl 9 _ rfl, hcl 10 _ rfl, hcl 11 _ rfl⟩
/-- The cells of a test of nothing. -/
theorem zeroT_cells {w : World} {k m p lm : Int} {o : Bool} {An Ak At : Option Addr} {nn cn nk ck nt ct : Nat} (h : TestV w zeroT [.int .i64 k, .int .i64 m, .int .i64 p, .slice An nn cn, .slice Ak nk ck, .bool o, .int .i64 lm, .slice At nt ct]) :
    k = 0 ∧ m = 0 ∧ p = 0 ∧ nn = 0 ∧ nk = 0 ∧ o = false ∧ lm = 0 ∧ nt = 0 := by
  unfold zeroT TestV at h
  obtain ⟨_, _, _, _, _, _, h, _⟩ := h
  simp only [List.cons.injEq, Value.int.injEq, Value.slice.injEq, Value.bool.injEq, true_and, and_true, List.length_nil] at h
  obtain ⟨h1, h2, h3, h4, h5, h6, h7, h8⟩ := h
  exact ⟨h1, h2, h3, h4.2.1, h5.2.1, h6, h7, h8.2.1⟩
/-- What check answers at a command, at commands. -/
def CkC (c : Cmd) : Prop := ∀ (d : Int) (vs : List Value) (w : World), 0 ≤ d → d ≤ 7 → CmdV w c vs →
  Calls Tryd.prog 42 #[.agg vs.toArray, .int .i64 d] w fun e w' => e = .returned (.int .i64 (chkC c d)) ∧ Below w.heap.size w w'
def CkCs (l : List Cmd) : Prop := ∀ (d : Int) (A : Option Addr) (cp : Nat) (w : World), 0 ≤ d → d ≤ 7 → CmdsAt w l A → l.length ≤ 1000000 →
  Calls Tryd.prog 27 #[.slice A l.length cp, .int .i64 d] w fun e w' => e = .returned (.int .i64 (chkCs l d)) ∧ Below w.heap.size w w'
end Go.Proofs.YtgmnoemkdigafaaDoor
namespace Go.Proofs.YtgmnoemkdigafaaDoor
open Go.RowKit
set_option linter.unusedVariables false

theorem testV_leaf (w : World) (k : Int) : TestV w (.mk k 0 0 [] [] false 0 []) [.int .i64 k, .int .i64 0, .int .i64 0, .slice none 0 0, .slice none 0 0, .bool false, .int .i64 0, .slice none 0 0] := by
  unfold TestV
  exact ⟨none, 0, none, 0, none, 0, rfl, .inl rfl, .inl rfl, by unfold TestsAt; trivial, by simp⟩
theorem testV_not {w : World} {t : Tst} {tv : List Value} {q : Nat} (h : TestV w t tv) (hq : Bk w q tv 31) : TestV w (.mk 3 0 0 [] [] false 0 [t]) [.int .i64 3, .int .i64 0, .int .i64 0, .slice none 0 0, .slice none 0 0, .bool false, .int .i64 0, .slice (some ⟨q, 0, none⟩) 1 1] := by
  unfold TestV
  refine ⟨none, 0, none, 0, some ⟨q, 0, none⟩, 1, rfl, .inl rfl, .inl rfl, ?_, by simp⟩
  unfold TestsAt
  exact ⟨q, 0, tv, rfl, fun i v hi => by rw [Nat.zero_add]; exact hq.cell i v hi, h, by unfold TestsAt; trivial⟩
theorem cmdsAt_one {w : World} {c : Cmd} {vs : List Value} {q : Nat} (h : CmdV w c vs) (hq : Bk w q vs 34) : CmdsAt w [c] (some ⟨q, 0, none⟩) := by
  unfold CmdsAt
  exact ⟨q, 0, vs, rfl, fun i v hi => by rw [Nat.zero_add]; exact hq.cell i v hi, h, by unfold CmdsAt; trivial⟩
theorem cmdV_mk {w : World} {t : Tst} {th el : List Cmd} {k m p lm : Int} {o : Bool} {An Ak At : Option Addr} {nn cn nk ck nt ct : Nat} {Ah Ae : Option Addr} {nh ch ne ce : Nat} (h : TestV w t [.int .i64 k, .int .i64 m, .int .i64 p, .slice An nn cn, .slice Ak nk ck, .bool o, .int .i64 lm, .slice At nt ct])
    (h1 : CmdsAt w th Ah) (h2 : CmdsAt w el Ae) (e1 : nh = th.length) (e2 : ne = el.length) (l1 : nh ≤ ch ∧ nh ≤ 1000000) (l2 : ne ≤ ce ∧ ne ≤ 1000000) :
    CmdV w (.mk 2 [] t th el) [.int .i64 2, .slice none 0 0, .int .i64 k, .int .i64 m, .int .i64 p, .slice An nn cn, .slice Ak nk ck, .bool o, .int .i64 lm, .slice At nt ct, .slice Ah nh ch, .slice Ae ne ce] := by
  subst e1 e2
  unfold CmdV
  exact ⟨none, 0, _, Ah, ch, Ae, ce, rfl, .inl rfl, h, h1, h2, by simp; omega⟩
theorem okCs_one {c : Cmd} (h : okC c) : okCs [c] := by unfold okCs; exact ⟨h, by unfold okCs; trivial⟩
theorem okCs_nil : okCs [] := by unfold okCs; trivial
theorem okC_if {t : Tst} {th el : List Cmd} (h : okT t) (h1 : okCs th) (h2 : okCs el) : okC (.mk 2 [] t th el) := by unfold okC; exact .inl ⟨rfl, rfl, h, h1, h2⟩
end Go.Proofs.YtgmnoemkdigafaaDoor
namespace Go.Proofs.YtgmnoemkdigafaaDoor
open Go.RowKit
set_option linter.unusedVariables false

theorem info_tok : (Tryd.prog.info? 45).map (fun i => (i.zero, i.size, i.bytes)) = some (some (.agg #[.int .i64 0, .string ⟨#[]⟩, .int .i64 0]), 3, 32) := by kernel_rfl
def tokCells (l : List Tok) : List Value := l.flatMap fun t => [.int .i64 t.kind, .string t.text, .int .i64 t.num]
theorem tokCells_append (l : List Tok) (t : Tok) : tokCells (l ++ [t]) = tokCells l ++ [.int .i64 t.kind, .string t.text, .int .i64 t.num] := by simp [tokCells]
/-- The writer's block, whose tokens lie in a row of its own. -/
structure Wr (B : Nat) (W : World) (c : Nat) (l : List Tok) : Prop where
  ge : B ≤ c
  at_ : ∃ v, Bk W c [v] 68 ∧ W.ownsRow B 45 3 v l.length (tokCells l)
/-- What a writer leaves as it is. -/
structure Tw (B : Nat) (W W' : World) : Prop where
  below : Below B W W'
  bk : ∀ q cs t, Bk W q cs t → t ≠ 45 → t ≠ 68 → Bk W' q cs t
theorem Tw.trans {B : Nat} {x y z : World} (h : Tw B x y) (k : Tw B y z) : Tw B x z := ⟨h.below.trans k.below, fun q cs t hb h1 h2 => k.bk q cs t (h.bk q cs t hb h1 h2) h1 h2⟩
theorem Tw.refl (B : Nat) (x : World) : Tw B x x := ⟨Below.refl _ _, fun _ _ _ h _ _ => h⟩
theorem Wr.later {B : Nat} {W W' : World} {c : Nat} {l : List Tok} (h : Wr B W c l) (hb : Below W.heap.size W W') : Wr B W' c l := by
  obtain ⟨h1, v, h2, h3⟩ := h
  exact ⟨h1, v, h2.later hb, row_later hb h3⟩
theorem tw_later {B : Nat} {W W' : World} (hB : B ≤ W.heap.size) (hb : Below W.heap.size W W') : Tw B W W' := ⟨hb.mono hB, fun _ _ _ h _ _ => h.later hb⟩
theorem own_sl {w : World} {base e size n : Nat} {v : Value} {xs : List Value} (h : w.ownsRow base e size v n xs) : ∃ A c, v = .slice A n c := by
  rcases h.2 with ⟨h1, h2⟩ | ⟨g, cap, cur, h1, _⟩
  · exact ⟨none, 0, by rw [h1, h2]⟩
  · exact ⟨_, _, h1⟩
/-- A block of another type is not the row's. -/
theorem row_other {W : World} {B e s n q : Nat} {v : Value} {xs cs : List Value} {t : TypeId} (h : W.ownsRow B e s v n xs) (hb : Bk W q cs t) (hne : t ≠ e) : some q ≠ v.ownBlock := by
  intro e1
  rcases h.2 with ⟨rfl, _⟩ | ⟨g, cap, cur, rfl, _, hg, _⟩
  · cases e1
  · obtain rfl : q = g := Option.some.inj e1
    unfold Bk at hb
    rw [hg] at hb
    have := Option.some.inj hb
    simp only [Obj.cells.injEq] at this
    exact hne this.2.1.symm
set_option maxRecDepth 100000 in
set_option maxHeartbeats 4000000 in
theorem put_calls (B c : Nat) (l : List Tok) (k : Int) (s : ByteArray) (W : World) (h : Wr B W c l) (hl : l.length ≤ 1000000) :
    Calls Tryd.prog 43 #[.pointer (some ⟨c, 0, none⟩), .int .i64 k, .string s] W fun e W' => e = .returned (.tuple #[]) ∧ Wr B W' c (l ++ [⟨k, s, 0⟩]) ∧ Tw B W W' := by
  obtain ⟨hge, v, hb, hrow⟩ := h
  obtain ⟨i0, hi, hz0, hz1, hz2⟩ := info_parts info_tok
  have hbl := hb.lt
  have hBs : B ≤ W.heap.size := by omega
  have c0 := hb.cell 0 _ rfl
  have hfin : ∀ (v' : Value) (w1 : World), w1.ownsRow B 45 3 v' (l.length + 1) (tokCells l ++ [.int .i64 k, .string s, .int .i64 0]) → (W.alloc (.cells #[.int .i64 k, .string s, .int .i64 0] 45)).grownBy w1 v.ownBlock → w1.cell? ⟨c, 0, none⟩ = some v ∧ w1.frozen? ⟨c, 0, none⟩ = false ∧ Hid (Wr B (w1.setCell ⟨c, 0, none⟩ v') c (l ++ [⟨k, s, 0⟩]) ∧ Tw B W (w1.setCell ⟨c, 0, none⟩ v')) := fun v' w1 hown hgr => by
    have hb1 : Bk w1 c [v] 68 := (hb.alloc _).grown hgr (row_other hrow hb (by decide))
    refine ⟨hb1.cell 0 _ rfl, hb1.frozen 0, Lib.hid ⟨⟨hge, v', hb1.set 0 v', ?_⟩, (below_append (Below.refl B W) hBs hrow hgr).setCell (p := ⟨c, 0, none⟩) hge v', fun q cs t hq h1 h2 => ?_⟩⟩
    · rw [tokCells_append, List.length_append]
      exact own_set hown hb1 (by decide) 0 v'
    · have hq1 : Bk w1 q cs t := (hq.alloc _).grown hgr (row_other hrow hq h1)
      refine hq1.other ?_ 0 v'
      rintro rfl
      unfold Bk at hq1 hb1
      rw [hb1] at hq1
      have := Option.some.inj hq1
      simp only [Obj.cells.injEq] at this
      exact h2 this.2.1.symm
  have Hfin := Lib.hid hfin
  have Hrow := Lib.hid hrow
  have hrow2 := hrow
  clear hfin hb
  go_enter Tryd.func43, Tryd.ntmps43
  have hnw := new_cells W [.int .i64 k, .string s, .int .i64 0] 45
  go_wp2_with (at_builtin; refine wpList_append_own _ rfl _ _ 41 rfl B 45 i0 (.agg #[.int .i64 0, .string ⟨#[]⟩, .int .i64 0]) 3 32 Tryd.underlying41 hi hz0 hz1 hz2 rfl (by decide) _ _ _ rfl (hrow2.alloc _) ⟨W.heap.size, 0, none⟩ 1 1 [.int .i64 k, .string s, .int .i64 0] rfl rfl hnw (by simp [Value.oneCell']) (by unfold maxLen; omega) (by omega) (by simp; omega) ?_; intro v' w3 hown' hgrow _; obtain ⟨A5, c5, rfl⟩ := own_sl hown'; obtain ⟨d0, d1, Hf⟩ := Hfin.out _ w3 hown' hgrow; clear hgrow hnw hown' hrow2)
  go_end0
  exact ⟨rfl, Hf.out.1, Hf.out.2⟩
end Go.Proofs.YtgmnoemkdigafaaDoor
namespace Go.Proofs.YtgmnoemkdigafaaDoor
open Go.RowKit

def marks : List UInt8 := [33, 35, 36, 37, 38, 39, 42, 43, 45, 47, 61, 63, 94, 95, 123, 124, 125, 126, 96]
/-- May a byte be in an atom? -/
def atomB (c : UInt8) : Bool := (97 ≤ c && c ≤ 122) || (65 ≤ c && c ≤ 90) || (48 ≤ c && c ≤ 57) || marks.contains c
theorem indexByte_iff (c : UInt8) : ∀ l : List UInt8, decide ((0 : Int) ≤ Lib.indexByte l c) = l.contains c
  | [] => rfl
  | b :: l => by
    have ih := indexByte_iff c l
    have hg := Lib.indexByte_ge l c
    rw [Lib.indexByte, List.contains_cons]
    by_cases h : b = c
    · subst h; simp
    · have h1 : (b == c) = false := by simpa using h
      have h2 : (c == b) = false := by simpa using fun e : c = b => h e.symm
      rw [h1, h2, Bool.false_or, ← ih]
      simp only [Bool.false_eq_true, if_false]
      by_cases hm : Lib.indexByte l c = -1
      · rw [hm]; rfl
      · rw [if_neg (by simpa using hm)]
        rw [Bool.eq_iff_iff, decide_eq_true_iff, decide_eq_true_iff]
        omega

/-- A text cut at its dots. -/
def segs : List UInt8 → List (List UInt8)
  | [] => [[]]
  | c :: l => if c = 46 then [] :: segs l else match segs l with
    | x :: xs => (c :: x) :: xs
    | [] => [[c]]
theorem segs_ne (l : List UInt8) : segs l ≠ [] := by
  cases l with
  | nil => simp [segs]
  | cons c l =>
    rw [segs]
    split
    · simp
    · split <;> simp

theorem index_dot (b : UInt8) (l : List UInt8) : Lib.index (b :: l) [46] = if b = 46 then 0 else if Lib.index l [46] = -1 then -1 else Lib.index l [46] + 1 := by
  rw [Lib.index]
  by_cases h : b = 46
  · subst h; simp [List.isPrefixOf]
  · have h' : ¬ (46 : UInt8) = b := fun e => h e.symm
    simp [List.isPrefixOf, h, h']

theorem splitK_dot : ∀ (l : List UInt8) (k : Nat), l.count 46 ≤ k → Lib.splitK [46] 0 k l = segs l
  | [], k, _ => by
    cases k with
    | zero => rfl
    | succ k => simp [Lib.splitK, Lib.index, segs]
  | b :: l, k, hk => by
    by_cases h : b = 46
    · subst h
      rw [List.count_cons_self] at hk
      obtain ⟨k, rfl⟩ : ∃ m, k = m + 1 := ⟨k - 1, by omega⟩
      have ih := splitK_dot l k (by omega)
      have hi : Lib.index (46 :: l) [46] = 0 := by rw [index_dot, if_pos rfl]
      rw [Lib.splitK, hi, segs, if_pos rfl, ← ih]
      simp
    · rw [List.count_cons_of_ne h] at hk
      have ih := splitK_dot l k hk
      rw [segs, if_neg h, ← ih]
      cases k with
      | zero => rfl
      | succ k =>
        have hge := Lib.index_ge l [46]
        by_cases hm : Lib.index l [46] = -1
        · have hi : Lib.index (b :: l) [46] = -1 := by rw [index_dot, if_neg h, if_pos hm]
          simp [Lib.splitK, hi, hm]
        · have hi : Lib.index (b :: l) [46] = Lib.index l [46] + 1 := by rw [index_dot, if_neg h, if_neg hm]
          have e1 : (Lib.index l [46] + 1 == -1) = false := by rw [beq_eq_false_iff_ne]; omega
          have e2 : (Lib.index l [46] == -1) = false := by rw [beq_eq_false_iff_ne]; omega
          have e3 : (Lib.index l [46] + 1).toNat = (Lib.index l [46]).toNat + 1 := by omega
          have e4 : (Lib.index l [46]).toNat + 1 + 1 = ((Lib.index l [46]).toNat + 1) + 1 := rfl
          simp [Lib.splitK, hi, e1, e2, e3]

theorem countFrom_dot : ∀ (l : List UInt8) (n : Nat), l.length < n → Lib.countFrom [46] n l = l.count 46
  | [], n, hn => by
    cases n with
    | zero => simp at hn
    | succ n => simp [Lib.countFrom, Lib.index]
  | b :: l, n, hn => by
    obtain ⟨n, rfl⟩ : ∃ m, n = m + 1 := ⟨n - 1, by simp at hn; omega⟩
    by_cases h : b = 46
    · subst h
      have ih := countFrom_dot l n (by simp at hn; omega)
      have hi : Lib.index (46 :: l) [46] = 0 := by rw [index_dot, if_pos rfl]
      rw [List.count_cons_self, Lib.countFrom, hi, ← ih]
      simp
      omega
    · have ih := countFrom_dot l (n + 1) (by simp at hn; omega)
      rw [List.count_cons_of_ne h, ← ih]
      have hge := Lib.index_ge l [46]
      by_cases hm : Lib.index l [46] = -1
      · have hi : Lib.index (b :: l) [46] = -1 := by rw [index_dot, if_neg h, if_pos hm]
        simp [Lib.countFrom, hi, hm]
      · have hi : Lib.index (b :: l) [46] = Lib.index l [46] + 1 := by rw [index_dot, if_neg h, if_neg hm]
        have e1 : (Lib.index l [46] + 1 == -1) = false := by rw [beq_eq_false_iff_ne]; omega
        have e2 : (Lib.index l [46] == -1) = false := by rw [beq_eq_false_iff_ne]; omega
        have e3 : (Lib.index l [46] + 1).toNat = (Lib.index l [46]).toNat + 1 := by omega
        simp [Lib.countFrom, hi, e1, e2, e3]

def dotS : ByteArray := ⟨#[46]⟩
theorem splitB_segs (s : ByteArray) : (Lib.splitB dotS 0 (Lib.countB s dotS) s).map bs = segs (bs s) := by
  have h := Lib.splitB_data dotS 0 (Lib.countB s dotS) s
  have h2 : Lib.countB s dotS = (bs s).count 46 := by
    show Lib.countFrom [46] ((bs s).length + 1) (bs s) = _
    exact countFrom_dot _ _ (by omega)
  rw [h2] at h
  have h3 := splitK_dot (bs s) ((bs s).count 46) (Nat.le_refl _)
  rw [h2]
  exact h.trans h3

/-- Atoms with dots between. -/
def dotted (l : List UInt8) : Bool := (segs l).all fun p => !p.isEmpty && p.all atomB

/-- The word of raw bytes. -/
def wordL (l : List UInt8) : List UInt8 := if l = [] then [120] else (l.take 8).map fun c => 97 + c % 26

theorem atom_no_dot {c : UInt8} (h : atomB c = true) : c ≠ 46 := by
  rintro rfl
  exact absurd h (by decide)
theorem segs_plain : ∀ l : List UInt8, (∀ c ∈ l, c ≠ 46) → segs l = [l]
  | [], _ => rfl
  | c :: l, h => by
    rw [segs, if_neg (h c List.mem_cons_self), segs_plain l (fun d hd => h d (List.mem_cons_of_mem _ hd))]
theorem segs_dot : ∀ (a b : List UInt8), (∀ c ∈ a, c ≠ 46) → segs (a ++ 46 :: b) = a :: segs b
  | [], b, _ => by rw [List.nil_append, segs, if_pos rfl]
  | c :: a, b, h => by
    rw [List.cons_append, segs, if_neg (h c List.mem_cons_self), segs_dot a b (fun d hd => h d (List.mem_cons_of_mem _ hd))]
theorem dotted_plain {l : List UInt8} (h : l.all atomB = true) (h0 : l ≠ []) : dotted l = true := by
  have h1 := List.all_eq_true.1 h
  unfold dotted
  rw [segs_plain l (fun c hc => atom_no_dot (h1 c hc)), List.all_cons, h]
  cases l with
  | nil => exact absurd rfl h0
  | cons c l => rfl
theorem dotted_cons {a b : List UInt8} (h : a.all atomB = true) (h0 : a ≠ []) : dotted (a ++ 46 :: b) = dotted b := by
  have h1 := List.all_eq_true.1 h
  unfold dotted
  rw [segs_dot a b (fun c hc => atom_no_dot (h1 c hc)), List.all_cons, h]
  cases a with
  | nil => exact absurd rfl h0
  | cons c l => rfl
def byteW (c : UInt8) : UInt8 := 97 + c % 26
theorem byteW_atom (c : UInt8) : atomB (byteW c) = true := by
  have h : ∀ n : Fin 256, atomB (byteW (UInt8.ofNat n.val)) = true := by decide +kernel
  have := h ⟨c.toNat, c.toNat_lt⟩
  simpa using this
theorem wordL_atom (l : List UInt8) : (wordL l).all atomB = true := by
  unfold wordL
  split
  · decide
  · rw [List.all_map, List.all_eq_true]
    exact fun c _ => byteW_atom c
theorem wordL_len (l : List UInt8) : 1 ≤ (wordL l).length ∧ (wordL l).length ≤ 8 := by
  unfold wordL
  split
  · decide
  · rename_i h
    have := List.length_pos_iff.2 h
    rw [List.length_map, List.length_take]; omega
theorem wordL_ne (l : List UInt8) : wordL l ≠ [] := by
  intro h
  have := (wordL_len l).1
  rw [h] at this
  simp at this
/-- The domain that raw bytes make. -/
def orgL (l : List UInt8) : List UInt8 := wordL l ++ [46, 111, 114, 103]
theorem dotted_word (l : List UInt8) : dotted (wordL l) = true := dotted_plain (wordL_atom l) (wordL_ne l)
theorem dotted_org (l : List UInt8) : dotted (orgL l) = true := by
  unfold orgL
  rw [dotted_cons (wordL_atom l) (wordL_ne l)]
  decide
end Go.Proofs.YtgmnoemkdigafaaDoor
namespace Go.Proofs.YtgmnoemkdigafaaDoor
open Go.RowKit

/-- A number from 0 to m - 1. -/
def pickN (n m : Int) : Nat := (if n < 0 then (-(n + 1)).tmod m else n.tmod m).toNat
theorem pickN_lt (n m : Int) (hm : 0 < m) : (pickN n m : Int) < m := by
  unfold pickN
  split
  · have h1 := Int.tmod_lt_of_pos (-(n + 1)) hm
    omega
  · have h1 := Int.tmod_lt_of_pos n hm
    omega
set_option maxHeartbeats 1000000 in
theorem picked_calls (n m : Int) (w : World) (hn : (Lit.int .i64 n).wf = true) (hm : 0 < m) (hm2 : m ≤ 9223372036854775807) :
    Calls Tryd.prog 13 #[.int .i64 n, .int .i64 m] w fun e w' => e = .returned (.int .i64 (pickN n m)) ∧ w = w' := by
  have hb := bounds_i64 hn
  obtain ⟨b1, b2⟩ := hb
  by_cases h : n < 0
  · have hv : (pickN n m : Int) = (-(n + 1)).tmod m := by
      have := Int.tmod_nonneg m (show 0 ≤ -(n + 1) by omega)
      unfold pickN; rw [if_pos h]; omega
    have Hv := Lib.hid hv
    clear hv hn
    go_enter Tryd.func13, Tryd.ntmps13
    go_wp2
    go_ret
    exact ⟨by rw [Hv.out, Int.neg_tmod]; rfl, rfl⟩
  · have hv : (pickN n m : Int) = n.tmod m := by
      have := Int.tmod_nonneg m (show 0 ≤ n by omega)
      unfold pickN; rw [if_neg h]; omega
    have Hv := Lib.hid hv
    clear hv hn
    go_enter Tryd.func13, Tryd.ntmps13
    go_wp2
    go_ret
    exact ⟨by rw [Hv.out, Int.tmod_eq_emod_of_nonneg h]; rfl, rfl⟩
end Go.Proofs.YtgmnoemkdigafaaDoor
namespace Go.Proofs.YtgmnoemkdigafaaDoor
open Go.RowKit
theorem frozen_later {w w' : World} {a : Addr} {v : Value} (hb : Below w.heap.size w w') (h : w.cell? a = some v) (hf : w.frozen? a = false) : w'.frozen? a = false := by
  obtain ⟨o, ho, _⟩ := cells_of_cell h
  exact (hb.frozen (p := a) (Array.getElem?_eq_some_iff.1 ho).1).trans hf
end Go.Proofs.YtgmnoemkdigafaaDoor
namespace Go.Proofs.YtgmnoemkdigafaaDoor
open Go.RowKit

theorem byteW_nat (c : UInt8) : ((byteW c).toNat : Int) = 97 + (c.toNat : Int) % 26 := by
  have h : (byteW c).toNat = 97 + c.toNat % 26 := by
    unfold byteW
    rw [UInt8.toNat_add, UInt8.toNat_mod]
    have : c.toNat % 26 < 26 := Nat.mod_lt _ (by decide)
    simp
    omega
  rw [h]; omega
theorem info_u8w : (Tryd.prog.info? 5).map (fun i => (i.zero, i.size, i.bytes)) = some (some (.int .u8 0), 1, 1) := by kernel_rfl

set_option maxHeartbeats 2000000 in
set_option maxRecDepth 100000 in
theorem word_calls (s : ByteArray) (hs : s.size ≤ 9223372036854775807) (w : World) :
    Calls Tryd.prog 30 #[.string s] w fun e w' => e = .returned (.string (mkS (wordL (bs s)))) ∧ Below w.heap.size w w' := by
  obtain ⟨i0, hi, hz0, hz1, hz2⟩ := info_parts info_u8w
  go_enter Tryd.func30, Tryd.ntmps30
  go_wp2
  go_loopw [3, 4] (fun v i wr => ∃ k : Nat, k ≤ s.size ∧ k ≤ 8 ∧ i = .int .i64 k ∧ wr.ownsRow w.heap.size 5 1 v (((bs s).take k).map byteW).length (u8s (((bs s).take k).map byteW)) ∧ Below w.heap.size w wr) (fun _ i _ => 8 - (intOf i).toNat)
  case atStart => exact ⟨0, Nat.zero_le _, Nat.zero_le _, rfl, World.ownsRow_nil _ _ _ _, Below.refl _ _⟩
  case round =>
    obtain ⟨k, hk, hk8, rfl, hrow, hb⟩ := hrel
    have hml : (((bs s).take k).map byteW).length = k := by rw [List.length_map, List.length_take, bs_len, Nat.min_eq_left hk]
    by_cases hlt : k < s.size ∧ k < 8
    · obtain ⟨hlt1, hlt2⟩ := hlt
      have Hml := Lib.hid hml
      have hlm : (((bs s).take k).map byteW).length ≤ k := Nat.le_of_eq hml
      clear hml
      have hbw := byteW_nat s[k]
      have hcs := s[k].toNat_lt
      have hnew : ((bs s).take (k + 1)).map byteW = ((bs s).take k).map byteW ++ [byteW s[k]] := by rw [take_snoc s k hlt1, List.map_append]; rfl
      have Hbw := Lib.hid hbw
      have Hnew := Lib.hid hnew
      clear hbw hnew
      go_wp2_with (at_builtin; refine wpList_append_own _ rfl _ _ 99 rfl w.heap.size 5 i0 (.int .u8 0) 1 1 Tryd.underlying99 hi hz0 hz1 hz2 rfl (by decide) _ _ _ rfl (hrow.alloc _) ⟨wr.heap.size, 0, none⟩ 1 1 [.int .u8 (97 + (s[k].toNat : Int) % 26)] rfl rfl (new_cells _ [.int .u8 (97 + (s[k].toNat : Int) % 26)] _) (by simp [Value.oneCell']) (by unfold maxLen; omega) (by omega) (by have := hb.size; simp; omega) ?_; intro v' w1 hown' hgrow _)
      go_roundw
      case rel => exact ⟨k + 1, by omega, by omega, by go_num, by rw [Hnew.out, u8s_append, List.length_append]; rw [← Hbw.out] at hown'; exact hown', below_append hb hb.size hrow hgrow⟩
      case measure => simp [intOf]; omega
    · have htk : (bs s).take k = (bs s).take 8 := by
        by_cases h8 : k = 8
        · rw [h8]
        · have hk2 : k = s.size := by omega
          rw [hk2, take_full, List.take_of_length_le (by rw [bs_len]; omega)]
      by_cases h0 : k = 0
      · subst h0
        have hse : s.size = 0 := by omega
        have hr : wordL (bs s) = [120] := by
          rw [List.length_eq_zero_iff.1 (show (bs s).length = 0 from hse)]; rfl
        have Hr := Lib.hid hr
        obtain ⟨g, c, rfl⟩ : ∃ g c, u3 = .slice g 0 c := by
          rcases hrow.2 with ⟨h, _⟩ | ⟨g, cap, cur, h, _⟩
          · exact ⟨_, _, h⟩
          · exact ⟨_, _, h⟩
        clear hr hml htk
        go_wp2
        go_ret
        exact ⟨by rw [Hr.out]; rfl, hb⟩
      · have hr : wordL (bs s) = ((bs s).take k).map byteW := by
          unfold wordL
          rw [if_neg (by intro h; have h2 : (bs s).length = 0 := by rw [h]; rfl
                         rw [bs_len] at h2; omega), htk]; rfl
        rw [← hr] at hrow
        have hconv := conv_own Tryd.underlying99 Tryd.underlying5 Tryd.underlying9 hrow
        have hlen : (wordL (bs s)).length ≠ 0 := by rw [hr, hml]; exact h0
        obtain ⟨g, c, rfl⟩ : ∃ g c, u3 = .slice g (wordL (bs s)).length c := by
          rcases hrow.2 with ⟨rfl, h⟩ | ⟨g, cap, cur, h, _⟩
          · exact absurd h hlen
          · exact ⟨_, _, h⟩
        have hne : (((wordL (bs s)).length : Int) == 0) = false := by rw [beq_eq_false_iff_ne]; omega
        clear hr hml htk hlen
        generalize hwl : wordL (bs s) = wl at *
        have Hwl := Lib.hid hwl
        clear hwl
        go_wp2
        all_goals
          go_ret
          exact ⟨by rw [Hwl.out]; rfl, hb⟩

end Go.Proofs.YtgmnoemkdigafaaDoor
namespace Go.Proofs.YtgmnoemkdigafaaDoor
open Go.RowKit

def cutS (s : ByteArray) (n : Nat) : ByteArray := mkS ((bs s).take n)
theorem cutS_extract (s : ByteArray) (n : Nat) : s.extract 0 n = cutS s n := by rw [extract_mkS, List.drop_zero]; rfl
theorem cutS_all (s : ByteArray) (n : Nat) (h : s.size ≤ n) : cutS s n = s := by rw [← cutS_extract, extract_all s n h]
theorem cutS_size (s : ByteArray) (n : Nat) : (cutS s n).size ≤ n := by unfold cutS; rw [mkS_size, List.length_take]; omega
theorem cut_calls (s : ByteArray) (n : Int) (hn : 0 ≤ n) (hs : s.size ≤ 9223372036854775807) (w : World) :
    Calls Tryd.prog 46 #[.string s, .int .i64 n] w fun e w' => e = .returned (.string (cutS s n.toNat)) ∧ w = w' := by
  by_cases h : n < s.size
  · rw [← cutS_extract]
    go_enter Tryd.func46, Tryd.ntmps46
    go_wp2
    go_ret
    exact ⟨rfl, rfl⟩
  · rw [cutS_all s n.toNat (by omega)]
    go_enter Tryd.func46, Tryd.ntmps46
    go_wp2
    go_ret
    exact ⟨rfl, rfl⟩
end Go.Proofs.YtgmnoemkdigafaaDoor
namespace Go.Proofs.YtgmnoemkdigafaaDoor
open Go.RowKit
set_option linter.unusedVariables false

inductive Stk where
  | mk (kind a b : Int) (s t : ByteArray) (inn : List Stk)
def shortS (s : ByteArray) : ByteArray := cutS s 12
def wordS (s : ByteArray) : ByteArray := mkS (wordL (bs s))
/-- The names that a header's test may have; an envelope's; one that exists. -/
def hdrN (b : Int) : ByteArray := mkS (([[115, 117, 98, 106, 101, 99, 116], [116, 111], [102, 114, 111, 109], [120]] : List (List UInt8)).getD (pickN b 4) [])
def envN (b : Int) : ByteArray := mkS (([[102, 114, 111, 109], [116, 111]] : List (List UInt8)).getD (pickN b 2) [])
def exiN (a : Int) : ByteArray := mkS (([[115, 117, 98, 106, 101, 99, 116], [116, 111], [99, 99]] : List (List UInt8)).getD (pickN a 3) [])
def keysT (a : Int) (s t : ByteArray) : List ByteArray := if pickN a 2 = 1 then [shortS s, shortS t] else [shortS s]
def namesE (a b : Int) (s : ByteArray) : List ByteArray := [exiN a, wordS s].take (1 + pickN b 2)
/-- A test that asks for no other ones. -/
def leafT (k : Int) : Stk → Tst
  | .mk _ a b s t _ =>
    if k = 6 then .mk 6 (1 + pickN a 3) 0 [hdrN b] (keysT a s t) false 0 []
    else if k = 7 then .mk 7 (1 + pickN a 3) (1 + pickN b 3) [hdrN b] (keysT a s t) false 0 []
    else if k = 8 then .mk 8 (1 + pickN a 3) (1 + pickN b 3) [envN b] (keysT a s t) false 0 []
    else if k = 9 then .mk 9 0 0 (namesE a b s) [] false 0 []
    else if k = 10 then .mk 10 0 0 [] [] (decide (pickN a 2 = 1)) (pickN b 400) []
    else .mk k 0 0 [] [] false 0 []
/-- A stick's kind of test: 0 to 9, and one more. -/
def Stk.k0 : Stk → Int
  | .mk k _ _ _ _ _ => 1 + pickN k 10
def Stk.fst : Stk → Stk
  | .mk _ a _ _ _ inn => match inn with
    | [] => .mk a 0 0 (mkS []) (mkS []) []
    | x :: _ => x
def Stk.inn : Stk → List Stk
  | .mk _ _ _ _ _ l => l
def Stk.a : Stk → Int
  | .mk _ a _ _ _ _ => a
/-- The test of a stick, that may have tests of its own n deep. -/
def testN : Nat → Stk → Tst
  | 0, x => leafT (if 3 ≤ x.k0 ∧ x.k0 ≤ 5 then 1 else x.k0) x
  | n + 1, x =>
    if x.k0 = 3 then .mk 3 0 0 [] [] false 0 [testN n x.fst]
    else if 3 ≤ x.k0 ∧ x.k0 ≤ 5 then .mk x.k0 0 0 [] [] false 0 (if x.inn = [] then [.mk (1 + pickN x.a 2) 0 0 [] [] false 0 []] else (x.inn.take 3).map (testN n))
    else leafT x.k0 x
theorem keysT_len (a : Int) (s t : ByteArray) : 0 < (keysT a s t).length ∧ (keysT a s t).length ≤ 2 := by
  unfold keysT; split <;> simp
theorem namesE_len (a b : Int) (s : ByteArray) : 0 < (namesE a b s).length ∧ (namesE a b s).length ≤ 2 := by
  unfold namesE; rw [List.length_take]; simp only [List.length_cons, List.length_nil]; omega
theorem okT_mk {k m p lm : Int} {ns ks : List ByteArray} {o : Bool} {ts : List Tst} (h1 : 1 ≤ k) (h2 : k ≤ 10) (h3 : formT k m p ns.length ks.length o lm ts.length = true) (h4 : okTs ts) : okT (.mk k m p ns ks o lm ts) := by
  unfold okT; exact ⟨h1, h2, h3, h4⟩
theorem okTs_nil : okTs [] := by unfold okTs; trivial
theorem okT_leafT (k : Int) (h1 : 1 ≤ k) (h2 : k ≤ 10) (h3 : ¬ (3 ≤ k ∧ k ≤ 5)) (x : Stk) : okT (leafT k x) := by
  obtain ⟨k', a, b, s, t, inn⟩ := x
  have ha := pickN_lt a 3 (by decide)
  have hb := pickN_lt b 3 (by decide)
  have hl := pickN_lt b 400 (by decide)
  obtain ⟨y1, y2⟩ := keysT_len a s t
  obtain ⟨z1, z2⟩ := namesE_len a b s
  unfold leafT
  dsimp only
  split
  · refine okT_mk (by decide) (by decide) ?_ okTs_nil
    generalize (keysT a s t).length = n at *
    generalize pickN a 3 = q at *
    unfold formT; simp; omega
  split
  · refine okT_mk (by decide) (by decide) ?_ okTs_nil
    generalize (keysT a s t).length = n at *
    generalize pickN a 3 = q at *
    generalize pickN b 3 = r at *
    unfold formT; simp; omega
  split
  · refine okT_mk (by decide) (by decide) ?_ okTs_nil
    generalize (keysT a s t).length = n at *
    generalize pickN a 3 = q at *
    generalize pickN b 3 = r at *
    unfold formT; simp; omega
  split
  · refine okT_mk (by decide) (by decide) ?_ okTs_nil
    generalize (namesE a b s).length = n at *
    unfold formT; simp; omega
  split
  · refine okT_mk (by decide) (by decide) ?_ okTs_nil
    generalize pickN b 400 = n at *
    unfold formT; simp; omega
  · refine okT_mk h1 h2 ?_ okTs_nil
    unfold formT; simp; omega
theorem okTs_map {α : Type} (f : α → Tst) (h : ∀ x, okT (f x)) : ∀ l : List α, okTs (l.map f)
  | [] => okTs_nil
  | x :: l => by
    rw [List.map_cons]; unfold okTs
    exact ⟨h x, okTs_map f h l⟩
theorem k0_le (x : Stk) : 1 ≤ x.k0 ∧ x.k0 ≤ 10 := by
  obtain ⟨k, _⟩ := x
  have := pickN_lt k 10 (by decide)
  show 1 ≤ 1 + (pickN k 10 : Int) ∧ 1 + (pickN k 10 : Int) ≤ 10
  omega
theorem okT_testN : ∀ (n : Nat) (x : Stk), okT (testN n x)
  | 0, x => by
    obtain ⟨h1, h2⟩ := k0_le x
    unfold testN
    exact okT_leafT _ (by split <;> omega) (by split <;> omega) (by split <;> omega) x
  | n + 1, x => by
    obtain ⟨h1, h2⟩ := k0_le x
    unfold testN
    split
    · refine okT_mk (by decide) (by decide) rfl ?_
      unfold okTs; exact ⟨okT_testN n _, okTs_nil⟩
    split
    · rename_i h3 h4
      refine okT_mk h1 h2 ?_ ?_
      · have hp : 0 < (if x.inn = [] then [(.mk (1 + pickN x.a 2) 0 0 [] [] false 0 [] : Tst)] else (x.inn.take 3).map (testN n)).length := by
          split
          · simp
          · rename_i h
            rw [List.length_map, List.length_take]
            have : 0 < x.inn.length := List.length_pos_iff.2 h
            omega
        generalize (if x.inn = [] then [(.mk (1 + pickN x.a 2) 0 0 [] [] false 0 [] : Tst)] else (x.inn.take 3).map (testN n)).length = q at *
        unfold formT
        simp only [List.length_nil]
        rw [if_pos h4]
        simp [h3, hp, show ¬ (6 ≤ x.k0) by omega]
        omega
      · split
        · unfold okTs
          have := pickN_lt x.a 2 (by decide)
          refine ⟨okT_mk (by omega) (by omega) ?_ okTs_nil, okTs_nil⟩
          unfold formT; simp; omega
        · exact okTs_map _ (okT_testN n) _
    · exact okT_leafT _ h1 h2 (by omega) x
/-- How many tokens a stick's test has, at most. -/
def maxTk : Nat → Nat
  | 0 => 12
  | n + 1 => 3 * (1 + maxTk n) + 2
theorem listTk_le2 (l : List ByteArray) (h : l.length ≤ 2) : (listTk l).length ≤ 5 := by
  match l, h with
  | [], _ => simp [listTk, listTks]
  | [s], _ => simp [listTk]
  | [a, b], _ => simp [listTk, listTks]
theorem leafTk_le (k : Int) (h3 : ¬ (3 ≤ k ∧ k ≤ 5)) (h1 : 1 ≤ k) (h2 : k ≤ 10) (x : Stk) : (testTk (leafT k x)).length ≤ 12 := by
  obtain ⟨k', a, b, s, t, inn⟩ := x
  have y := listTk_le2 _ (keysT_len a s t).2
  have z := listTk_le2 _ (namesE_len a b s).2
  have e1 : (listTk [hdrN b]).length = 1 := rfl
  have e2 : (listTk [envN b]).length = 1 := rfl
  unfold leafT
  dsimp only
  split
  · rw [testTk]; simp [e1]; omega
  split
  · rw [testTk]; simp [e1]; omega
  split
  · rw [testTk]; simp [e2]; omega
  split
  · rw [testTk]; simp; omega
  split
  · rw [testTk]; simp
  · rw [testTk]
    rw [if_neg (by omega), if_neg (by omega), if_neg (by omega), if_neg (by omega)]
    simp
theorem testsTk_le (M : Nat) : ∀ (l : List Tst) (i : Nat), (∀ t ∈ l, (testTk t).length ≤ M) → (testsTk i l).length ≤ l.length * (M + 1)
  | [], i, _ => by simp [testsTk]
  | t :: l, i, h => by
    have h1 := testsTk_le M l (i + 1) (fun t ht => h t (by simp [ht]))
    have h2 := h t (by simp)
    rw [testsTk]
    simp only [List.length_cons, List.length_append]
    rw [Nat.add_mul]; omega
theorem maxTk_ge : ∀ n, 12 ≤ maxTk n
  | 0 => by simp [maxTk]
  | n + 1 => by
    have := maxTk_ge n
    simp only [maxTk]; omega
theorem testNTk_le : ∀ (n : Nat) (x : Stk), (testTk (testN n x)).length ≤ maxTk n
  | 0, x => by
    obtain ⟨h1, h2⟩ := k0_le x
    unfold testN
    exact leafTk_le _ (by split <;> omega) (by split <;> omega) (by split <;> omega) x
  | n + 1, x => by
    obtain ⟨h1, h2⟩ := k0_le x
    have hM := maxTk_ge n
    unfold testN
    split
    · rw [testTk, if_pos (.inl rfl), if_pos rfl, testsTk1]
      have := testNTk_le n x.fst
      simp only [List.length_cons, maxTk]; omega
    split
    · rename_i h3 h4
      rw [testTk, if_pos (by omega), if_neg h3]
      have hl : (if x.inn = [] then [(.mk (1 + pickN x.a 2) 0 0 [] [] false 0 [] : Tst)] else (x.inn.take 3).map (testN n)).length ≤ 3 := by
        split
        · simp
        · rw [List.length_map, List.length_take]; omega
      have hm : ∀ t ∈ (if x.inn = [] then [(.mk (1 + pickN x.a 2) 0 0 [] [] false 0 [] : Tst)] else (x.inn.take 3).map (testN n)), (testTk t).length ≤ maxTk n := by
        split
        · intro t ht
          obtain rfl := List.mem_singleton.1 ht
          have := pickN_lt x.a 2 (by decide)
          rw [testTk, if_neg (by omega), if_neg (by omega), if_neg (by omega), if_neg (by omega)]
          simp; omega
        · intro t ht
          obtain ⟨y, _, rfl⟩ := List.mem_map.1 ht
          exact testNTk_le n y
      have h5 := testsTk_le (maxTk n) _ 0 hm
      generalize (if x.inn = [] then [(.mk (1 + pickN x.a 2) 0 0 [] [] false 0 [] : Tst)] else (x.inn.take 3).map (testN n)) = l at *
      have h6 : l.length * (maxTk n + 1) ≤ 3 * (maxTk n + 1) := Nat.mul_le_mul_right _ hl
      simp only [List.length_cons, List.length_append, List.length_nil, maxTk]
      omega
    · exact Nat.le_trans (leafTk_le _ (by omega) h1 h2 x) (by simp only [maxTk]; omega)
/-- A stick in memory. -/
def StkB (k a b : Int) (s t : ByteArray) (n c : Nat) : Prop := (Lit.int .i64 k).wf = true ∧ (Lit.int .i64 a).wf = true ∧ (Lit.int .i64 b).wf = true ∧ s.size ≤ maxLen ∧ t.size ≤ maxLen ∧ n ≤ c ∧ c ≤ maxLen
mutual
def StkV (w : World) : Stk → List Value → Prop
  | .mk k a b s t inn, vs => ∃ A c, vs = [.int .i64 k, .int .i64 a, .int .i64 b, .string s, .string t, .slice A inn.length c] ∧ StksAt w inn A ∧ StkB k a b s t inn.length c
def StksAt (w : World) : List Stk → Option Addr → Prop
  | [], _ => True
  | x :: l, A => ∃ b off vs, A = some ⟨b, off, none⟩ ∧ (∀ i v, vs[i]? = some v → w.cell? ⟨b, off + i, none⟩ = some v) ∧ StkV w x vs ∧ StksAt w l (some ⟨b, off + 6, none⟩)
end
section
variable {w w' : World}
mutual
theorem stkV_later (hb : Below w.heap.size w w') : ∀ (t : Stk) (vs : List Value), StkV w t vs → StkV w' t vs
  | .mk k a b s t inn, vs, h => by
    unfold StkV at h ⊢
    obtain ⟨A, c, rfl, h1, h2⟩ := h
    exact ⟨A, c, rfl, stksAt_later hb inn A h1, h2⟩
theorem stksAt_later (hb : Below w.heap.size w w') : ∀ (l : List Stk) (A : Option Addr), StksAt w l A → StksAt w' l A
  | [], _, _ => by unfold StksAt; trivial
  | t :: l, A, h => by
    unfold StksAt at h ⊢
    obtain ⟨b, off, vs, rfl, h1, h2, h3⟩ := h
    exact ⟨b, off, vs, rfl, fun i v hi => cell_later hb (h1 i v hi), stkV_later hb t vs h2, stksAt_later hb l _ h3⟩
end
theorem stksAt_get : ∀ (l : List Stk) (b off j : Nat) (t : Stk), StksAt w l (some ⟨b, off, none⟩) → l[j]? = some t → ∃ vs, (∀ i v, vs[i]? = some v → w.cell? ⟨b, off + j * 6 + i, none⟩ = some v) ∧ StkV w t vs
  | [], b, off, j, t, h, hj => by simp at hj
  | s :: l, b, off, 0, t, h, hj => by
    unfold StksAt at h
    obtain ⟨b', off', vs, e, h1, h2, h3⟩ := h
    cases e
    simp only [List.getElem?_cons_zero, Option.some.injEq] at hj
    subst hj
    exact ⟨vs, by simpa using h1, h2⟩
  | s :: l, b, off, j + 1, t, h, hj => by
    unfold StksAt at h
    obtain ⟨b', off', vs, e, h1, h2, h3⟩ := h
    cases e
    obtain ⟨us, h4, h5⟩ := stksAt_get l b (off + 6) j t h3 (by simpa using hj)
    exact ⟨us, fun i v hi => by have := h4 i v hi; rwa [show off + (j + 1) * 6 + i = off + 6 + j * 6 + i by omega], h5⟩
end
/-- What lies from block B on is as it was. -/
def New (B : Nat) (w W : World) : Prop := ∀ k, B ≤ k → k < w.heap.size → W.heap[k]? = w.heap[k]?
theorem New.refl (B : Nat) (w : World) : New B w w := fun _ _ _ => rfl
theorem New.mono {B C : Nat} {w W : World} (h : New B w W) (hBC : B ≤ C) : New C w W := fun k h1 h2 => h k (Nat.le_trans hBC h1) h2
theorem New.of_below {B : Nat} {w W : World} (h : Below w.heap.size w W) : New B w W := fun k _ h2 => h.block k h2
theorem Bk.neu {B q : Nat} {w W : World} {cs : List Value} {t : TypeId} (h : Bk w q cs t) (hn : New B w W) (hB : B ≤ q) : Bk W q cs t := (hn q hB h.lt).trans h
theorem New.trans {B : Nat} {w x y : World} (h : New B w x) (k : New B x y) (hs : w.heap.size ≤ x.heap.size) : New B w y := fun i h1 h2 => (k i h1 (by omega)).trans (h i h1 h2)
theorem info_string : (Tryd.prog.info? 9).map (fun i => (i.zero, i.size, i.bytes)) = some (some (.string ByteArray.empty), 1, 16) := by kernel_rfl
theorem bk_ne {W : World} {q q' : Nat} {cs cs' : List Value} {t t' : TypeId} (h : Bk W q cs t) (h' : Bk W q' cs' t') (hne : t ≠ t') : q ≠ q' := by
  rintro rfl
  unfold Bk at h h'
  rw [h] at h'
  have := Option.some.inj h'
  simp only [Obj.cells.injEq] at this
  exact hne this.2.1
/-- What a row of one's own is, as a block. -/
theorem own_bk {W : World} {base e n g cap : Nat} {xs : List Value} (h : W.ownsRow base e 1 (.slice (some ⟨g, 0, none⟩) n cap) n xs) : base ≤ g ∧ n ≤ cap ∧ ∃ cs, Bk W g cs e ∧ cs.take n = xs := by
  rcases h.2 with ⟨h1, _⟩ | ⟨g', cap', cur, h1, h2, h3, h4, h5, h6, h7⟩
  · cases h1
  · simp only [Value.slice.injEq, Option.some.injEq, Addr.mk.injEq, and_true, true_and] at h1
    obtain ⟨rfl, rfl⟩ := h1
    refine ⟨h2, h4, cur.toList, ?_, by simpa using h7⟩
    show W.heap[g]? = _
    rw [h3]
theorem own_one {W : World} {base q : Nat} {v : Value} {t : TypeId} (h : Bk W q [v] t) (hq : base ≤ q) : W.ownsRow base t 1 (.slice (some ⟨q, 0, none⟩) 1 1) 1 [v] :=
  ⟨rfl, .inr ⟨q, 1, #[v], rfl, hq, h, Nat.le_refl _, by decide, rfl, rfl⟩⟩
theorem bk_newN (W : World) (n : Nat) (cs : List Value) (t : TypeId) (h : W.heap.size = n) : Bk (W.alloc (.cells cs.toArray t)) n cs t := by
  subst h
  exact Bk.new W cs t
/-- A string out of a literal list, at a place that is not known. -/
theorem cell_getD {W : World} {q : Nat} {l : List (List UInt8)} {t : TypeId} (h : Bk W q (l.map fun x => .string (mkS x)) t) (i : Nat) (hi : i < l.length) : W.cell? ⟨q, i, none⟩ = some (.string (mkS (l.getD i []))) := by
  refine h.cell i _ ?_
  rw [List.getElem?_map, List.getD_eq_getElem?_getD, List.getElem?_eq_getElem hi]; rfl
theorem getD_str (l : List (List UInt8)) (i : Nat) (hi : i < l.length) : (l.map fun x => Value.string (mkS x))[i]? = some (.string (mkS (l.getD i []))) := by
  rw [List.getElem?_map, List.getD_eq_getElem?_getD, List.getElem?_eq_getElem hi]; rfl
theorem namesE_at {W : World} {q : Nat} {a b : Int} {s : ByteArray} {t : TypeId} (h : Bk W q [.string (exiN a), .string (wordS s)] t) : TxAt W (some ⟨q, 0, none⟩) (namesE a b s) :=
  .inr ⟨q, 0, rfl, fun j s' hj => by
    unfold namesE at hj
    rw [List.getElem?_take] at hj
    split at hj
    · match j, hj with
      | 0, hj =>
        obtain rfl : exiN a = s' := by simpa using hj
        exact h.cell 0 _ rfl
      | 1, hj =>
        obtain rfl : wordS s = s' := by simpa using hj
        exact h.cell 1 _ rfl
      | j + 2, hj => simp at hj
    · cases hj⟩
theorem namesE_size (a b : Int) (s : ByteArray) : (namesE a b s).length = 1 + pickN b 2 := by
  have := pickN_lt b 2 (by decide)
  unfold namesE; rw [List.length_take]; simp only [List.length_cons, List.length_nil]; omega
/-- A row made, and named in a cell of another block. -/
theorem fin9 {w V : World} {tb rb n : Nat} {T T' R P : List Value} {tT tS : TypeId} (hT : Bk V tb T tT) (hR : Bk V rb R tT) (hB : Below w.heap.size w V) (hn : V.heap.size = n) (hne : tb ≠ rb) (htb : w.heap.size ≤ tb) (j : Nat) (v : Value) (hT' : T.set j v = T') :
    Bk ((V.alloc (.cells P.toArray tS)).setCell ⟨tb, j, none⟩ v) tb T' tT ∧ Bk ((V.alloc (.cells P.toArray tS)).setCell ⟨tb, j, none⟩ v) rb R tT ∧ Bk ((V.alloc (.cells P.toArray tS)).setCell ⟨tb, j, none⟩ v) n P tS ∧ Below w.heap.size w ((V.alloc (.cells P.toArray tS)).setCell ⟨tb, j, none⟩ v) ∧ tb < n := by
  subst hn hT'
  have hl := hT.lt
  exact ⟨(hT.alloc _).set j v, (hR.alloc _).other hne j v, (Bk.new V P tS).other (by omega) j v, (bal hB _).setCell (p := ⟨tb, j, none⟩) htb v, hl⟩
theorem short_calls (s : ByteArray) (hs : s.size ≤ 9223372036854775807) (w : World) :
    Calls Tryd.prog 29 #[.string s] w fun e w' => e = .returned (.string (shortS s)) ∧ w = w' := by
  have h := cut_calls s 12 (by decide) hs w
  have H := Lib.hid h
  clear h
  go_enter Tryd.func29, Tryd.ntmps29
  go_wp2_with fail
  refine H.out.mono ?_
  rintro e w' ⟨rfl, rfl⟩
  go_wp2_with fail
  go_ret
  exact ⟨rfl, rfl⟩
theorem txAt_one {W : World} {q : Nat} {s : ByteArray} {t : TypeId} (h : Bk W q [.string s] t) : TxAt W (some ⟨q, 0, none⟩) [s] :=
  .inr ⟨q, 0, rfl, fun j s' hj => by
    match j with
    | 0 =>
      obtain rfl : s = s' := by simpa using hj
      exact h.cell 0 _ rfl
    | j + 1 => simp at hj⟩
theorem txAt_two {W : World} {q : Nat} {s u : ByteArray} (h : W.cell? ⟨q, 0, none⟩ = some (.string s)) (h2 : W.cell? ⟨q, 1, none⟩ = some (.string u)) : TxAt W (some ⟨q, 0, none⟩) [s, u] :=
  .inr ⟨q, 0, rfl, fun j s' hj => by
    match j with
    | 0 =>
      obtain rfl : s = s' := by simpa using hj
      exact h
    | 1 =>
      obtain rfl : u = s' := by simpa using hj
      exact h2
    | j + 2 => simp at hj⟩
end Go.Proofs.YtgmnoemkdigafaaDoor
namespace Go.Proofs.YtgmnoemkdigafaaDoor
open Go.RowKit
set_option linter.unusedVariables false
set_option linter.unusedSimpArgs false

def kindsC : List Int := [3, 2, 5, 2, 6, 2, 4, 8, 9, 7, 10, 2]
def Stk.kc : Stk → Int
  | .mk k _ _ _ _ _ => kindsC.getD (pickN k 12) 0
def boxN (a : Int) : ByteArray := mkS (([[73, 78, 66, 79, 88], [119, 111, 114, 107], [106, 117, 110, 107], [110, 101, 119]] : List (List UInt8)).getD (pickN a 4) [])
def redN (a : Int) : ByteArray := mkS (([[97, 64, 98, 46, 99], [65, 110, 110, 32, 60, 97, 110, 110, 64, 120, 46, 121, 62], [98, 64, 99]] : List (List UInt8)).getD (pickN a 3) [])
def flgN (a : Int) : ByteArray := mkS (([[92, 83, 101, 101, 110], [92, 68, 114, 97, 102, 116], [92, 70, 108, 97, 103, 103, 101, 100]] : List (List UInt8)).getD (pickN a 3) [])
/-- The texts of a command that is no if. -/
def textsC (k : Int) : Stk → List ByteArray
  | .mk _ a b s t _ => if k = 5 then [boxN a] else if k = 6 then [redN a] else if k = 7 then [shortS s] else if k = 8 ∨ k = 9 then [flgN a] else []
def leafC (k : Int) (x : Stk) : Cmd := .mk k (textsC k x) zeroT [] []
/-- The stick of an if's test. -/
def Stk.tst : Stk → Stk
  | .mk _ a b s t inn => .mk a b a s t (inn.take 1)
/-- The command of a stick, that may have commands of its own n deep. -/
def cmdN : Nat → Stk → Cmd
  | 0, x => leafC (if x.kc = 2 then 3 else x.kc) x
  | n + 1, x =>
    if x.kc = 2 then .mk 2 [] (testN 2 x.tst) (((x.inn.take ((x.inn.length + 1) / 2)).take 4).map (cmdN n)) (((x.inn.drop ((x.inn.length + 1) / 2)).take 4).map (cmdN n))
    else leafC x.kc x
def cmdsN (n : Nat) (l : List Stk) : List Cmd := (l.take 4).map (cmdN n)
theorem kc_range (x : Stk) : 2 ≤ x.kc ∧ x.kc ≤ 10 := by
  obtain ⟨k, a, b, s, t, inn⟩ := x
  have h := pickN_lt k 12 (by decide)
  show 2 ≤ kindsC.getD (pickN k 12) 0 ∧ kindsC.getD (pickN k 12) 0 ≤ 10
  have h2 : ∀ i : Fin 12, 2 ≤ kindsC.getD i.val 0 ∧ kindsC.getD i.val 0 ≤ 10 := by decide
  exact h2 ⟨pickN k 12, by omega⟩
theorem okC_leafC (k : Int) (h1 : 3 ≤ k) (h2 : k ≤ 10) (x : Stk) : okC (leafC k x) := by
  obtain ⟨k', a, b, s, t, inn⟩ := x
  unfold leafC okC
  refine .inr ⟨by omega, h2, by omega, ?_, rfl, rfl, rfl⟩
  unfold textsC formC
  rcases (show k = 3 ∨ k = 4 ∨ k = 5 ∨ k = 6 ∨ k = 7 ∨ k = 8 ∨ k = 9 ∨ k = 10 by omega) with rfl | rfl | rfl | rfl | rfl | rfl | rfl | rfl <;> simp
theorem okCs_map {α : Type} (f : α → Cmd) (h : ∀ x, okC (f x)) (l : List α) : okCs (l.map f) := okCs_of _ fun c hc => by
  obtain ⟨x, _, rfl⟩ := List.mem_map.1 hc
  exact h x
theorem okC_cmdN : ∀ (n : Nat) (x : Stk), okC (cmdN n x)
  | 0, x => by
    obtain ⟨h1, h2⟩ := kc_range x
    unfold cmdN
    exact okC_leafC _ (by split <;> omega) (by split <;> omega) x
  | n + 1, x => by
    obtain ⟨h1, h2⟩ := kc_range x
    unfold cmdN
    split
    · exact okC_if (okT_testN 2 _) (okCs_map _ (okC_cmdN n) _) (okCs_map _ (okC_cmdN n) _)
    · exact okC_leafC _ (by omega) h2 x
theorem textsC_len (k : Int) (x : Stk) : (textsC k x).length ≤ 1 := by
  obtain ⟨k', a, b, s, t, inn⟩ := x
  show (if k = 5 then [boxN a] else if k = 6 then [redN a] else if k = 7 then [shortS s] else if k = 8 ∨ k = 9 then [flgN a] else []).length ≤ 1
  by_cases h5 : k = 5
  · rw [if_pos h5]; exact Nat.le_refl _
  rw [if_neg h5]
  by_cases h6 : k = 6
  · rw [if_pos h6]; exact Nat.le_refl _
  rw [if_neg h6]
  by_cases h7 : k = 7
  · rw [if_pos h7]; exact Nat.le_refl _
  rw [if_neg h7]
  by_cases h8 : k = 8 ∨ k = 9
  · rw [if_pos h8]; exact Nat.le_refl _
  rw [if_neg h8]; exact Nat.zero_le _
theorem leafCTk_le (k : Int) (hk : k ≠ 2) (x : Stk) : (cmdTk (leafC k x)).length ≤ 3 := by
  have h := textsC_len k x
  unfold leafC
  rw [cmdTk, if_neg hk]
  generalize textsC k x = l at *
  match l, h with
  | [], _ => simp
  | [s], _ => simp [listTk]
def maxC : Nat → Nat
  | 0 => 3
  | n + 1 => 10 + maxTk 2 + 8 * maxC n
theorem maxC_ge : ∀ n, 3 ≤ maxC n
  | 0 => by simp [maxC]
  | n + 1 => by simp only [maxC]; omega
theorem cmdsTk_le (M : Nat) : ∀ l : List Cmd, (∀ c ∈ l, (cmdTk c).length ≤ M) → (cmdsTk l).length ≤ l.length * M
  | [], _ => by simp [cmdsTk]
  | c :: l, h => by
    have h1 := cmdsTk_le M l (fun c hc => h c (by simp [hc]))
    have h2 := h c (by simp)
    rw [cmdsTk, List.length_append, List.length_cons, Nat.add_mul]; omega
theorem elseTk_le (l : List Cmd) : (elseTk l).length ≤ 3 + (cmdsTk l).length := by
  by_cases hl : l = []
  · subst hl; rw [elseTk_nil]; simp
  · cases h : lone l with
    | true =>
      obtain ⟨c, rfl, hk⟩ := lone_true h
      rw [elseTk_one c hk, cmdsTk_single]
      simp only [List.length_cons, List.length_tail]; omega
    | false =>
      rw [elseTk_many hl h]
      simp only [List.length_cons, List.length_append, List.length_nil]; omega
theorem cmdNTk_le : ∀ (n : Nat) (x : Stk), (cmdTk (cmdN n x)).length ≤ maxC n
  | 0, x => by
    unfold cmdN
    exact leafCTk_le _ (by split <;> omega) x
  | n + 1, x => by
    unfold cmdN
    split
    · rw [cmdTk_if]
      have h1 := testNTk_le 2 x.tst
      have hm : ∀ l : List Stk, (cmdsTk ((l.take 4).map (cmdN n))).length ≤ 4 * maxC n := fun l => by
        have h := cmdsTk_le (maxC n) ((l.take 4).map (cmdN n)) (fun c hc => by
          obtain ⟨y, _, rfl⟩ := List.mem_map.1 hc
          exact cmdNTk_le n y)
        have h4 : ((l.take 4).map (cmdN n)).length ≤ 4 := by rw [List.length_map, List.length_take]; omega
        exact Nat.le_trans h (Nat.mul_le_mul_right _ h4)
      have h2 := hm (x.inn.take ((x.inn.length + 1) / 2))
      have h3 := hm (x.inn.drop ((x.inn.length + 1) / 2))
      have h5 := elseTk_le (((x.inn.drop ((x.inn.length + 1) / 2)).take 4).map (cmdN n))
      simp only [maxC]
      omega
    · have := maxC_ge n
      exact Nat.le_trans (leafCTk_le _ (by omega) x) (by simp only [maxC]; omega)
theorem cmdsNTk_le (n : Nat) (l : List Stk) : (cmdsTk (cmdsN n l)).length ≤ 4 * maxC n := by
  have h := cmdsTk_le (maxC n) (cmdsN n l) (fun c hc => by
    obtain ⟨y, _, rfl⟩ := List.mem_map.1 hc
    exact cmdNTk_le n y)
  have h4 : (cmdsN n l).length ≤ 4 := by unfold cmdsN; rw [List.length_map, List.length_take]; omega
  exact Nat.le_trans h (Nat.mul_le_mul_right _ h4)
/-- The first command: it requires all. -/
def reqC : Cmd := .mk 1 [mkS [102, 105, 108, 101, 105, 110, 116, 111], mkS [114, 101, 106, 101, 99, 116], mkS [101, 110, 118, 101, 108, 111, 112, 101], mkS [105, 109, 97, 112, 52, 102, 108, 97, 103, 115]] zeroT [] []
theorem okC_req : okC reqC := by unfold reqC okC; exact .inr ⟨by decide, by decide, by decide, rfl, rfl, rfl, rfl⟩
end Go.Proofs.YtgmnoemkdigafaaDoor
namespace Go.Proofs.YtgmnoemkdigafaaDoor
set_option linter.unusedVariables false
set_option linter.unusedSimpArgs false

def fileS : ByteArray := mkS [102, 105, 108, 101, 105, 110, 116, 111]
def rejS : ByteArray := mkS [114, 101, 106, 101, 99, 116]
def envS : ByteArray := mkS [101, 110, 118, 101, 108, 111, 112, 101]
def flgS : ByteArray := mkS [105, 109, 97, 112, 52, 102, 108, 97, 103, 115]
def extsS : List ByteArray := [fileS, rejS, envS, flgS]
def fromS : ByteArray := mkS [102, 114, 111, 109]
def toSS : ByteArray := mkS [116, 111]
/-- Is a text one of these? -/
def inS (l : List ByteArray) (s : ByteArray) : Bool := l.any fun a => decide (s = a)
mutual
/-- A test, where this is required. R: what redirects to; N: what a box's name must be; F: what names of flags are. -/
def judT (has : ByteArray → Bool) : Tst → Int
  | .mk k m p ns ks o lm ts =>
    if k = 8 ∧ has envS = false then 8
    else if k = 8 ∧ (ns.all fun s => decide (s = fromS ∨ s = toSS)) = false then 7
    else if ((ns ++ ks).all fun s => decide (s.size ≤ 100)) = false then 1
    else judTs has ts
def judTs (has : ByteArray → Bool) : List Tst → Int
  | [] => 0
  | t :: l => if judT has t ≠ 0 then judT has t else judTs has l
end
/-- A command that is no if: its kind, its first text, what its texts are as flags. -/
def judL (nameR flgR adrR : List ByteArray → Int) (has : ByteArray → Bool) (k : Int) (tx : List ByteArray) : Int :=
  if k = 1 then 3
  else if k = 5 then (if has fileS = false then 8 else nameR tx)
  else if k = 7 then (if has rejS = false then 8 else 0)
  else if k = 8 ∨ k = 9 then (if has flgS = false then 8 else flgR tx)
  else if k = 6 then adrR tx
  else 0
mutual
def judC (lf : (ByteArray → Bool) → Int → List ByteArray → Int) (has : ByteArray → Bool) : Cmd → Int
  | .mk k tx t th el =>
    if k = 2 then (if judT has t ≠ 0 then judT has t else if judCs lf has th ≠ 0 then judCs lf has th else judCs lf has el)
    else lf has k tx
def judCs (lf : (ByteArray → Bool) → Int → List ByteArray → Int) (has : ByteArray → Bool) : List Cmd → Int
  | [] => 0
  | c :: l => if judC lf has c ≠ 0 then judC lf has c else judCs lf has l
end
def Cmd.texts : Cmd → List ByteArray
  | .mk _ tx _ _ _ => tx
/-- A script behind its requires; has: what has been required. -/
def judR (lf : (ByteArray → Bool) → Int → List ByteArray → Int) (has : List ByteArray) : List Cmd → Int
  | [] => 0
  | c :: l => if c.kind = 1 then (if (c.texts.all fun s => inS extsS s) = false then 7 else judR lf (has ++ c.texts) l) else judCs lf (inS has) (c :: l)
theorem judTs_all {has : ByteArray → Bool} : ∀ l : List Tst, (∀ t ∈ l, judT has t = 0) → judTs has l = 0
  | [], _ => by rw [judTs]
  | t :: l, h => by rw [judTs, if_neg (by rw [h t (by simp)]; simp), judTs_all l fun t ht => h t (by simp [ht])]
theorem judCs_all {lf : (ByteArray → Bool) → Int → List ByteArray → Int} {has : ByteArray → Bool} : ∀ l : List Cmd, (∀ t ∈ l, judC lf has t = 0) → judCs lf has l = 0
  | [], _ => by rw [judCs]
  | t :: l, h => by rw [judCs, if_neg (by rw [h t (by simp)]; simp), judCs_all l fun t ht => h t (by simp [ht])]
theorem judCs_append {lf : (ByteArray → Bool) → Int → List ByteArray → Int} {has : ByteArray → Bool} : ∀ a b : List Cmd, judCs lf has (a ++ b) = if judCs lf has a ≠ 0 then judCs lf has a else judCs lf has b
  | [], b => by rw [List.nil_append, judCs, if_neg (by simp)]
  | c :: a, b => by
    rw [List.cons_append, judCs, judCs, judCs_append a b]
    by_cases h : judC lf has c ≠ 0
    · rw [if_pos h, if_pos h, if_pos h]
    · rw [if_neg h, if_neg h]
/-- Drop the last command as long as this does not hold. -/
def shrinkN (ok : List Cmd → Bool) : Nat → List Cmd → List Cmd
  | 0, l => l
  | n + 1, l => if 1 < l.length ∧ ok l = false then shrinkN ok n (l.take (l.length - 1)) else l
theorem shrinkN_take (ok : List Cmd → Bool) : ∀ (n : Nat) (l : List Cmd), 0 < l.length → ∃ j, 1 ≤ j ∧ j ≤ l.length ∧ shrinkN ok n l = l.take j
  | 0, l, h => ⟨l.length, h, Nat.le_refl _, by rw [shrinkN, List.take_length]⟩
  | n + 1, l, h => by
    rw [shrinkN]
    split
    · next hc =>
      obtain ⟨j, h1, h2, h3⟩ := shrinkN_take ok n (l.take (l.length - 1)) (by rw [List.length_take]; omega)
      rw [List.length_take] at h2
      refine ⟨j, h1, by omega, ?_⟩
      rw [h3, List.take_take, Nat.min_eq_left (by omega)]
    · exact ⟨l.length, h, Nat.le_refl _, by rw [List.take_length]⟩
theorem shrinkN_ok (ok : List Cmd → Bool) : ∀ (n : Nat) (l : List Cmd), l.length ≤ n → ok (shrinkN ok n l) = true ∨ (shrinkN ok n l).length ≤ 1
  | 0, l, h => .inr (by rw [shrinkN]; omega)
  | n + 1, l, h => by
    rw [shrinkN]
    split
    · next hc => exact shrinkN_ok ok n _ (by rw [List.length_take]; omega)
    · next hc =>
      by_cases h1 : 1 < l.length
      · left
        cases h2 : ok l with
        | true => rfl
        | false => exact absurd ⟨h1, h2⟩ hc
      · right; omega
end Go.Proofs.YtgmnoemkdigafaaDoor
namespace Go.Proofs.YtgmnoemkdigafaaDoor
open Go.RowKit Go.Maps Go.WideMaps
set_option linter.unusedVariables false

def keyL (s : ByteArray) : Lit := .string s.data.toList
def setD (has : List ByteArray) : DataW Unit := setOf (.agg []) (has.map keyL)
theorem setD_snoc (has : List ByteArray) (s : ByteArray) : setD (has ++ [s]) = (setD has).put (keyL s) (.agg []) := by
  unfold setD
  rw [List.map_append, List.map_cons, List.map_nil, setOf_snoc]
theorem keyL_inj {a s : ByteArray} (h : keyL a = keyL s) : a = s := by
  unfold keyL at h
  simp only [Lit.string.injEq] at h
  exact bs_inj h
theorem same_keyL (a s : ByteArray) : (keyL a).sameKey (keyL s) = decide (s = a) := by
  by_cases h : a = s
  · subst h
    have : (keyL a).sameKey (keyL a) = true := by simp [keyL, Lit.sameKey]
    rw [this, decide_eq_true rfl]
  · rw [sameKey_ne (fun e => h (keyL_inj e)), decide_eq_false (fun e => h (Eq.symm e))]
theorem has_setD (has : List ByteArray) (s : ByteArray) : Maps.has (setD has) (keyL s) = inS has s := by
  unfold setD
  rw [has_setOf _ _ _ (fun x hx => by
    obtain ⟨a, _, rfl⟩ := List.mem_map.1 hx
    simp [keyL, WideAt.IsKeyLit]), List.any_map]
  induction has with
  | nil => rfl
  | cons a l ih =>
    rw [List.any_cons, ih]
    show ((keyL a).sameKey (keyL s) || _) = _
    rw [same_keyL]
    rfl
/-- The judge in block j has required these. -/
def HasAt (w : World) (j : Nat) (has : List ByteArray) : Prop :=
  ∃ b, Bk w j [.map (some b)] 84 ∧ w.ownsMap Tryd.prog 9 unitElem b has.length (setD has)
theorem HasAt.later {w w' : World} {j : Nat} {has : List ByteArray} (hb : Below w.heap.size w w') (h : HasAt w j has) : HasAt w' j has := by
  obtain ⟨b, h1, h2⟩ := h
  exact ⟨b, h1.later hb, h2.kept (grown_of_below hb) (by simp)⟩
set_option maxRecDepth 100000 in
theorem need_calls (j : Nat) (has : List ByteArray) (s : ByteArray) (w : World) (hs : s.size ≤ maxLen) (h : HasAt w j has) :
    Calls Tryd.prog 77 #[.pointer (some ⟨j, 0, none⟩), .string s] w fun e w' => e = .returned (.int .i64 (if inS has s = true then 0 else 8)) ∧ Below w.heap.size w w' := by
  obtain ⟨b, hbk, hown⟩ := h
  have c0 := hbk.cell 0 _ rfl
  have hkey : keyOf Tryd.prog 9 (.string s) = some (keyL s) := keyOf_string_mk Tryd.underlying9 hs
  have hz : ∀ w : World, (zeroValue 87).run Tryd.prog w = .ok (.agg #[]) w := fun _ => by kernel_rfl
  have hh := has_setD has s
  cases hc : inS has s with
  | true =>
    rw [hc] at hh
    have Hown := Lib.hid hown
    have Hh := Lib.hid hh
    rw [if_pos rfl]
    clear hown hh hbk hc
    go_enter Tryd.func77, Tryd.ntmps77
    go_wp2_with (at_lookup; refine wpList_lookup_own_unit _ rfl _ _ 82 rfl 9 87 (string_keyed Tryd.underlying9) Tryd.underlying82 (hz _) b has.length (setD has) rfl Hown.out _ (keyL s) rfl hkey ?_; rw [Hh.out])
    go_ret
    exact ⟨rfl, bal (Below.refl _ _) _⟩
  | false =>
    rw [hc] at hh
    have Hown := Lib.hid hown
    have Hh := Lib.hid hh
    rw [if_neg (by simp)]
    clear hown hh hbk hc
    go_enter Tryd.func77, Tryd.ntmps77
    go_wp2_with (at_lookup; refine wpList_lookup_own_unit _ rfl _ _ 82 rfl 9 87 (string_keyed Tryd.underlying9) Tryd.underlying82 (hz _) b has.length (setD has) rfl Hown.out _ (keyL s) rfl hkey ?_; rw [Hh.out])
    go_ret
    exact ⟨rfl, bal (Below.refl _ _) _⟩
end Go.Proofs.YtgmnoemkdigafaaDoor
