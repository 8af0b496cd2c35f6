/- What a walk over scripts leans on: blocks of cells, rows of one's own, what leaves them as they are. -/
import Derived.Test.YtgmnoemkdigafaaDoorKit
import Derived.Test.YtgmnoemkdigafaaDoorProg
import Derived.RangeFuncOwn
import Derived.Deep.QuietTactic
import Derived.BigQuiet
import Derived.WalkSmall
import Derived.WalkArith
import Derived.Laws.OwnMore
import Derived.Deep.RegionHeld3
namespace Go.Proofs.YtgmnoemkdigafaaDoor
open Go.RowKit
set_option linter.unusedVariables false

theorem cell_later {w w' : World} {a : Addr} {v : Value} (hb : Below w.heap.size w w') (h : w.cell? a = some v) : w'.cell? a = some v := by
  obtain ⟨o, ho, _⟩ := cells_of_cell h
  exact (hb.cell (p := a) (Array.getElem?_eq_some_iff.1 ho).1).trans h
/-- Nothing but block b has been turned. -/
structure Mv (b : Nat) (w w' : World) : Prop where
  os : w'.os = w.os
  tape : w'.tape = w.tape
  output : w'.output = w.output
  size : w.heap.size ≤ w'.heap.size
  block : ∀ k, k < w.heap.size → k ≠ b → w'.heap[k]? = w.heap[k]?
theorem Mv.refl (b : Nat) (w : World) : Mv b w w := ⟨rfl, rfl, rfl, Nat.le_refl _, fun _ _ _ => rfl⟩
theorem Mv.trans {b : Nat} {x y z : World} (h : Mv b x y) (k : Mv b y z) : Mv b x z :=
  ⟨k.os.trans h.os, k.tape.trans h.tape, k.output.trans h.output, Nat.le_trans h.size k.size, fun i h1 h2 => (k.block i (Nat.lt_of_lt_of_le h1 h.size) h2).trans (h.block i h1 h2)⟩
theorem Mv.drewN {b : Nat} {x y : World} (h : Mv b x y) (n : Nat) : Mv b x (y.drewN n) := ⟨h.os, h.tape, h.output, h.size, h.block⟩
theorem Mv.drew {b : Nat} {x y : World} (h : Mv b x y) : Mv b x y.drew := ⟨h.os, h.tape, h.output, h.size, h.block⟩
theorem Mv.set {b : Nat} {x y : World} (h : Mv b x y) (j : Nat) (v : Value) : Mv b x (y.setCell ⟨b, j, none⟩ v) :=
  h.trans ⟨rfl, rfl, rfl, (KeepsWalks.setCell y _ v).size, fun k _ hk => Below.heap_setCell _ _ _ k (fun e => hk (by rw [e]))⟩
theorem Mv.of_below {b : Nat} {x y : World} (h : Below x.heap.size x y) : Mv b x y := ⟨h.os, h.tape, h.output, h.size, fun k h1 _ => h.block k h1⟩
theorem Mv.alloc {b : Nat} {x y : World} (h : Mv b x y) (o : Obj) : Mv b x (y.alloc o) := h.trans (Mv.of_below ((Below.refl _ y).alloc (Nat.le_refl _) o))
theorem Mv.below {b B : Nat} {x y : World} (h : Mv b x y) (hb : B ≤ b) (hB : B ≤ x.heap.size) : Below B x y := ⟨h.os, h.tape, h.output, h.size, fun k hk => h.block k (Nat.lt_of_lt_of_le hk hB) (by omega)⟩
theorem Mv.cell {b : Nat} {x y : World} (h : Mv b x y) {a : Addr} {v : Value} (hc : x.cell? a = some v) (hne : a.block ≠ b) : y.cell? a = some v := by
  obtain ⟨o, ho, _⟩ := cells_of_cell hc
  exact (World.cell?_of_block (h.block a.block (Array.getElem?_eq_some_iff.1 ho).1 hne)).trans hc

theorem heap_setCell_at {w : World} {b : Nat} {cs : Array Value} {t : TypeId} {f : Nat × Nat} (h : w.heap[b]? = some (.cells cs t f)) (j : Nat) (v : Value) :
    (w.setCell ⟨b, j, none⟩ v).heap[b]? = some (.cells (cs.setIfInBounds j v) t f) := by
  obtain ⟨hlt, hk⟩ := Array.getElem?_eq_some_iff.1 h
  show (w.heap.modify b _)[b]? = _
  rw [Array.getElem?_eq_getElem (by rw [Array.size_modify]; exact hlt), Array.getElem_modify_self, hk]
  rfl
/-- A block of these cells. -/
def Bk (W : World) (b : Nat) (cs : List Value) (t : TypeId) : Prop := W.heap[b]? = some (.cells cs.toArray t (0, 0))
section
variable {W W' : World} {b c B : Nat} {cs : List Value} {t : TypeId}
theorem Bk.cell (h : Bk W b cs t) (j : Nat) (v : Value) (hv : cs[j]? = some v) : W.cell? ⟨b, j, none⟩ = some v := by
  simp [World.cell?, show W.heap[b]? = _ from h, hv]
theorem Bk.frozen (h : Bk W b cs t) (j : Nat) : W.frozen? ⟨b, j, none⟩ = false := by
  simp [World.frozen?, show W.heap[b]? = _ from h]
theorem Bk.lt (h : Bk W b cs t) : b < W.heap.size := (Array.getElem?_eq_some_iff.1 h).1
theorem Bk.set (h : Bk W b cs t) (j : Nat) (v : Value) : Bk (W.setCell ⟨b, j, none⟩ v) b (cs.set j v) t := by
  have h1 := heap_setCell_at h j v
  unfold Bk
  rw [h1]
  simp
theorem Bk.other (h : Bk W b cs t) (hne : c ≠ b) (j : Nat) (u : Value) : Bk (W.setCell ⟨c, j, none⟩ u) b cs t :=
  (Below.heap_setCell _ _ _ b (fun e => hne e.symm)).trans h
theorem Bk.below (h : Bk W b cs t) (hb : Below B W W') (hB : b < B) : Bk W' b cs t := (hb.block b hB).trans h
theorem Bk.later (h : Bk W b cs t) (hb : Below W.heap.size W W') : Bk W' b cs t := (hb.block b h.lt).trans h
theorem Bk.mv (h : Bk W b cs t) (hm : Mv c W W') (hne : b ≠ c) : Bk W' b cs t := (hm.block b h.lt hne).trans h
theorem Bk.grown {r : Option Nat} (h : Bk W b cs t) (hg : W.grownBy W' r) (hne : some b ≠ r) : Bk W' b cs t := (hg.block b h.lt hne).trans h
theorem Bk.new (w : World) (cs : List Value) (t : TypeId) : Bk (w.alloc (.cells cs.toArray t)) w.heap.size cs t := World.alloc_heap_new w _
theorem Bk.alloc (h : Bk W b cs t) (o : Obj) : Bk (W.alloc o) b cs t := h.later ((Below.refl _ W).alloc (Nat.le_refl _) o)
theorem Bk.drew (h : Bk W b cs t) : Bk W.drew b cs t := h
theorem Bk.drewN (h : Bk W b cs t) (n : Nat) : Bk (W.drewN n) b cs t := h
end
theorem row_later {w w' : World} {base e size n : Nat} {v : Value} {xs : List Value} (hb : Below w.heap.size w w') (h : w.ownsRow base e size v n xs) : w'.ownsRow base e size v n xs := by
  refine ⟨h.1, ?_⟩
  rcases h.2 with hn | ⟨g, cap, cur, rfl, h1, h2, rest⟩
  · exact .inl hn
  · exact .inr ⟨g, cap, cur, rfl, h1, (hb.block g (Array.getElem?_eq_some_iff.1 h2).1).trans h2, rest⟩
theorem row_base {w : World} {base base2 e size n : Nat} {v : Value} {xs : List Value} (hb : base2 ≤ base) (h : w.ownsRow base e size v n xs) : w.ownsRow base2 e size v n xs := by
  refine ⟨h.1, ?_⟩
  rcases h.2 with hn | ⟨g, cap, cur, rfl, h1, rest⟩
  · exact .inl hn
  · exact .inr ⟨g, cap, cur, rfl, by omega, rest⟩
theorem grown_of_below {w w' : World} (hb : Below w.heap.size w w') : w.grownBy w' none := ⟨hb.os, hb.tape, hb.output, hb.size, fun k hk _ => hb.block k hk⟩
theorem below_new {B : Nat} {w w' : World} (hg : w.grownBy w' none) (hB : B ≤ w.heap.size) : Below B w w' := (Below.refl B w).grown hg hB (fun k e => by cases e)
theorem btr {w W W' : World} (h : Below w.heap.size w W) (h2 : Below W.heap.size W W') : Below w.heap.size w W' := h.trans (h2.mono h.size)
theorem bal {w W : World} (h : Below w.heap.size w W) (o : Obj) : Below w.heap.size w (W.alloc o) := h.alloc h.size o
theorem bdr (w : World) : Below w.heap.size w w.drew := ⟨rfl, rfl, rfl, Nat.le_refl _, fun _ _ => rfl⟩
/-- Several ways that end alike are walked on but once. -/
theorem one_key {T G : Prop} (pf : T) (main : T → G) : G := main pf
theorem setCell_grown (w : World) (g j : Nat) (u : Value) : w.grownBy (w.setCell ⟨g, j, none⟩ u) (some g) :=
  ⟨rfl, rfl, rfl, by simp, fun k hk hne => Below.heap_setCell _ _ _ k (fun e => hne (by rw [e]))⟩
theorem row_grown {w w' : World} {B e s n : Nat} {u : Value} {xs : List Value} {r : Option Nat} (h : w.ownsRow B e s u n xs) (hg : w.grownBy w' r) (hne : ∀ k, u.ownBlock = some k → some k ≠ r) : w'.ownsRow B e s u n xs := by
  refine ⟨h.1, ?_⟩
  rcases h.2 with hn | ⟨g, cap, cur, rfl, h1, h2, rest⟩
  · exact .inl hn
  · exact .inr ⟨g, cap, cur, rfl, h1, (hg.block g (Array.getElem?_eq_some_iff.1 h2).1 (hne g rfl)).trans h2, rest⟩
theorem own_set {w : World} {B e s n q : Nat} {v : Value} {xs cs : List Value} {t : TypeId} (h : w.ownsRow B e s v n xs) (hb : Bk w q cs t) (hne : e ≠ t) (j : Nat) (u : Value) : (w.setCell ⟨q, j, none⟩ u).ownsRow B e s v n xs := by
  refine row_grown h (setCell_grown w q j u) fun k hk e1 => ?_
  obtain rfl := Option.some.inj e1
  rcases h.2 with ⟨rfl, _⟩ | ⟨g, cap, cur, rfl, _, hg, _⟩
  · cases hk
  · obtain rfl : g = k := Option.some.inj hk
    unfold Bk at hb
    rw [hg] at hb
    have := Option.some.inj hb
    simp only [Obj.cells.injEq] at this
    exact hne this.2.1
end Go.Proofs.YtgmnoemkdigafaaDoor
