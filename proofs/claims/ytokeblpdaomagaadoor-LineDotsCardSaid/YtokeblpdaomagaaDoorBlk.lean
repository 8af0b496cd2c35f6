/- Blocks of cells, in general: what they hold, and what leaves them as they are. -/
import Derived.Test.YtokeblpdaomagaaDoorWhoRead
import Derived.Laws.OwnMore
namespace Go.Proofs.YtokeblpdaomagaaDoor
open Go.RowKit
set_option linter.unusedVariables false

/-- A block of these cells. -/
def Bk (W : World) (b : Nat) (cs : List Value) (t : TypeId) : Prop := W.heap[b]? = some (.cells cs.toArray t (0, 0))
section
variable {W W' : World} {b c B : Nat} {cs : List Value} {t : TypeId}
theorem Bk.cell (h : Bk W b cs t) (j : Nat) (v : Value) (hv : cs[j]? = some v) : W.cell? ⟨b, j, none⟩ = some v := by
  simp [World.cell?, show W.heap[b]? = _ from h, hv]
theorem Bk.frozen (h : Bk W b cs t) (j : Nat) : W.frozen? ⟨b, j, none⟩ = false := by
  simp [World.frozen?, show W.heap[b]? = _ from h]
theorem Bk.lt (h : Bk W b cs t) : b < W.heap.size := (Array.getElem?_eq_some_iff.1 h).1
theorem Bk.set (h : Bk W b cs t) (j : Nat) (v : Value) : Bk (W.setCell ⟨b, j, none⟩ v) b (cs.set j v) t := by
  have h1 := heap_setCell_at h j v
  unfold Bk
  rw [h1]
  simp
theorem Bk.other (h : Bk W b cs t) (hne : c ≠ b) (j : Nat) (u : Value) : Bk (W.setCell ⟨c, j, none⟩ u) b cs t :=
  (Below.heap_setCell _ _ _ b (fun e => hne e.symm)).trans h
theorem Bk.below (h : Bk W b cs t) (hb : Below B W W') (hB : b < B) : Bk W' b cs t := (hb.block b hB).trans h
theorem Bk.later (h : Bk W b cs t) (hb : Below W.heap.size W W') : Bk W' b cs t := (hb.block b h.lt).trans h
theorem Bk.mv (h : Bk W b cs t) (hm : Mv c W W') (hne : b ≠ c) : Bk W' b cs t := (hm.block b h.lt hne).trans h
theorem Bk.grown {r : Option Nat} (h : Bk W b cs t) (hg : W.grownBy W' r) (hne : some b ≠ r) : Bk W' b cs t := (hg.block b h.lt hne).trans h
theorem Bk.new (w : World) (cs : List Value) (t : TypeId) : Bk (w.alloc (.cells cs.toArray t)) w.heap.size cs t := World.alloc_heap_new w _
theorem Bk.alloc (h : Bk W b cs t) (o : Obj) : Bk (W.alloc o) b cs t := h.later ((Below.refl _ W).alloc (Nat.le_refl _) o)
theorem Bk.drew (h : Bk W b cs t) : Bk W.drew b cs t := h
theorem Bk.drewN (h : Bk W b cs t) (n : Nat) : Bk (W.drewN n) b cs t := h
end
theorem row_later {w w' : World} {base e size n : Nat} {v : Value} {xs : List Value} (hb : Below w.heap.size w w') (h : w.ownsRow base e size v n xs) : w'.ownsRow base e size v n xs := by
  refine ⟨h.1, ?_⟩
  rcases h.2 with hn | ⟨g, cap, cur, rfl, h1, h2, rest⟩
  · exact .inl hn
  · exact .inr ⟨g, cap, cur, rfl, h1, (hb.block g (Array.getElem?_eq_some_iff.1 h2).1).trans h2, rest⟩
theorem row_base {w : World} {base base2 e size n : Nat} {v : Value} {xs : List Value} (hb : base2 ≤ base) (h : w.ownsRow base e size v n xs) : w.ownsRow base2 e size v n xs := by
  refine ⟨h.1, ?_⟩
  rcases h.2 with hn | ⟨g, cap, cur, rfl, h1, rest⟩
  · exact .inl hn
  · exact .inr ⟨g, cap, cur, rfl, by omega, rest⟩
theorem grown_of_below {w w' : World} (hb : Below w.heap.size w w') : w.grownBy w' none := ⟨hb.os, hb.tape, hb.output, hb.size, fun k hk _ => hb.block k hk⟩
theorem below_new {B : Nat} {w w' : World} (hg : w.grownBy w' none) (hB : B ≤ w.heap.size) : Below B w w' := (Below.refl B w).grown hg hB (fun k e => by cases e)
end Go.Proofs.YtokeblpdaomagaaDoor
