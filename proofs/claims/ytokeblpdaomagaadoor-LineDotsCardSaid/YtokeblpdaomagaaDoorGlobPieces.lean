/- The iterator glob.pieces: which pieces it hands out, for every pattern. -/
import Derived.RangeFuncNested
import Derived.RangeFuncBound
import Derived.RangeFuncCalls
import Derived.RangeFuncLeaves
import Derived.RangeFuncBox
import Derived.Shelf.Abstract
import Derived.Shelf.RegionOpen
import Derived.WalkKit
import Derived.OwnWalkIn
import Derived.TacticsInMore
import Derived.LoopNIn
import Derived.LoopIn
import Derived.Maps.AppendAt
import Derived.Lib.Hide
import Derived.Test.YtokeblpdaomagaaDoorGlobFold
import Derived.Test.YtokeblpdaomagaaDoorGlobPlain
namespace Go.Proofs.YtokeblpdaomagaaDoor
open Go.RowKit Go.Shelf
attribute [local go_sem] Oper.semAt_some

def pcCells (x : Pc) : List Value := [.int .u8 x.c.toNat, .bool x.one, .bool x.many]
def pcVal (x : Pc) : Value := .agg #[.int .u8 x.c.toNat, .bool x.one, .bool x.many]

theorem piecesL_esc : ∀ (l : List UInt8) (k : Nat) (h : k + 1 < l.length), l[k] = 92 → piecesL (l.drop k) = ⟨l[k + 1], false, false⟩ :: piecesL (l.drop (k + 2)) := by
  intro l k h h9
  rw [List.drop_eq_getElem_cons (by omega : k < l.length), List.drop_eq_getElem_cons h, piecesL, if_pos h9]
theorem piecesL_one : ∀ (l : List UInt8) (k : Nat) (h : k < l.length), ¬ (k + 1 < l.length ∧ l[k] = 92) → piecesL (l.drop k) = ⟨l[k], (l[k].toNat : Int) == 63, (l[k].toNat : Int) == 42⟩ :: piecesL (l.drop (k + 1)) := by
  intro l k h h9
  rw [List.drop_eq_getElem_cons h]
  by_cases h1 : k + 1 < l.length
  · rw [List.drop_eq_getElem_cons h1, piecesL, if_neg (fun e => h9 ⟨h1, e⟩)]
  · rw [List.drop_of_length_le (by omega)]
    rfl
theorem grown_ad (W : World) (o : Obj) : W.grownBy ((W.alloc o).drew) none := by
  have h := World.grownBy_alloc W o none
  exact ⟨h.os, h.tape, h.output, h.size, h.block⟩

set_option maxRecDepth 100000 in
set_option maxHeartbeats 2000000 in
theorem pieces1_in (n : Nat) (hn : 1 ≤ n) (l Bn : Nat) (p : ByteArray) (hp : p.size ≤ 100) (J Jx : List Pc → World → Prop)
    (W : World) (hJ : AbidesFrom W.heap.size J)
    (hY : ∀ pre x W, J pre W → pre.length < p.size → YieldAt Fence.wide (n - 1) Tryd.prog l #[pcVal x] W fun e W' =>
      (e = .returned (.bool true) ∧ J (pre ++ [x]) W' ∧ W'.heap[Bn]? = W.heap[Bn]?) ∨ (e = .returned (.bool false) ∧ Jx (pre ++ [x]) W'))
    (hB : Boxed W Bn 9 (.string p)) (h0 : J [] W) :
    CallsIn Fence.wide n Tryd.prog 64 #[.func (.yield l) #[] #[], .pointer (some ⟨Bn, 0, none⟩)] W fun e W' => (∃ v, e = .returned v) ∧
      ((∃ ys, ys = piecesL p.data.toList ∧ J ys W') ∨ (∃ pre, pre <+: piecesL p.data.toList ∧ Jx pre W')) := by
  refine callsIn_of_wp Tryd.func64 rfl trivial ?_ rfl
  simp only [Tryd.ntmps64, List.size_toArray, List.length_cons, List.length_nil, Nat.reduceAdd, Nat.reduceSub, Array.replicate_succ, Array.replicate_zero, List.push_toArray, List.append_toArray, List.nil_append, List.cons_append]
  have hb0 := hB.cell
  gi_wp2
  gi_loopw [3] (fun i wr => ∃ (k : Nat) (pre : List Pc), k ≤ p.size ∧ i = .int .i64 k ∧ piecesL p.data.toList = pre ++ piecesL (p.data.toList.drop k) ∧ pre.length ≤ k ∧ J pre wr ∧ Boxed wr Bn 9 (.string p))
    (fun i _ => p.size - (intOf i).toNat)
  case atStart => exact ⟨0, [], Nat.zero_le _, rfl, rfl, Nat.zero_le _, h0, hB⟩
  case round =>
    obtain ⟨k, pre, hk, rfl, hx, hpl, hJs, hnx⟩ := hrel
    have hbx : wr.cell? ⟨Bn, 0, none⟩ = some (.string p) := hnx.cell
    clear hb0
    have hbx2 : ∀ o : Obj, (wr.alloc o).cell? ⟨Bn, 0, none⟩ = some (.string p) := fun o => cell_kept hbx (World.grownBy_alloc _ _ none) (fun r e => by cases e)
    by_cases hlt : k < p.size
    · have Hx := Lib.hid hx
      clear hx
      by_cases hbs : (k + 1 < p.size ∧ p[k] = 92)
      · obtain ⟨hk1, hbsl⟩ := hbs
        have hs := piecesL_esc p.data.toList k hk1 (by rw [Array.getElem_toList]; exact hbsl)
        have h92 : ((p[k].toNat : Int) == 92) = true := by rw [hbsl]; rfl
        have Hs := Lib.hid hs
        clear hbsl hs
        obtain ⟨fn, tmps, assign, body, hy, hR⟩ := hY pre ⟨p[k + 1], false, false⟩ ((wr.alloc (.cells (pcCells ⟨p[k + 1], false, false⟩).toArray 100)).drew) (hJ _ _ _ none hJs (grown_ad _ _) (fun r e => by cases e)) (by omega)
        dsimp only [pcVal, pcCells] at hy hR
        gi_wp2
        gi_region
        gi_wp2
        refine hR.mono ?_
        rintro e W3 (⟨rfl, hJ3, hk3⟩ | ⟨rfl, hJx3⟩)
        · gi_wp2
          go_roundw
          case rel => exact ⟨k + 2, pre ++ [⟨p[k + 1], false, false⟩], by omega, by go_num, by rw [List.append_assoc]; exact Hx.out.trans (by rw [Hs.out]; rfl), by simp; omega, hJ3, hk3.trans (hnx.alloc _)⟩
          case measure => simp [intOf]; omega
        · gi_wp2
          refine bodyPost_ret (results_none rfl _ _ _) rfl ?_
          exact ⟨⟨_, rfl⟩, .inr ⟨_, ⟨piecesL (p.data.toList.drop (k + 2)), by rw [List.append_assoc]; exact (Hx.out.trans (by rw [Hs.out]; rfl)).symm⟩, hJx3⟩⟩
      · have hs := piecesL_one p.data.toList k hlt (fun h => hbs ⟨h.1, by have h2 := h.2; rw [Array.getElem_toList] at h2; exact h2⟩)
        have Hs := Lib.hid hs
        clear hs
        obtain ⟨fn, tmps, assign, body, hy, hR⟩ := hY pre ⟨p[k], (p[k].toNat : Int) == 63, (p[k].toNat : Int) == 42⟩ ((wr.alloc (.cells (pcCells ⟨p[k], (p[k].toNat : Int) == 63, (p[k].toNat : Int) == 42⟩).toArray 100)).drew) (hJ _ _ _ none hJs (grown_ad _ _) (fun r e => by cases e)) (by omega)
        dsimp only [pcVal, pcCells] at hy hR
        by_cases h9 : p[k] = 92
        · have h92 : ((p[k].toNat : Int) == 92) = true := by rw [h9]; rfl
          have hk1 : ¬ k + 1 < p.size := fun h => hbs ⟨h, h9⟩
          clear h9 hbs
          gi_wp2
          gi_region
          gi_wp2
          refine hR.mono ?_
          rintro e W3 (⟨rfl, hJ3, hk3⟩ | ⟨rfl, hJx3⟩)
          · gi_wp2
            go_roundw
            case rel => exact ⟨k + 1, pre ++ [⟨p[k], (p[k].toNat : Int) == 63, (p[k].toNat : Int) == 42⟩], by omega, by go_num, by rw [List.append_assoc]; exact Hx.out.trans (by rw [Hs.out]; rfl), by simp; omega, hJ3, hk3.trans (hnx.alloc _)⟩
            case measure => simp [intOf]; omega
          · gi_wp2
            refine bodyPost_ret (results_none rfl _ _ _) rfl ?_
            exact ⟨⟨_, rfl⟩, .inr ⟨_, ⟨piecesL (p.data.toList.drop (k + 1)), by rw [List.append_assoc]; exact (Hx.out.trans (by rw [Hs.out]; rfl)).symm⟩, hJx3⟩⟩
        · have h92 : ((p[k].toNat : Int) == 92) = false := by
            rw [beq_eq_false_iff_ne]
            intro h
            exact h9 (UInt8.toNat_inj.1 (by simpa using Int.ofNat.inj h))
          clear h9 hbs
          gi_wp2
          gi_region
          gi_wp2
          refine hR.mono ?_
          rintro e W3 (⟨rfl, hJ3, hk3⟩ | ⟨rfl, hJx3⟩)
          · gi_wp2
            go_roundw
            case rel => exact ⟨k + 1, pre ++ [⟨p[k], (p[k].toNat : Int) == 63, (p[k].toNat : Int) == 42⟩], by omega, by go_num, by rw [List.append_assoc]; exact Hx.out.trans (by rw [Hs.out]; rfl), by simp; omega, hJ3, hk3.trans (hnx.alloc _)⟩
            case measure => simp [intOf]; omega
          · gi_wp2
            refine bodyPost_ret (results_none rfl _ _ _) rfl ?_
            exact ⟨⟨_, rfl⟩, .inr ⟨_, ⟨piecesL (p.data.toList.drop (k + 1)), by rw [List.append_assoc]; exact (Hx.out.trans (by rw [Hs.out]; rfl)).symm⟩, hJx3⟩⟩
    · obtain rfl : k = p.size := by omega
      have Hx := Lib.hid hx
      clear hx
      gi_wp2
      go_end0
      refine ⟨⟨_, rfl⟩, .inl ⟨_, rfl, ?_⟩⟩
      have he := Hx.out
      rw [List.drop_of_length_le (Nat.le_of_eq (show p.data.toList.length = p.size from rfl))] at he
      rw [he]
      simpa [piecesL] using hJs

/-- The iterator's contract: all the pieces, in their order. -/
theorem pieces_stops (n : Nat) (hn : 1 ≤ n) (Bn : Nat) (p : ByteArray) (hp : p.size ≤ 100) (w : World) (hB : Boxed w Bn 9 (.string p)) :
    SeqStopsK Fence.wide n Tryd.prog 64 #[.pointer (some ⟨Bn, 0, none⟩)] (fun x : Pc => #[pcVal x]) (fun A B => A.heap.size ≤ B.heap.size ∧ B.heap[Bn]? = A.heap[Bn]?) (fun ys => ys = piecesL p.data.toList) (fun pre => pre <+: piecesL p.data.toList) p.size w :=
  fun l J Jx W hW hJ _ hY h0 => pieces1_in n hn l Bn p hp J Jx W hJ
    (fun pre x W1 h1 h2 => (hY pre x W1 h1 h2).mono fun _ _ hh => hh.elim (fun hh => .inl ⟨hh.1, hh.2.1, hh.2.2.2⟩) (fun hh => .inr hh)) ((hW.block Bn hB.lt).trans hB) h0
end Go.Proofs.YtokeblpdaomagaaDoor
