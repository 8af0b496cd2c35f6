/- The helpers batchOf and sameBatch of the statements: what they return. -/
import Derived.Test.YtpncahklapfoaaaDoorEntsOf
import Derived.Test.YtpncahklapfoaaaDoorStMem
import Derived.Maps.AppendAt
import Derived.Deep.QuietTactic
import Derived.BigQuiet
namespace Go.Proofs.YtpncahklapfoaaaDoor
open Go.RowKit
set_option linter.unusedVariables false

/-- What batchOf ends in. -/
def BatOf (w : World) (x : List Chr) (user : Int) (e : Ending) (w' : World) : Prop :=
  ∃ v, e = .returned (.agg #[.int .i64 (pickN user 3), v]) ∧ w'.ownsRow w.heap.size 63 6 v (batE x).length (entsCells (batE x)) ∧ Below w.heap.size w w'
set_option maxRecDepth 100000 in
set_option maxHeartbeats 2000000 in
theorem batchOf_calls (x : List Chr) (A : Option Addr) (c : Nat) (user : Int) (w : World) (hx : x.length ≤ 9223372036854775807) (hA : kChr.Row w A x) (hu : (Lit.int .i64 user).wf = true) :
    Calls Tryd.prog 11 #[.slice A x.length c, .int .i64 user] w fun e w' => BatOf w x user e w' := by
  have hp := fun W => picked_calls user 3 W hu (by decide) (by decide)
  have hb0 : Below w.heap.size w (w.alloc (.cells #[.int .i64 0, .slice none 0 0] 25)) := (Below.refl _ w).alloc (Nat.le_refl _) _
  have hR0 : Bk (w.alloc (.cells #[.int .i64 0, .slice none 0 0] 25)) w.heap.size [.int .i64 0, .slice none 0 0] 25 := Bk.new _ _ _
  have hs0 : (w.alloc (.cells #[.int .i64 0, .slice none 0 0] 25)).heap.size = w.heap.size + 1 := by simp
  have hE := entriesOf_calls x A c 10 (w.alloc (.cells #[.int .i64 0, .slice none 0 0] 25)) hx (hA.later hb0) (by decide)
  have Hp := Lib.hid hp
  have HE := Lib.hid hE
  clear hp hE hA hu
  go_enter Tryd.func11, Tryd.ntmps11
  go_wp2_with fail
  refine (Hp.out _).mono ?_
  rintro e w1 ⟨rfl, rfl⟩
  go_wp2_with fail
  refine HE.out.mono ?_
  rintro e w2 ⟨v, rfl, hrow, hb2⟩
  clear HE Hp
  generalize w.alloc (.cells #[.int .i64 0, .slice none 0 0] 25) = w1 at *
  have hR2 := hR0.later hb2
  have hb3 := hb0.trans (hb2.mono hb0.size)
  have hs2 := hb2.size
  clear hb0 hb2 hR0
  have hlen := entsC_len x 10
  obtain ⟨A2, c2, rfl⟩ := own_sliceE hrow
  have hR3 := hR2.alloc (.cells #[.int .i64 (pickN user 3), .slice A2 (entsC x 10).length c2] 25)
  have hrow3 := hrow.alloc (.cells #[.int .i64 (pickN user 3), .slice A2 (entsC x 10).length c2] 25)
  have hb4 := hb3.alloc hb3.size (.cells #[.int .i64 (pickN user 3), .slice A2 (entsC x 10).length c2] 25)
  have hX : Bk (w2.alloc (.cells #[.int .i64 (pickN user 3), .slice A2 (entsC x 10).length c2] 25)) w2.heap.size [.int .i64 (pickN user 3), .slice A2 (entsC x 10).length c2] 25 := Bk.new _ _ _
  have hs3 : (w2.alloc (.cells #[.int .i64 (pickN user 3), .slice A2 (entsC x 10).length c2] 25)).heap.size = w2.heap.size + 1 := by simp
  go_upto_region 2 with fail
  generalize w2.alloc (.cells #[.int .i64 (pickN user 3), .slice A2 (entsC x 10).length c2] 25) = w3 at *
  clear hR2 hrow hb3
  have hs3l : w2.heap.size + 1 ≤ w3.heap.size := by omega
  clear hs3
  have x0 := hX.cell 0 _ rfl
  have x1 := hX.cell 1 _ rfl
  have fx := hX.frozen 1
  have r0 := hR3.cell 0 _ rfl
  have r1 := hR3.cell 1 _ rfl
  have g0 := hR3.frozen 0
  have g1 := hR3.frozen 1
  have hne : w2.heap.size ≠ w.heap.size := by omega
  by_cases h0 : entsC x 10 = []
  · have hbe : batE x = [⟨4, nmN 0, 0, 0, ⟨#[]⟩, ⟨#[]⟩⟩] := by unfold batE; rw [if_pos h0]
    have hl0 : (entsC x 10).length = 0 := by rw [h0]; rfl
    rw [hl0] at x1 hX
    have Hbe := Lib.hid hbe
    clear hbe h0 hrow3 hlen
    generalize (entsC x 10).length = n at *
    subst hl0
    have hX4 := hX.alloc (.cells #[.int .i64 4, .string ⟨#[73, 78, 66, 79, 88]⟩, .int .i64 0, .int .i64 0, .string ⟨#[]⟩, .string ⟨#[]⟩] 63)
    have hR4 := hR3.alloc (.cells #[.int .i64 4, .string ⟨#[73, 78, 66, 79, 88]⟩, .int .i64 0, .int .i64 0, .string ⟨#[]⟩, .string ⟨#[]⟩] 63)
    have hb5 := hb4.alloc hb4.size (.cells #[.int .i64 4, .string ⟨#[73, 78, 66, 79, 88]⟩, .int .i64 0, .int .i64 0, .string ⟨#[]⟩, .string ⟨#[]⟩] 63)
    have hlit := World.ownsRow_lit (base := w.heap.size) (e := 63) (size := 6) w3 #[.int .i64 4, .string ⟨#[73, 78, 66, 79, 88]⟩, .int .i64 0, .int .i64 0, .string ⟨#[]⟩, .string ⟨#[]⟩] 1 (by omega) (by decide) rfl
    have y1 := hX4.cell 1 _ rfl
    have y2 := hX4.frozen 1
    go_upto_region 4 with fail
    generalize w3.alloc (.cells #[.int .i64 4, .string ⟨#[73, 78, 66, 79, 88]⟩, .int .i64 0, .int .i64 0, .string ⟨#[]⟩, .string ⟨#[]⟩] 63) = w4 at *
    clear hX hR3 hb4 x0 x1 fx r0 r1 g0 g1 y1 y2
    have hX6 := hX4.set 1 (.slice (some ⟨w3.heap.size, 0, none⟩) 1 1)
    have hR6 := hR4.other hne 1 (.slice (some ⟨w3.heap.size, 0, none⟩) 1 1)
    have hb6 := hb5.setCell (p := ⟨w2.heap.size, 1, none⟩) (by show w.heap.size ≤ w2.heap.size; omega) (.slice (some ⟨w3.heap.size, 0, none⟩) 1 1)
    have hlit := ownsRow_setCell_other hlit (a := ⟨w2.heap.size, 1, none⟩) (by simp [Value.ownBlock]; omega) (.slice (some ⟨w3.heap.size, 0, none⟩) 1 1)
    generalize w4.setCell ⟨w2.heap.size, 1, none⟩ (.slice (some ⟨w3.heap.size, 0, none⟩) 1 1) = w5 at *
    have x0 := hX6.cell 0 _ rfl
    have x1 := hX6.cell 1 _ rfl
    have g0 := hR6.frozen 0
    have g1 := hR6.frozen 1
    have r0 := hR6.cell 0 _ rfl
    have r1 := hR6.cell 1 _ rfl
    have hZ := (hR6.set 0 (.int .i64 (pickN user 3))).set 1 (.slice (some ⟨w3.heap.size, 0, none⟩) 1 1)
    have z0 := hZ.cell 0 _ rfl
    have z1 := hZ.cell 1 _ rfl
    have hbz := (hb6.setCell (p := ⟨w.heap.size, 0, none⟩) (Nat.le_refl _) (.int .i64 (pickN user 3))).setCell (p := ⟨w.heap.size, 1, none⟩) (Nat.le_refl _) (.slice (some ⟨w3.heap.size, 0, none⟩) 1 1)
    have hrz := ownsRow_setCell_other (ownsRow_setCell_other hlit (a := ⟨w.heap.size, 0, none⟩) (by simp [Value.ownBlock]; omega) (.int .i64 (pickN user 3))) (a := ⟨w.heap.size, 1, none⟩) (by simp [Value.ownBlock]; omega) (.slice (some ⟨w3.heap.size, 0, none⟩) 1 1)
    have Hbz := Lib.hid hbz
    have Hrz := Lib.hid hrz
    clear hbz hrz hlit hb6 hX6 hR6 hZ hb5 hX4 hR4
    go_wp2_with fail
    exact bodyPost_ret (v := .agg #[.int .i64 (pickN user 3), .slice (some ⟨w3.heap.size, 0, none⟩) 1 1]) (by simp [results, Tryd.results11, go_sem, z0, z1]) rfl ⟨_, rfl, by rw [Hbe.out]; exact Hrz.out, Hbz.out⟩
  · have hbe : batE x = entsC x 10 := by unfold batE; rw [if_neg h0]
    have hl0 : 0 < (entsC x 10).length := List.length_pos_iff.2 h0
    rw [← hbe] at x1 hX hlen hl0 hrow3
    clear hbe h0
    have hne2 : (((batE x).length : Int) == 0) = false := by rw [beq_eq_false_iff_ne]; omega
    have hZ := (hR3.set 0 (.int .i64 (pickN user 3))).set 1 (.slice A2 (batE x).length c2)
    have z0 := hZ.cell 0 _ rfl
    have z1 := hZ.cell 1 _ rfl
    have hbz := (hb4.setCell (p := ⟨w.heap.size, 0, none⟩) (Nat.le_refl _) (.int .i64 (pickN user 3))).setCell (p := ⟨w.heap.size, 1, none⟩) (Nat.le_refl _) (.slice A2 (batE x).length c2)
    have hrz := ownsRow_setCell_below (ownsRow_setCell_below hrow3 (a := ⟨w.heap.size, 0, none⟩) (by show w.heap.size < _; omega) (.int .i64 (pickN user 3))) (a := ⟨w.heap.size, 1, none⟩) (by show w.heap.size < _; omega) (.slice A2 (batE x).length c2)
    have Hbz := Lib.hid hbz
    have Hrz := Lib.hid (row_base (base2 := w.heap.size) (by omega) hrz)
    clear hbz hrz hrow3 hb4 hX hR3 hZ
    generalize hL : (batE x).length = n at *
    have HL := Lib.hid hL
    clear hL
    go_wp2_with fail
    exact bodyPost_ret (v := .agg #[.int .i64 (pickN user 3), .slice A2 n c2]) (by simp [results, Tryd.results11, go_sem, z0, z1]) rfl ⟨_, rfl, by rw [HL.out]; exact Hrz.out, Hbz.out⟩
set_option maxRecDepth 100000 in
set_option maxHeartbeats 2000000 in
theorem same_batch (u : Int) (es : List Ent) (A B : Option Addr) (c d : Nat) (w : World) (hA : EsAt w A es) (hB : EsAt w B es) (hl : es.length ≤ 100000) :
    Calls Tryd.prog 14 #[.agg #[.int .i64 u, .slice A es.length c], .agg #[.int .i64 u, .slice B es.length d]] w fun e w' => e = .returned (.bool true) ∧ Below w.heap.size w w' := by
  have hM0 : Bk ((w.alloc (.cells #[.int .i64 u, .slice A es.length c] 25)).alloc (.cells #[.int .i64 u, .slice B es.length d] 25)) w.heap.size [.int .i64 u, .slice A es.length c] 25 := (Bk.new w [.int .i64 u, .slice A es.length c] _).alloc _
  have hN0 : Bk ((w.alloc (.cells #[.int .i64 u, .slice A es.length c] 25)).alloc (.cells #[.int .i64 u, .slice B es.length d] 25)) (w.alloc (.cells #[.int .i64 u, .slice A es.length c] 25)).heap.size [.int .i64 u, .slice B es.length d] 25 := Bk.new _ [.int .i64 u, .slice B es.length d] _
  have hb0 : Below w.heap.size w ((w.alloc (.cells #[.int .i64 u, .slice A es.length c] 25)).alloc (.cells #[.int .i64 u, .slice B es.length d] 25)) := ((Below.refl _ w).alloc (Nat.le_refl _) _).alloc (by simp) _
  rw [show (w.alloc (.cells #[.int .i64 u, .slice A es.length c] 25)).heap.size = w.heap.size + 1 by simp] at hN0
  go_enter Tryd.func14, Tryd.ntmps14
  go_wp2_with fail
  generalize (w.alloc (.cells #[.int .i64 u, .slice A es.length c] 25)).alloc (.cells #[.int .i64 u, .slice B es.length d] 25) = W0 at *
  go_loopw [5] (fun t wr => ∃ k : Nat, k ≤ es.length ∧ t = .int .i64 k ∧ Hid (Below w.heap.size w wr) ∧ Bk wr w.heap.size [.int .i64 u, .slice A es.length c] 25 ∧ Bk wr (w.heap.size + 1) [.int .i64 u, .slice B es.length d] 25) (fun t _ => es.length - (intOf t).toNat)
  case atStart => exact ⟨0, Nat.zero_le _, rfl, Lib.hid hb0, hM0, hN0⟩
  case round =>
    obtain ⟨k, hk, rfl, Hb, hM, hN⟩ := hrel
    clear hb0 hM0 hN0
    have m0 := hM.cell 1 _ rfl
    have n0 := hN.cell 1 _ rfl
    by_cases hlt : k < es.length
    · obtain ⟨g, off, rfl, c0, c1, c2, c3, c4, c5⟩ := hA.later Hb.out k hlt
      obtain ⟨g2, off2, rfl, e0, e1, e2, e3, e4, e5⟩ := hB.later Hb.out k hlt
      generalize es[k] = z at *
      have HM := Lib.hid hM
      have HN := Lib.hid hN
      have hk0 : (0 : Int) ≤ (k : Int) := by omega
      have hkn : (k : Int) < (es.length : Int) := by omega
      clear hM hN
      go_wp2_with fail
      go_quiet (fail)
      go_wp2
      go_roundw
      case rel => exact ⟨k + 1, by omega, by go_num, Lib.hid (bel_drewN Hb.out _), HM.out.drewN _, HN.out.drewN _⟩
      case measure => simp [intOf]; omega
    · obtain rfl : k = es.length := by omega
      clear hM hN
      go_wp2
      go_ret
      exact ⟨rfl, Hb.out⟩
end Go.Proofs.YtpncahklapfoaaaDoor
