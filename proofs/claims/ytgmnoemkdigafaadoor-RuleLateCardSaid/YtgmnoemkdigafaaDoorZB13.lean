/- The helper Test of the statements: kind 2. The helper Test of the statements: kind 3 where it is deep. The helper Test of the statements: kind 4 where it is deep. The helper Test of the statements: kind 5 where it is deep. -/
import Derived.Test.YtgmnoemkdigafaaDoorZB1
import Derived.Laws.Rows
import Derived.Deep.RegionLaw
import Derived.Deep.AppendLies
import Derived.Deep.DeepCutAuto
import Derived.Deep.CutBlock
import Derived.RegionTactic
import Derived.BigRegion
namespace Go.Proofs.YtgmnoemkdigafaaDoor
open Go.RowKit
set_option linter.unusedVariables false

set_option maxRecDepth 100000 in
set_option maxHeartbeats 8000000 in
theorem tst_2 (kk a b : Int) (s t : ByteArray) (inn : List Stk) (A : Option Addr) (c : Nat) (d : Int) (w : World) (hd0 : 0 ≤ d) (hd : d ≤ 1000) (hP10 : pickN kk 10 = 1) (hB : StkB kk a b s t inn.length c) (hA : StksAt w inn A) :
    Calls Tryd.prog 16 #[.agg #[.int .i64 kk, .int .i64 a, .int .i64 b, .string s, .string t, .slice A inn.length c], .int .i64 d] w fun e w' => ∃ tv, e = .returned (.agg (List.toArray tv)) ∧ (∀ W, New w.heap.size w' W → TestV W (leafT 2 (.mk kk a b s t inn)) tv) ∧ Below w.heap.size w w' := by
  obtain ⟨wk, wa, wb, ws, wt, hc1, hc2⟩ := hB
  unfold maxLen at ws wt hc2
  have hX := Bk.new w [.int .i64 kk, .int .i64 a, .int .i64 b, .string s, .string t, .slice A inn.length c] 39
  have hbx : Below w.heap.size w (w.alloc (.cells #[.int .i64 kk, .int .i64 a, .int .i64 b, .string s, .string t, .slice A inn.length c] 39)) := bal (Below.refl _ _) _
  have HX := Lib.hid hX
  have Hbx := Lib.hid hbx
  clear hX hbx
  have P10 : ∀ W : World, Calls Tryd.prog 13 #[.int .i64 kk, .int .i64 10] W fun e w' => e = .returned (.int .i64 ((1 : Nat) : Int)) ∧ W = w' := fun W => by
    have h := picked_calls kk 10 W wk (by decide) (by decide)
    rw [hP10] at h
    exact h
  go_enter Tryd.func16, Tryd.ntmps16
  go_upto_region 1 with fail
  have hR := Bk.new (w.alloc (.cells #[.int .i64 kk, .int .i64 a, .int .i64 b, .string s, .string t, .slice A inn.length c] 39)) [.int .i64 0, .int .i64 0, .int .i64 0, .slice none 0 0, .slice none 0 0, .bool false, .int .i64 0, .slice none 0 0] 31
  have hX2 := HX.out.alloc (.cells #[.int .i64 0, .int .i64 0, .int .i64 0, .slice none 0 0, .slice none 0 0, .bool false, .int .i64 0, .slice none 0 0] 31)
  have hb2 := bal Hbx.out (.cells #[.int .i64 0, .int .i64 0, .int .i64 0, .slice none 0 0, .slice none 0 0, .bool false, .int .i64 0, .slice none 0 0] 31)
  have hs1 : (w.alloc (.cells #[.int .i64 kk, .int .i64 a, .int .i64 b, .string s, .string t, .slice A inn.length c] 39)).heap.size = w.heap.size + 1 := by simp
  rw [hs1] at hR
  have hs2 : ((w.alloc (.cells #[.int .i64 kk, .int .i64 a, .int .i64 b, .string s, .string t, .slice A inn.length c] 39)).alloc (.cells #[.int .i64 0, .int .i64 0, .int .i64 0, .slice none 0 0, .slice none 0 0, .bool false, .int .i64 0, .slice none 0 0] 31)).heap.size = w.heap.size + 2 := by simp
  have HR := Lib.hid hR
  have HX2 := Lib.hid hX2
  have Hb2 := Lib.hid hb2
  clear hR hX2 hb2 hs1 HX Hbx
  generalize (w.alloc (.cells #[.int .i64 kk, .int .i64 a, .int .i64 b, .string s, .string t, .slice A inn.length c] 39)).alloc (.cells #[.int .i64 0, .int .i64 0, .int .i64 0, .slice none 0 0, .slice none 0 0, .bool false, .int .i64 0, .slice none 0 0] 31) = w2 at *
  have x0 := HX2.out.cell 0 _ rfl
  go_upto_region 2 with (go_at_call 13; refine (P10 _).mono ?_; rintro e w' ⟨rfl, rfl⟩)
  clear P10 x0
  by_cases h3 : 3 ≤ d
  all_goals (
    have hT := Bk.new w2 [.int .i64 2, .int .i64 0, .int .i64 0, .slice none 0 0, .slice none 0 0, .bool false, .int .i64 0, .slice none 0 0] 31
    have hT2 := HR.out.alloc (.cells #[.int .i64 2, .int .i64 0, .int .i64 0, .slice none 0 0, .slice none 0 0, .bool false, .int .i64 0, .slice none 0 0] 31)
    have hX3 := HX2.out.alloc (.cells #[.int .i64 2, .int .i64 0, .int .i64 0, .slice none 0 0, .slice none 0 0, .bool false, .int .i64 0, .slice none 0 0] 31)
    have hb3 := bal Hb2.out (.cells #[.int .i64 2, .int .i64 0, .int .i64 0, .slice none 0 0, .slice none 0 0, .bool false, .int .i64 0, .slice none 0 0] 31)
    rw [hs2] at hT
    have HT := Lib.hid hT
    have HR3 := Lib.hid hT2
    have HX3 := Lib.hid hX3
    have Hb3 := Lib.hid hb3
    clear hT hT2 hX3 hb3 HR HX2 Hb2
    go_upto_region 5 with fail
    have hs3 : (w2.alloc (.cells #[.int .i64 2, .int .i64 0, .int .i64 0, .slice none 0 0, .slice none 0 0, .bool false, .int .i64 0, .slice none 0 0] 31)).heap.size = w.heap.size + 3 := by simp; omega
    generalize w2.alloc (.cells #[.int .i64 2, .int .i64 0, .int .i64 0, .slice none 0 0, .slice none 0 0, .bool false, .int .i64 0, .slice none 0 0] 31) = w3 at *
    have x0 := HT.out.cell 0 _ rfl
    have x1 := HT.out.cell 1 _ rfl
    have x2 := HT.out.cell 2 _ rfl
    have x3 := HT.out.cell 3 _ rfl
    have x4 := HT.out.cell 4 _ rfl
    have x5 := HT.out.cell 5 _ rfl
    have x6 := HT.out.cell 6 _ rfl
    have x7 := HT.out.cell 7 _ rfl
    have f0 := HR3.out.frozen 0
    have y0 := HR3.out.cell 0 _ rfl
    have f1 := HR3.out.frozen 1
    have y1 := HR3.out.cell 1 _ rfl
    have f2 := HR3.out.frozen 2
    have y2 := HR3.out.cell 2 _ rfl
    have f3 := HR3.out.frozen 3
    have y3 := HR3.out.cell 3 _ rfl
    have f4 := HR3.out.frozen 4
    have y4 := HR3.out.cell 4 _ rfl
    have f5 := HR3.out.frozen 5
    have y5 := HR3.out.cell 5 _ rfl
    have f6 := HR3.out.frozen 6
    have y6 := HR3.out.cell 6 _ rfl
    have f7 := HR3.out.frozen 7
    have y7 := HR3.out.cell 7 _ rfl
    go_wp2_with fail
    have hbk := bk_eq (cs' := [.int .i64 2, .int .i64 0, .int .i64 0, .slice none 0 0, .slice none 0 0, .bool false, .int .i64 0, .slice none 0 0]) (Bk.set (Bk.set (Bk.set (Bk.set (Bk.set (Bk.set (Bk.set (Bk.set HR3.out 0 _) 1 _) 2 _) 3 _) 4 _) 5 _) 6 _) 7 _) rfl
    refine bodyPost_ret (results_cell_row rfl _ _ (w.heap.size + 1) 31 #[.int .i64 2, .int .i64 0, .int .i64 0, .slice none 0 0, .slice none 0 0, .bool false, .int .i64 0, .slice none 0 0] (0, 0) _ rfl hbk Tryd.underlying31 rfl (by kernel_rfl)) rfl ⟨[.int .i64 2, .int .i64 0, .int .i64 0, .slice none 0 0, .slice none 0 0, .bool false, .int .i64 0, .slice none 0 0], rfl, fun W hN => ?_, ?_⟩
    · exact testV_leaf W 2
    · exact (Below.setCell (Below.setCell (Below.setCell (Below.setCell (Below.setCell (Below.setCell (Below.setCell (Below.setCell Hb3.out (Nat.le_add_right _ _) _) (Nat.le_add_right _ _) _) (Nat.le_add_right _ _) _) (Nat.le_add_right _ _) _) (Nat.le_add_right _ _) _) (Nat.le_add_right _ _) _) (Nat.le_add_right _ _) _) (Nat.le_add_right _ _) _))
end Go.Proofs.YtgmnoemkdigafaaDoor
namespace Go.Proofs.YtgmnoemkdigafaaDoor
open Go.RowKit
set_option linter.unusedVariables false

set_option maxRecDepth 100000 in
set_option maxHeartbeats 8000000 in
theorem tst_h3 (kk a b : Int) (s t : ByteArray) (inn : List Stk) (A : Option Addr) (c : Nat) (d : Int) (w : World) (hd0 : 0 ≤ d) (hd : d ≤ 1000) (h3 : 3 ≤ d) (hP10 : pickN kk 10 = 2) (hB : StkB kk a b s t inn.length c) (hA : StksAt w inn A) :
    Calls Tryd.prog 16 #[.agg #[.int .i64 kk, .int .i64 a, .int .i64 b, .string s, .string t, .slice A inn.length c], .int .i64 d] w fun e w' => ∃ tv, e = .returned (.agg (List.toArray tv)) ∧ (∀ W, New w.heap.size w' W → TestV W (leafT 1 (.mk kk a b s t inn)) tv) ∧ Below w.heap.size w w' := by
  obtain ⟨wk, wa, wb, ws, wt, hc1, hc2⟩ := hB
  unfold maxLen at ws wt hc2
  have hX := Bk.new w [.int .i64 kk, .int .i64 a, .int .i64 b, .string s, .string t, .slice A inn.length c] 39
  have hbx : Below w.heap.size w (w.alloc (.cells #[.int .i64 kk, .int .i64 a, .int .i64 b, .string s, .string t, .slice A inn.length c] 39)) := bal (Below.refl _ _) _
  have HX := Lib.hid hX
  have Hbx := Lib.hid hbx
  clear hX hbx
  have P10 : ∀ W : World, Calls Tryd.prog 13 #[.int .i64 kk, .int .i64 10] W fun e w' => e = .returned (.int .i64 ((2 : Nat) : Int)) ∧ W = w' := fun W => by
    have h := picked_calls kk 10 W wk (by decide) (by decide)
    rw [hP10] at h
    exact h
  go_enter Tryd.func16, Tryd.ntmps16
  go_upto_region 1 with fail
  have hR := Bk.new (w.alloc (.cells #[.int .i64 kk, .int .i64 a, .int .i64 b, .string s, .string t, .slice A inn.length c] 39)) [.int .i64 0, .int .i64 0, .int .i64 0, .slice none 0 0, .slice none 0 0, .bool false, .int .i64 0, .slice none 0 0] 31
  have hX2 := HX.out.alloc (.cells #[.int .i64 0, .int .i64 0, .int .i64 0, .slice none 0 0, .slice none 0 0, .bool false, .int .i64 0, .slice none 0 0] 31)
  have hb2 := bal Hbx.out (.cells #[.int .i64 0, .int .i64 0, .int .i64 0, .slice none 0 0, .slice none 0 0, .bool false, .int .i64 0, .slice none 0 0] 31)
  have hs1 : (w.alloc (.cells #[.int .i64 kk, .int .i64 a, .int .i64 b, .string s, .string t, .slice A inn.length c] 39)).heap.size = w.heap.size + 1 := by simp
  rw [hs1] at hR
  have hs2 : ((w.alloc (.cells #[.int .i64 kk, .int .i64 a, .int .i64 b, .string s, .string t, .slice A inn.length c] 39)).alloc (.cells #[.int .i64 0, .int .i64 0, .int .i64 0, .slice none 0 0, .slice none 0 0, .bool false, .int .i64 0, .slice none 0 0] 31)).heap.size = w.heap.size + 2 := by simp
  have HR := Lib.hid hR
  have HX2 := Lib.hid hX2
  have Hb2 := Lib.hid hb2
  clear hR hX2 hb2 hs1 HX Hbx
  generalize (w.alloc (.cells #[.int .i64 kk, .int .i64 a, .int .i64 b, .string s, .string t, .slice A inn.length c] 39)).alloc (.cells #[.int .i64 0, .int .i64 0, .int .i64 0, .slice none 0 0, .slice none 0 0, .bool false, .int .i64 0, .slice none 0 0] 31) = w2 at *
  have x0 := HX2.out.cell 0 _ rfl
  go_upto_region 2 with (go_at_call 13; refine (P10 _).mono ?_; rintro e w' ⟨rfl, rfl⟩)
  clear P10 x0
  have hT := Bk.new w2 [.int .i64 1, .int .i64 0, .int .i64 0, .slice none 0 0, .slice none 0 0, .bool false, .int .i64 0, .slice none 0 0] 31
  have hT2 := HR.out.alloc (.cells #[.int .i64 1, .int .i64 0, .int .i64 0, .slice none 0 0, .slice none 0 0, .bool false, .int .i64 0, .slice none 0 0] 31)
  have hX3 := HX2.out.alloc (.cells #[.int .i64 1, .int .i64 0, .int .i64 0, .slice none 0 0, .slice none 0 0, .bool false, .int .i64 0, .slice none 0 0] 31)
  have hb3 := bal Hb2.out (.cells #[.int .i64 1, .int .i64 0, .int .i64 0, .slice none 0 0, .slice none 0 0, .bool false, .int .i64 0, .slice none 0 0] 31)
  rw [hs2] at hT
  have HT := Lib.hid hT
  have HR3 := Lib.hid hT2
  have HX3 := Lib.hid hX3
  have Hb3 := Lib.hid hb3
  clear hT hT2 hX3 hb3 HR HX2 Hb2
  go_upto_region 5 with fail
  have hs3 : (w2.alloc (.cells #[.int .i64 1, .int .i64 0, .int .i64 0, .slice none 0 0, .slice none 0 0, .bool false, .int .i64 0, .slice none 0 0] 31)).heap.size = w.heap.size + 3 := by simp; omega
  generalize w2.alloc (.cells #[.int .i64 1, .int .i64 0, .int .i64 0, .slice none 0 0, .slice none 0 0, .bool false, .int .i64 0, .slice none 0 0] 31) = w3 at *
  have x0 := HT.out.cell 0 _ rfl
  have x1 := HT.out.cell 1 _ rfl
  have x2 := HT.out.cell 2 _ rfl
  have x3 := HT.out.cell 3 _ rfl
  have x4 := HT.out.cell 4 _ rfl
  have x5 := HT.out.cell 5 _ rfl
  have x6 := HT.out.cell 6 _ rfl
  have x7 := HT.out.cell 7 _ rfl
  have f0 := HR3.out.frozen 0
  have y0 := HR3.out.cell 0 _ rfl
  have f1 := HR3.out.frozen 1
  have y1 := HR3.out.cell 1 _ rfl
  have f2 := HR3.out.frozen 2
  have y2 := HR3.out.cell 2 _ rfl
  have f3 := HR3.out.frozen 3
  have y3 := HR3.out.cell 3 _ rfl
  have f4 := HR3.out.frozen 4
  have y4 := HR3.out.cell 4 _ rfl
  have f5 := HR3.out.frozen 5
  have y5 := HR3.out.cell 5 _ rfl
  have f6 := HR3.out.frozen 6
  have y6 := HR3.out.cell 6 _ rfl
  have f7 := HR3.out.frozen 7
  have y7 := HR3.out.cell 7 _ rfl
  go_wp2_with fail
  have hbk := bk_eq (cs' := [.int .i64 1, .int .i64 0, .int .i64 0, .slice none 0 0, .slice none 0 0, .bool false, .int .i64 0, .slice none 0 0]) (Bk.set (Bk.set (Bk.set (Bk.set (Bk.set (Bk.set (Bk.set (Bk.set HR3.out 0 _) 1 _) 2 _) 3 _) 4 _) 5 _) 6 _) 7 _) rfl
  refine bodyPost_ret (results_cell_row rfl _ _ (w.heap.size + 1) 31 #[.int .i64 1, .int .i64 0, .int .i64 0, .slice none 0 0, .slice none 0 0, .bool false, .int .i64 0, .slice none 0 0] (0, 0) _ rfl hbk Tryd.underlying31 rfl (by kernel_rfl)) rfl ⟨[.int .i64 1, .int .i64 0, .int .i64 0, .slice none 0 0, .slice none 0 0, .bool false, .int .i64 0, .slice none 0 0], rfl, fun W hN => ?_, ?_⟩
  · exact testV_leaf W 1
  · exact (Below.setCell (Below.setCell (Below.setCell (Below.setCell (Below.setCell (Below.setCell (Below.setCell (Below.setCell Hb3.out (Nat.le_add_right _ _) _) (Nat.le_add_right _ _) _) (Nat.le_add_right _ _) _) (Nat.le_add_right _ _) _) (Nat.le_add_right _ _) _) (Nat.le_add_right _ _) _) (Nat.le_add_right _ _) _) (Nat.le_add_right _ _) _)
end Go.Proofs.YtgmnoemkdigafaaDoor
namespace Go.Proofs.YtgmnoemkdigafaaDoor
open Go.RowKit
set_option linter.unusedVariables false

set_option maxRecDepth 100000 in
set_option maxHeartbeats 8000000 in
theorem tst_h4 (kk a b : Int) (s t : ByteArray) (inn : List Stk) (A : Option Addr) (c : Nat) (d : Int) (w : World) (hd0 : 0 ≤ d) (hd : d ≤ 1000) (h3 : 3 ≤ d) (hP10 : pickN kk 10 = 3) (hB : StkB kk a b s t inn.length c) (hA : StksAt w inn A) :
    Calls Tryd.prog 16 #[.agg #[.int .i64 kk, .int .i64 a, .int .i64 b, .string s, .string t, .slice A inn.length c], .int .i64 d] w fun e w' => ∃ tv, e = .returned (.agg (List.toArray tv)) ∧ (∀ W, New w.heap.size w' W → TestV W (leafT 1 (.mk kk a b s t inn)) tv) ∧ Below w.heap.size w w' := by
  obtain ⟨wk, wa, wb, ws, wt, hc1, hc2⟩ := hB
  unfold maxLen at ws wt hc2
  have hX := Bk.new w [.int .i64 kk, .int .i64 a, .int .i64 b, .string s, .string t, .slice A inn.length c] 39
  have hbx : Below w.heap.size w (w.alloc (.cells #[.int .i64 kk, .int .i64 a, .int .i64 b, .string s, .string t, .slice A inn.length c] 39)) := bal (Below.refl _ _) _
  have HX := Lib.hid hX
  have Hbx := Lib.hid hbx
  clear hX hbx
  have P10 : ∀ W : World, Calls Tryd.prog 13 #[.int .i64 kk, .int .i64 10] W fun e w' => e = .returned (.int .i64 ((3 : Nat) : Int)) ∧ W = w' := fun W => by
    have h := picked_calls kk 10 W wk (by decide) (by decide)
    rw [hP10] at h
    exact h
  go_enter Tryd.func16, Tryd.ntmps16
  go_upto_region 1 with fail
  have hR := Bk.new (w.alloc (.cells #[.int .i64 kk, .int .i64 a, .int .i64 b, .string s, .string t, .slice A inn.length c] 39)) [.int .i64 0, .int .i64 0, .int .i64 0, .slice none 0 0, .slice none 0 0, .bool false, .int .i64 0, .slice none 0 0] 31
  have hX2 := HX.out.alloc (.cells #[.int .i64 0, .int .i64 0, .int .i64 0, .slice none 0 0, .slice none 0 0, .bool false, .int .i64 0, .slice none 0 0] 31)
  have hb2 := bal Hbx.out (.cells #[.int .i64 0, .int .i64 0, .int .i64 0, .slice none 0 0, .slice none 0 0, .bool false, .int .i64 0, .slice none 0 0] 31)
  have hs1 : (w.alloc (.cells #[.int .i64 kk, .int .i64 a, .int .i64 b, .string s, .string t, .slice A inn.length c] 39)).heap.size = w.heap.size + 1 := by simp
  rw [hs1] at hR
  have hs2 : ((w.alloc (.cells #[.int .i64 kk, .int .i64 a, .int .i64 b, .string s, .string t, .slice A inn.length c] 39)).alloc (.cells #[.int .i64 0, .int .i64 0, .int .i64 0, .slice none 0 0, .slice none 0 0, .bool false, .int .i64 0, .slice none 0 0] 31)).heap.size = w.heap.size + 2 := by simp
  have HR := Lib.hid hR
  have HX2 := Lib.hid hX2
  have Hb2 := Lib.hid hb2
  clear hR hX2 hb2 hs1 HX Hbx
  generalize (w.alloc (.cells #[.int .i64 kk, .int .i64 a, .int .i64 b, .string s, .string t, .slice A inn.length c] 39)).alloc (.cells #[.int .i64 0, .int .i64 0, .int .i64 0, .slice none 0 0, .slice none 0 0, .bool false, .int .i64 0, .slice none 0 0] 31) = w2 at *
  have x0 := HX2.out.cell 0 _ rfl
  go_upto_region 2 with (go_at_call 13; refine (P10 _).mono ?_; rintro e w' ⟨rfl, rfl⟩)
  clear P10 x0
  have hT := Bk.new w2 [.int .i64 1, .int .i64 0, .int .i64 0, .slice none 0 0, .slice none 0 0, .bool false, .int .i64 0, .slice none 0 0] 31
  have hT2 := HR.out.alloc (.cells #[.int .i64 1, .int .i64 0, .int .i64 0, .slice none 0 0, .slice none 0 0, .bool false, .int .i64 0, .slice none 0 0] 31)
  have hX3 := HX2.out.alloc (.cells #[.int .i64 1, .int .i64 0, .int .i64 0, .slice none 0 0, .slice none 0 0, .bool false, .int .i64 0, .slice none 0 0] 31)
  have hb3 := bal Hb2.out (.cells #[.int .i64 1, .int .i64 0, .int .i64 0, .slice none 0 0, .slice none 0 0, .bool false, .int .i64 0, .slice none 0 0] 31)
  rw [hs2] at hT
  have HT := Lib.hid hT
  have HR3 := Lib.hid hT2
  have HX3 := Lib.hid hX3
  have Hb3 := Lib.hid hb3
  clear hT hT2 hX3 hb3 HR HX2 Hb2
  go_upto_region 5 with fail
  have hs3 : (w2.alloc (.cells #[.int .i64 1, .int .i64 0, .int .i64 0, .slice none 0 0, .slice none 0 0, .bool false, .int .i64 0, .slice none 0 0] 31)).heap.size = w.heap.size + 3 := by simp; omega
  generalize w2.alloc (.cells #[.int .i64 1, .int .i64 0, .int .i64 0, .slice none 0 0, .slice none 0 0, .bool false, .int .i64 0, .slice none 0 0] 31) = w3 at *
  have x0 := HT.out.cell 0 _ rfl
  have x1 := HT.out.cell 1 _ rfl
  have x2 := HT.out.cell 2 _ rfl
  have x3 := HT.out.cell 3 _ rfl
  have x4 := HT.out.cell 4 _ rfl
  have x5 := HT.out.cell 5 _ rfl
  have x6 := HT.out.cell 6 _ rfl
  have x7 := HT.out.cell 7 _ rfl
  have f0 := HR3.out.frozen 0
  have y0 := HR3.out.cell 0 _ rfl
  have f1 := HR3.out.frozen 1
  have y1 := HR3.out.cell 1 _ rfl
  have f2 := HR3.out.frozen 2
  have y2 := HR3.out.cell 2 _ rfl
  have f3 := HR3.out.frozen 3
  have y3 := HR3.out.cell 3 _ rfl
  have f4 := HR3.out.frozen 4
  have y4 := HR3.out.cell 4 _ rfl
  have f5 := HR3.out.frozen 5
  have y5 := HR3.out.cell 5 _ rfl
  have f6 := HR3.out.frozen 6
  have y6 := HR3.out.cell 6 _ rfl
  have f7 := HR3.out.frozen 7
  have y7 := HR3.out.cell 7 _ rfl
  go_wp2_with fail
  have hbk := bk_eq (cs' := [.int .i64 1, .int .i64 0, .int .i64 0, .slice none 0 0, .slice none 0 0, .bool false, .int .i64 0, .slice none 0 0]) (Bk.set (Bk.set (Bk.set (Bk.set (Bk.set (Bk.set (Bk.set (Bk.set HR3.out 0 _) 1 _) 2 _) 3 _) 4 _) 5 _) 6 _) 7 _) rfl
  refine bodyPost_ret (results_cell_row rfl _ _ (w.heap.size + 1) 31 #[.int .i64 1, .int .i64 0, .int .i64 0, .slice none 0 0, .slice none 0 0, .bool false, .int .i64 0, .slice none 0 0] (0, 0) _ rfl hbk Tryd.underlying31 rfl (by kernel_rfl)) rfl ⟨[.int .i64 1, .int .i64 0, .int .i64 0, .slice none 0 0, .slice none 0 0, .bool false, .int .i64 0, .slice none 0 0], rfl, fun W hN => ?_, ?_⟩
  · exact testV_leaf W 1
  · exact (Below.setCell (Below.setCell (Below.setCell (Below.setCell (Below.setCell (Below.setCell (Below.setCell (Below.setCell Hb3.out (Nat.le_add_right _ _) _) (Nat.le_add_right _ _) _) (Nat.le_add_right _ _) _) (Nat.le_add_right _ _) _) (Nat.le_add_right _ _) _) (Nat.le_add_right _ _) _) (Nat.le_add_right _ _) _) (Nat.le_add_right _ _) _)
end Go.Proofs.YtgmnoemkdigafaaDoor
namespace Go.Proofs.YtgmnoemkdigafaaDoor
open Go.RowKit
set_option linter.unusedVariables false

set_option maxRecDepth 100000 in
set_option maxHeartbeats 8000000 in
theorem tst_h5 (kk a b : Int) (s t : ByteArray) (inn : List Stk) (A : Option Addr) (c : Nat) (d : Int) (w : World) (hd0 : 0 ≤ d) (hd : d ≤ 1000) (h3 : 3 ≤ d) (hP10 : pickN kk 10 = 4) (hB : StkB kk a b s t inn.length c) (hA : StksAt w inn A) :
    Calls Tryd.prog 16 #[.agg #[.int .i64 kk, .int .i64 a, .int .i64 b, .string s, .string t, .slice A inn.length c], .int .i64 d] w fun e w' => ∃ tv, e = .returned (.agg (List.toArray tv)) ∧ (∀ W, New w.heap.size w' W → TestV W (leafT 1 (.mk kk a b s t inn)) tv) ∧ Below w.heap.size w w' := by
  obtain ⟨wk, wa, wb, ws, wt, hc1, hc2⟩ := hB
  unfold maxLen at ws wt hc2
  have hX := Bk.new w [.int .i64 kk, .int .i64 a, .int .i64 b, .string s, .string t, .slice A inn.length c] 39
  have hbx : Below w.heap.size w (w.alloc (.cells #[.int .i64 kk, .int .i64 a, .int .i64 b, .string s, .string t, .slice A inn.length c] 39)) := bal (Below.refl _ _) _
  have HX := Lib.hid hX
  have Hbx := Lib.hid hbx
  clear hX hbx
  have P10 : ∀ W : World, Calls Tryd.prog 13 #[.int .i64 kk, .int .i64 10] W fun e w' => e = .returned (.int .i64 ((4 : Nat) : Int)) ∧ W = w' := fun W => by
    have h := picked_calls kk 10 W wk (by decide) (by decide)
    rw [hP10] at h
    exact h
  go_enter Tryd.func16, Tryd.ntmps16
  go_upto_region 1 with fail
  have hR := Bk.new (w.alloc (.cells #[.int .i64 kk, .int .i64 a, .int .i64 b, .string s, .string t, .slice A inn.length c] 39)) [.int .i64 0, .int .i64 0, .int .i64 0, .slice none 0 0, .slice none 0 0, .bool false, .int .i64 0, .slice none 0 0] 31
  have hX2 := HX.out.alloc (.cells #[.int .i64 0, .int .i64 0, .int .i64 0, .slice none 0 0, .slice none 0 0, .bool false, .int .i64 0, .slice none 0 0] 31)
  have hb2 := bal Hbx.out (.cells #[.int .i64 0, .int .i64 0, .int .i64 0, .slice none 0 0, .slice none 0 0, .bool false, .int .i64 0, .slice none 0 0] 31)
  have hs1 : (w.alloc (.cells #[.int .i64 kk, .int .i64 a, .int .i64 b, .string s, .string t, .slice A inn.length c] 39)).heap.size = w.heap.size + 1 := by simp
  rw [hs1] at hR
  have hs2 : ((w.alloc (.cells #[.int .i64 kk, .int .i64 a, .int .i64 b, .string s, .string t, .slice A inn.length c] 39)).alloc (.cells #[.int .i64 0, .int .i64 0, .int .i64 0, .slice none 0 0, .slice none 0 0, .bool false, .int .i64 0, .slice none 0 0] 31)).heap.size = w.heap.size + 2 := by simp
  have HR := Lib.hid hR
  have HX2 := Lib.hid hX2
  have Hb2 := Lib.hid hb2
  clear hR hX2 hb2 hs1 HX Hbx
  generalize (w.alloc (.cells #[.int .i64 kk, .int .i64 a, .int .i64 b, .string s, .string t, .slice A inn.length c] 39)).alloc (.cells #[.int .i64 0, .int .i64 0, .int .i64 0, .slice none 0 0, .slice none 0 0, .bool false, .int .i64 0, .slice none 0 0] 31) = w2 at *
  have x0 := HX2.out.cell 0 _ rfl
  go_upto_region 2 with (go_at_call 13; refine (P10 _).mono ?_; rintro e w' ⟨rfl, rfl⟩)
  clear P10 x0
  have hT := Bk.new w2 [.int .i64 1, .int .i64 0, .int .i64 0, .slice none 0 0, .slice none 0 0, .bool false, .int .i64 0, .slice none 0 0] 31
  have hT2 := HR.out.alloc (.cells #[.int .i64 1, .int .i64 0, .int .i64 0, .slice none 0 0, .slice none 0 0, .bool false, .int .i64 0, .slice none 0 0] 31)
  have hX3 := HX2.out.alloc (.cells #[.int .i64 1, .int .i64 0, .int .i64 0, .slice none 0 0, .slice none 0 0, .bool false, .int .i64 0, .slice none 0 0] 31)
  have hb3 := bal Hb2.out (.cells #[.int .i64 1, .int .i64 0, .int .i64 0, .slice none 0 0, .slice none 0 0, .bool false, .int .i64 0, .slice none 0 0] 31)
  rw [hs2] at hT
  have HT := Lib.hid hT
  have HR3 := Lib.hid hT2
  have HX3 := Lib.hid hX3
  have Hb3 := Lib.hid hb3
  clear hT hT2 hX3 hb3 HR HX2 Hb2
  go_upto_region 5 with fail
  have hs3 : (w2.alloc (.cells #[.int .i64 1, .int .i64 0, .int .i64 0, .slice none 0 0, .slice none 0 0, .bool false, .int .i64 0, .slice none 0 0] 31)).heap.size = w.heap.size + 3 := by simp; omega
  generalize w2.alloc (.cells #[.int .i64 1, .int .i64 0, .int .i64 0, .slice none 0 0, .slice none 0 0, .bool false, .int .i64 0, .slice none 0 0] 31) = w3 at *
  have x0 := HT.out.cell 0 _ rfl
  have x1 := HT.out.cell 1 _ rfl
  have x2 := HT.out.cell 2 _ rfl
  have x3 := HT.out.cell 3 _ rfl
  have x4 := HT.out.cell 4 _ rfl
  have x5 := HT.out.cell 5 _ rfl
  have x6 := HT.out.cell 6 _ rfl
  have x7 := HT.out.cell 7 _ rfl
  have f0 := HR3.out.frozen 0
  have y0 := HR3.out.cell 0 _ rfl
  have f1 := HR3.out.frozen 1
  have y1 := HR3.out.cell 1 _ rfl
  have f2 := HR3.out.frozen 2
  have y2 := HR3.out.cell 2 _ rfl
  have f3 := HR3.out.frozen 3
  have y3 := HR3.out.cell 3 _ rfl
  have f4 := HR3.out.frozen 4
  have y4 := HR3.out.cell 4 _ rfl
  have f5 := HR3.out.frozen 5
  have y5 := HR3.out.cell 5 _ rfl
  have f6 := HR3.out.frozen 6
  have y6 := HR3.out.cell 6 _ rfl
  have f7 := HR3.out.frozen 7
  have y7 := HR3.out.cell 7 _ rfl
  go_wp2_with fail
  have hbk := bk_eq (cs' := [.int .i64 1, .int .i64 0, .int .i64 0, .slice none 0 0, .slice none 0 0, .bool false, .int .i64 0, .slice none 0 0]) (Bk.set (Bk.set (Bk.set (Bk.set (Bk.set (Bk.set (Bk.set (Bk.set HR3.out 0 _) 1 _) 2 _) 3 _) 4 _) 5 _) 6 _) 7 _) rfl
  refine bodyPost_ret (results_cell_row rfl _ _ (w.heap.size + 1) 31 #[.int .i64 1, .int .i64 0, .int .i64 0, .slice none 0 0, .slice none 0 0, .bool false, .int .i64 0, .slice none 0 0] (0, 0) _ rfl hbk Tryd.underlying31 rfl (by kernel_rfl)) rfl ⟨[.int .i64 1, .int .i64 0, .int .i64 0, .slice none 0 0, .slice none 0 0, .bool false, .int .i64 0, .slice none 0 0], rfl, fun W hN => ?_, ?_⟩
  · exact testV_leaf W 1
  · exact (Below.setCell (Below.setCell (Below.setCell (Below.setCell (Below.setCell (Below.setCell (Below.setCell (Below.setCell Hb3.out (Nat.le_add_right _ _) _) (Nat.le_add_right _ _) _) (Nat.le_add_right _ _) _) (Nat.le_add_right _ _) _) (Nat.le_add_right _ _) _) (Nat.le_add_right _ _) _) (Nat.le_add_right _ _) _) (Nat.le_add_right _ _) _)
end Go.Proofs.YtgmnoemkdigafaaDoor
