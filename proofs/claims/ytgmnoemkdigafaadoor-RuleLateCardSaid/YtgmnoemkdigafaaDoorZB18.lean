/- The helper Test of the statements: kind 10. The helper Test of the statements, where it is deep: a test that asks for no other ones. The helper Test of the statements: kind 3. The helper Test of the statements: kind 4. The helper Test of the statements: kind 5. The helper Test of the statements: the test of a stick, n deep. Parts of a list of sticks in memory. -/
import Derived.Test.YtgmnoemkdigafaaDoorZB1
import Derived.Laws.Rows
import Derived.Deep.RegionLaw
import Derived.Deep.AppendLies
import Derived.Deep.DeepCutAuto
import Derived.Deep.CutBlock
import Derived.RegionTactic
import Derived.BigRegion
import Derived.Test.YtgmnoemkdigafaaDoorZB12
import Derived.Test.YtgmnoemkdigafaaDoorZB13
import Derived.Test.YtgmnoemkdigafaaDoorZB14
import Derived.Test.YtgmnoemkdigafaaDoorZB15
import Derived.Test.YtgmnoemkdigafaaDoorZB16
import Derived.Test.YtgmnoemkdigafaaDoorZB17
namespace Go.Proofs.YtgmnoemkdigafaaDoor
open Go.RowKit
set_option linter.unusedVariables false

set_option maxRecDepth 100000 in
set_option maxHeartbeats 8000000 in
theorem tst_10 (kk a b : Int) (s t : ByteArray) (inn : List Stk) (A : Option Addr) (c : Nat) (d : Int) (w : World) (hd0 : 0 ≤ d) (hd : d ≤ 1000) (hP10 : pickN kk 10 = 9) (hB : StkB kk a b s t inn.length c) (hA : StksAt w inn A) :
    Calls Tryd.prog 16 #[.agg #[.int .i64 kk, .int .i64 a, .int .i64 b, .string s, .string t, .slice A inn.length c], .int .i64 d] w fun e w' => ∃ tv, e = .returned (.agg (List.toArray tv)) ∧ (∀ W, New w.heap.size w' W → TestV W (leafT 10 (.mk kk a b s t inn)) tv) ∧ Below w.heap.size w w' := by
  obtain ⟨wk, wa, wb, ws, wt, hc1, hc2⟩ := hB
  unfold maxLen at ws wt hc2
  have hX := Bk.new w [.int .i64 kk, .int .i64 a, .int .i64 b, .string s, .string t, .slice A inn.length c] 39
  have hbx : Below w.heap.size w (w.alloc (.cells #[.int .i64 kk, .int .i64 a, .int .i64 b, .string s, .string t, .slice A inn.length c] 39)) := bal (Below.refl _ _) _
  have HX := Lib.hid hX
  have Hbx := Lib.hid hbx
  clear hX hbx
  have P10 : ∀ W : World, Calls Tryd.prog 13 #[.int .i64 kk, .int .i64 10] W fun e w' => e = .returned (.int .i64 ((9 : Nat) : Int)) ∧ W = w' := fun W => by
    have h := picked_calls kk 10 W wk (by decide) (by decide)
    rw [hP10] at h
    exact h
  have PA3 := fun W : World => picked_calls a 3 W wa (by decide) (by decide)
  have PA2 := fun W : World => picked_calls a 2 W wa (by decide) (by decide)
  have PB4 := fun W : World => picked_calls b 4 W wb (by decide) (by decide)
  have PB3 := fun W : World => picked_calls b 3 W wb (by decide) (by decide)
  have PB2 := fun W : World => picked_calls b 2 W wb (by decide) (by decide)
  have la3 := pickN_lt a 3 (by decide)
  have la2 := pickN_lt a 2 (by decide)
  have lb4 := pickN_lt b 4 (by decide)
  have lb3 := pickN_lt b 3 (by decide)
  have lb2 := pickN_lt b 2 (by decide)
  have SS := fun W : World => short_calls s (by omega) W
  have ST := fun W : World => short_calls t (by omega) W
  go_enter Tryd.func16, Tryd.ntmps16
  go_upto_region 1 with fail
  have hR := Bk.new (w.alloc (.cells #[.int .i64 kk, .int .i64 a, .int .i64 b, .string s, .string t, .slice A inn.length c] 39)) [.int .i64 0, .int .i64 0, .int .i64 0, .slice none 0 0, .slice none 0 0, .bool false, .int .i64 0, .slice none 0 0] 31
  have hX2 := HX.out.alloc (.cells #[.int .i64 0, .int .i64 0, .int .i64 0, .slice none 0 0, .slice none 0 0, .bool false, .int .i64 0, .slice none 0 0] 31)
  have hb2 := bal Hbx.out (.cells #[.int .i64 0, .int .i64 0, .int .i64 0, .slice none 0 0, .slice none 0 0, .bool false, .int .i64 0, .slice none 0 0] 31)
  have hs1 : (w.alloc (.cells #[.int .i64 kk, .int .i64 a, .int .i64 b, .string s, .string t, .slice A inn.length c] 39)).heap.size = w.heap.size + 1 := by simp
  rw [hs1] at hR
  have hs2 : ((w.alloc (.cells #[.int .i64 kk, .int .i64 a, .int .i64 b, .string s, .string t, .slice A inn.length c] 39)).alloc (.cells #[.int .i64 0, .int .i64 0, .int .i64 0, .slice none 0 0, .slice none 0 0, .bool false, .int .i64 0, .slice none 0 0] 31)).heap.size = w.heap.size + 2 := by simp
  have HR := Lib.hid hR
  have HX2 := Lib.hid hX2
  have Hb2 := Lib.hid hb2
  clear hR hX2 hb2 hs1 HX Hbx
  generalize (w.alloc (.cells #[.int .i64 kk, .int .i64 a, .int .i64 b, .string s, .string t, .slice A inn.length c] 39)).alloc (.cells #[.int .i64 0, .int .i64 0, .int .i64 0, .slice none 0 0, .slice none 0 0, .bool false, .int .i64 0, .slice none 0 0] 31) = w2 at *
  have x0 := HX2.out.cell 0 _ rfl
  go_upto_region 2 with (go_at_call 13; refine (P10 _).mono ?_; rintro e w' ⟨rfl, rfl⟩)
  clear P10 x0
  by_cases h3 : 3 ≤ d
  all_goals (
    have hT := Bk.new w2 [.int .i64 10, .int .i64 0, .int .i64 0, .slice none 0 0, .slice none 0 0, .bool false, .int .i64 0, .slice none 0 0] 31
    have hT2 := HR.out.alloc (.cells #[.int .i64 10, .int .i64 0, .int .i64 0, .slice none 0 0, .slice none 0 0, .bool false, .int .i64 0, .slice none 0 0] 31)
    have hX3 := HX2.out.alloc (.cells #[.int .i64 10, .int .i64 0, .int .i64 0, .slice none 0 0, .slice none 0 0, .bool false, .int .i64 0, .slice none 0 0] 31)
    have hb3 := bal Hb2.out (.cells #[.int .i64 10, .int .i64 0, .int .i64 0, .slice none 0 0, .slice none 0 0, .bool false, .int .i64 0, .slice none 0 0] 31)
    rw [hs2] at hT
    have HT := Lib.hid hT
    have HR3 := Lib.hid hT2
    have HX3 := Lib.hid hX3
    have Hb3 := Lib.hid hb3
    clear hT hT2 hX3 hb3 HR HX2 Hb2
    go_upto_region 5 with fail
    have hs3 : (w2.alloc (.cells #[.int .i64 10, .int .i64 0, .int .i64 0, .slice none 0 0, .slice none 0 0, .bool false, .int .i64 0, .slice none 0 0] 31)).heap.size = w.heap.size + 3 := by simp; omega
    generalize w2.alloc (.cells #[.int .i64 10, .int .i64 0, .int .i64 0, .slice none 0 0, .slice none 0 0, .bool false, .int .i64 0, .slice none 0 0] 31) = w3 at *
    have PB400 := fun W : World => picked_calls b 400 W wb (by decide) (by decide)
    by_cases hq : pickN a 2 = 1
    · have hq1 : ((pickN a 2 : Int) == 1) = true := by rw [hq]; rfl
      have x1 := HX3.out.cell 1 _ rfl
      have f5 := HT.out.frozen 5
      have y5 := HT.out.cell 5 _ rfl
      go_upto_region 36 with (go_at_call 13; (first | (with_reducible refine (PA3 _).mono ?_) | (with_reducible refine (PB4 _).mono ?_) | (with_reducible refine (PB3 _).mono ?_) | (with_reducible refine (PB2 _).mono ?_) | (with_reducible refine (PA2 _).mono ?_) | (with_reducible refine (PB400 _).mono ?_)); rintro e w' ⟨rfl, rfl⟩)
      have hs4 : (w3.setCell ⟨(w.heap.size + 2), 5, none⟩ (.bool true)).heap.size = w.heap.size + 3 := by first | (simp; done) | (simp; omega)
      have hT4 : Bk (w3.setCell ⟨(w.heap.size + 2), 5, none⟩ (.bool true)) (w.heap.size + 2) [.int .i64 10, .int .i64 0, .int .i64 0, .slice none 0 0, .slice none 0 0, .bool true, .int .i64 0, .slice none 0 0] 31 := (Bk.set HT.out 5 (.bool true))
      have hR4 : Bk (w3.setCell ⟨(w.heap.size + 2), 5, none⟩ (.bool true)) (w.heap.size + 1) [.int .i64 0, .int .i64 0, .int .i64 0, .slice none 0 0, .slice none 0 0, .bool false, .int .i64 0, .slice none 0 0] 31 := (Bk.other (c := (w.heap.size + 2)) HR3.out (by omega) 5 (.bool true))
      have hX4 : Bk (w3.setCell ⟨(w.heap.size + 2), 5, none⟩ (.bool true)) w.heap.size [.int .i64 kk, .int .i64 a, .int .i64 b, .string s, .string t, .slice A inn.length c] 39 := (Bk.other (c := (w.heap.size + 2)) HX3.out (by omega) 5 (.bool true))
      have hb4 : Below w.heap.size w (w3.setCell ⟨(w.heap.size + 2), 5, none⟩ (.bool true)) := (Below.setCell (p := ⟨(w.heap.size + 2), 5, none⟩) Hb3.out (Nat.le_add_right _ _) (.bool true))
      have HT4 := Lib.hid hT4
      have HR4 := Lib.hid hR4
      have HX4 := Lib.hid hX4
      have HB4 := Lib.hid hb4
      clear hT4 hR4 hX4 hb4 HT HR3 HX3 Hb3
      generalize w3.setCell ⟨(w.heap.size + 2), 5, none⟩ (.bool true) = w4 at *
      clear x1 f5 y5
      have x2 := HX4.out.cell 2 _ rfl
      have f6 := HT4.out.frozen 6
      have y6 := HT4.out.cell 6 _ rfl
      go_upto_region 37 with (go_at_call 13; (first | (with_reducible refine (PA3 _).mono ?_) | (with_reducible refine (PB4 _).mono ?_) | (with_reducible refine (PB3 _).mono ?_) | (with_reducible refine (PB2 _).mono ?_) | (with_reducible refine (PA2 _).mono ?_) | (with_reducible refine (PB400 _).mono ?_)); rintro e w' ⟨rfl, rfl⟩)
      have hs5 : (w4.setCell ⟨(w.heap.size + 2), 6, none⟩ (.int .i64 (pickN b 400 : Int))).heap.size = w.heap.size + 3 := by first | (simp; done) | (simp; omega)
      have hT5 : Bk (w4.setCell ⟨(w.heap.size + 2), 6, none⟩ (.int .i64 (pickN b 400 : Int))) (w.heap.size + 2) [.int .i64 10, .int .i64 0, .int .i64 0, .slice none 0 0, .slice none 0 0, .bool true, .int .i64 (pickN b 400 : Int), .slice none 0 0] 31 := (Bk.set HT4.out 6 (.int .i64 (pickN b 400 : Int)))
      have hR5 : Bk (w4.setCell ⟨(w.heap.size + 2), 6, none⟩ (.int .i64 (pickN b 400 : Int))) (w.heap.size + 1) [.int .i64 0, .int .i64 0, .int .i64 0, .slice none 0 0, .slice none 0 0, .bool false, .int .i64 0, .slice none 0 0] 31 := (Bk.other (c := (w.heap.size + 2)) HR4.out (by omega) 6 (.int .i64 (pickN b 400 : Int)))
      have hX5 : Bk (w4.setCell ⟨(w.heap.size + 2), 6, none⟩ (.int .i64 (pickN b 400 : Int))) w.heap.size [.int .i64 kk, .int .i64 a, .int .i64 b, .string s, .string t, .slice A inn.length c] 39 := (Bk.other (c := (w.heap.size + 2)) HX4.out (by omega) 6 (.int .i64 (pickN b 400 : Int)))
      have hb5 : Below w.heap.size w (w4.setCell ⟨(w.heap.size + 2), 6, none⟩ (.int .i64 (pickN b 400 : Int))) := (Below.setCell (p := ⟨(w.heap.size + 2), 6, none⟩) HB4.out (Nat.le_add_right _ _) (.int .i64 (pickN b 400 : Int)))
      have HT5 := Lib.hid hT5
      have HR5 := Lib.hid hR5
      have HX5 := Lib.hid hX5
      have HB5 := Lib.hid hb5
      clear hT5 hR5 hX5 hb5 HT4 HR4 HX4 HB4
      generalize w4.setCell ⟨(w.heap.size + 2), 6, none⟩ (.int .i64 (pickN b 400 : Int)) = w5 at *
      clear x2 f6 y6
      have x0 := HT5.out.cell 0 _ rfl
      have x1 := HT5.out.cell 1 _ rfl
      have x2 := HT5.out.cell 2 _ rfl
      have x3 := HT5.out.cell 3 _ rfl
      have x4 := HT5.out.cell 4 _ rfl
      have x5 := HT5.out.cell 5 _ rfl
      have x6 := HT5.out.cell 6 _ rfl
      have x7 := HT5.out.cell 7 _ rfl
      have f0 := HR5.out.frozen 0
      have y0 := HR5.out.cell 0 _ rfl
      have f1 := HR5.out.frozen 1
      have y1 := HR5.out.cell 1 _ rfl
      have f2 := HR5.out.frozen 2
      have y2 := HR5.out.cell 2 _ rfl
      have f3 := HR5.out.frozen 3
      have y3 := HR5.out.cell 3 _ rfl
      have f4 := HR5.out.frozen 4
      have y4 := HR5.out.cell 4 _ rfl
      have f5 := HR5.out.frozen 5
      have y5 := HR5.out.cell 5 _ rfl
      have f6 := HR5.out.frozen 6
      have y6 := HR5.out.cell 6 _ rfl
      have f7 := HR5.out.frozen 7
      have y7 := HR5.out.cell 7 _ rfl
      go_wp2_with fail
      have hbk := bk_eq (cs' := [.int .i64 10, .int .i64 0, .int .i64 0, .slice none 0 0, .slice none 0 0, .bool true, .int .i64 (pickN b 400 : Int), .slice none 0 0]) (Bk.set (Bk.set (Bk.set (Bk.set (Bk.set (Bk.set (Bk.set (Bk.set HR5.out 0 _) 1 _) 2 _) 3 _) 4 _) 5 _) 6 _) 7 _) rfl
      refine bodyPost_ret (results_cell_row rfl _ _ (w.heap.size + 1) 31 #[.int .i64 10, .int .i64 0, .int .i64 0, .slice none 0 0, .slice none 0 0, .bool true, .int .i64 (pickN b 400 : Int), .slice none 0 0] (0, 0) _ rfl hbk Tryd.underlying31 rfl (by kernel_rfl)) rfl ⟨[.int .i64 10, .int .i64 0, .int .i64 0, .slice none 0 0, .slice none 0 0, .bool true, .int .i64 (pickN b 400 : Int), .slice none 0 0], rfl, fun W hN => ?_, ?_⟩
      · show TestV W (.mk 10 0 0 [] [] (decide (pickN a 2 = 1)) (pickN b 400) []) _
        have hk : decide (pickN a 2 = 1) = true := by simp [hq]
        rw [hk]
        unfold TestV
        exact ⟨none, 0, none, 0, none, 0, rfl, .inl rfl, .inl rfl, by unfold TestsAt; trivial, by simp⟩
      · exact (Below.setCell (Below.setCell (Below.setCell (Below.setCell (Below.setCell (Below.setCell (Below.setCell (Below.setCell HB5.out (Nat.le_add_right _ _) _) (Nat.le_add_right _ _) _) (Nat.le_add_right _ _) _) (Nat.le_add_right _ _) _) (Nat.le_add_right _ _) _) (Nat.le_add_right _ _) _) (Nat.le_add_right _ _) _) (Nat.le_add_right _ _) _)
    · have hq1 : ((pickN a 2 : Int) == 1) = false := by rw [beq_eq_false_iff_ne]; omega
      have x1 := HX3.out.cell 1 _ rfl
      have f5 := HT.out.frozen 5
      have y5 := HT.out.cell 5 _ rfl
      go_upto_region 36 with (go_at_call 13; (first | (with_reducible refine (PA3 _).mono ?_) | (with_reducible refine (PB4 _).mono ?_) | (with_reducible refine (PB3 _).mono ?_) | (with_reducible refine (PB2 _).mono ?_) | (with_reducible refine (PA2 _).mono ?_) | (with_reducible refine (PB400 _).mono ?_)); rintro e w' ⟨rfl, rfl⟩)
      have hs4 : (w3.setCell ⟨(w.heap.size + 2), 5, none⟩ (.bool false)).heap.size = w.heap.size + 3 := by first | (simp; done) | (simp; omega)
      have hT4 : Bk (w3.setCell ⟨(w.heap.size + 2), 5, none⟩ (.bool false)) (w.heap.size + 2) [.int .i64 10, .int .i64 0, .int .i64 0, .slice none 0 0, .slice none 0 0, .bool false, .int .i64 0, .slice none 0 0] 31 := (Bk.set HT.out 5 (.bool false))
      have hR4 : Bk (w3.setCell ⟨(w.heap.size + 2), 5, none⟩ (.bool false)) (w.heap.size + 1) [.int .i64 0, .int .i64 0, .int .i64 0, .slice none 0 0, .slice none 0 0, .bool false, .int .i64 0, .slice none 0 0] 31 := (Bk.other (c := (w.heap.size + 2)) HR3.out (by omega) 5 (.bool false))
      have hX4 : Bk (w3.setCell ⟨(w.heap.size + 2), 5, none⟩ (.bool false)) w.heap.size [.int .i64 kk, .int .i64 a, .int .i64 b, .string s, .string t, .slice A inn.length c] 39 := (Bk.other (c := (w.heap.size + 2)) HX3.out (by omega) 5 (.bool false))
      have hb4 : Below w.heap.size w (w3.setCell ⟨(w.heap.size + 2), 5, none⟩ (.bool false)) := (Below.setCell (p := ⟨(w.heap.size + 2), 5, none⟩) Hb3.out (Nat.le_add_right _ _) (.bool false))
      have HT4 := Lib.hid hT4
      have HR4 := Lib.hid hR4
      have HX4 := Lib.hid hX4
      have HB4 := Lib.hid hb4
      clear hT4 hR4 hX4 hb4 HT HR3 HX3 Hb3
      generalize w3.setCell ⟨(w.heap.size + 2), 5, none⟩ (.bool false) = w4 at *
      clear x1 f5 y5
      have x2 := HX4.out.cell 2 _ rfl
      have f6 := HT4.out.frozen 6
      have y6 := HT4.out.cell 6 _ rfl
      go_upto_region 37 with (go_at_call 13; (first | (with_reducible refine (PA3 _).mono ?_) | (with_reducible refine (PB4 _).mono ?_) | (with_reducible refine (PB3 _).mono ?_) | (with_reducible refine (PB2 _).mono ?_) | (with_reducible refine (PA2 _).mono ?_) | (with_reducible refine (PB400 _).mono ?_)); rintro e w' ⟨rfl, rfl⟩)
      have hs5 : (w4.setCell ⟨(w.heap.size + 2), 6, none⟩ (.int .i64 (pickN b 400 : Int))).heap.size = w.heap.size + 3 := by first | (simp; done) | (simp; omega)
      have hT5 : Bk (w4.setCell ⟨(w.heap.size + 2), 6, none⟩ (.int .i64 (pickN b 400 : Int))) (w.heap.size + 2) [.int .i64 10, .int .i64 0, .int .i64 0, .slice none 0 0, .slice none 0 0, .bool false, .int .i64 (pickN b 400 : Int), .slice none 0 0] 31 := (Bk.set HT4.out 6 (.int .i64 (pickN b 400 : Int)))
      have hR5 : Bk (w4.setCell ⟨(w.heap.size + 2), 6, none⟩ (.int .i64 (pickN b 400 : Int))) (w.heap.size + 1) [.int .i64 0, .int .i64 0, .int .i64 0, .slice none 0 0, .slice none 0 0, .bool false, .int .i64 0, .slice none 0 0] 31 := (Bk.other (c := (w.heap.size + 2)) HR4.out (by omega) 6 (.int .i64 (pickN b 400 : Int)))
      have hX5 : Bk (w4.setCell ⟨(w.heap.size + 2), 6, none⟩ (.int .i64 (pickN b 400 : Int))) w.heap.size [.int .i64 kk, .int .i64 a, .int .i64 b, .string s, .string t, .slice A inn.length c] 39 := (Bk.other (c := (w.heap.size + 2)) HX4.out (by omega) 6 (.int .i64 (pickN b 400 : Int)))
      have hb5 : Below w.heap.size w (w4.setCell ⟨(w.heap.size + 2), 6, none⟩ (.int .i64 (pickN b 400 : Int))) := (Below.setCell (p := ⟨(w.heap.size + 2), 6, none⟩) HB4.out (Nat.le_add_right _ _) (.int .i64 (pickN b 400 : Int)))
      have HT5 := Lib.hid hT5
      have HR5 := Lib.hid hR5
      have HX5 := Lib.hid hX5
      have HB5 := Lib.hid hb5
      clear hT5 hR5 hX5 hb5 HT4 HR4 HX4 HB4
      generalize w4.setCell ⟨(w.heap.size + 2), 6, none⟩ (.int .i64 (pickN b 400 : Int)) = w5 at *
      clear x2 f6 y6
      have x0 := HT5.out.cell 0 _ rfl
      have x1 := HT5.out.cell 1 _ rfl
      have x2 := HT5.out.cell 2 _ rfl
      have x3 := HT5.out.cell 3 _ rfl
      have x4 := HT5.out.cell 4 _ rfl
      have x5 := HT5.out.cell 5 _ rfl
      have x6 := HT5.out.cell 6 _ rfl
      have x7 := HT5.out.cell 7 _ rfl
      have f0 := HR5.out.frozen 0
      have y0 := HR5.out.cell 0 _ rfl
      have f1 := HR5.out.frozen 1
      have y1 := HR5.out.cell 1 _ rfl
      have f2 := HR5.out.frozen 2
      have y2 := HR5.out.cell 2 _ rfl
      have f3 := HR5.out.frozen 3
      have y3 := HR5.out.cell 3 _ rfl
      have f4 := HR5.out.frozen 4
      have y4 := HR5.out.cell 4 _ rfl
      have f5 := HR5.out.frozen 5
      have y5 := HR5.out.cell 5 _ rfl
      have f6 := HR5.out.frozen 6
      have y6 := HR5.out.cell 6 _ rfl
      have f7 := HR5.out.frozen 7
      have y7 := HR5.out.cell 7 _ rfl
      go_wp2_with fail
      have hbk := bk_eq (cs' := [.int .i64 10, .int .i64 0, .int .i64 0, .slice none 0 0, .slice none 0 0, .bool false, .int .i64 (pickN b 400 : Int), .slice none 0 0]) (Bk.set (Bk.set (Bk.set (Bk.set (Bk.set (Bk.set (Bk.set (Bk.set HR5.out 0 _) 1 _) 2 _) 3 _) 4 _) 5 _) 6 _) 7 _) rfl
      refine bodyPost_ret (results_cell_row rfl _ _ (w.heap.size + 1) 31 #[.int .i64 10, .int .i64 0, .int .i64 0, .slice none 0 0, .slice none 0 0, .bool false, .int .i64 (pickN b 400 : Int), .slice none 0 0] (0, 0) _ rfl hbk Tryd.underlying31 rfl (by kernel_rfl)) rfl ⟨[.int .i64 10, .int .i64 0, .int .i64 0, .slice none 0 0, .slice none 0 0, .bool false, .int .i64 (pickN b 400 : Int), .slice none 0 0], rfl, fun W hN => ?_, ?_⟩
      · show TestV W (.mk 10 0 0 [] [] (decide (pickN a 2 = 1)) (pickN b 400) []) _
        have hk : decide (pickN a 2 = 1) = false := by simp [hq]
        rw [hk]
        unfold TestV
        exact ⟨none, 0, none, 0, none, 0, rfl, .inl rfl, .inl rfl, by unfold TestsAt; trivial, by simp⟩
      · exact (Below.setCell (Below.setCell (Below.setCell (Below.setCell (Below.setCell (Below.setCell (Below.setCell (Below.setCell HB5.out (Nat.le_add_right _ _) _) (Nat.le_add_right _ _) _) (Nat.le_add_right _ _) _) (Nat.le_add_right _ _) _) (Nat.le_add_right _ _) _) (Nat.le_add_right _ _) _) (Nat.le_add_right _ _) _) (Nat.le_add_right _ _) _))
end Go.Proofs.YtgmnoemkdigafaaDoor
namespace Go.Proofs.YtgmnoemkdigafaaDoor
open Go.RowKit
set_option linter.unusedVariables false

theorem test0_calls (x : Stk) (d : Int) (vs : List Value) (w : World) (h3 : 3 ≤ d) (hd : d ≤ 1000) (hv : StkV w x vs) :
    Calls Tryd.prog 16 #[.agg vs.toArray, .int .i64 d] w (TestA (testN 0 x) w) := by
  obtain ⟨kk, a, b, s, t, inn⟩ := x
  unfold StkV at hv
  obtain ⟨A, c, rfl, hA, hB⟩ := hv
  have hp := pickN_lt kk 10 (by decide)
  have hk : ∀ (v K : Nat), pickN kk 10 = v → (if 3 ≤ 1 + (v : Int) ∧ 1 + (v : Int) ≤ 5 then (1 : Int) else 1 + v) = K → testN 0 (.mk kk a b s t inn) = leafT K (.mk kk a b s t inn) := fun v K h1 h2 => by
    subst h1
    rw [← h2]
    rfl
  have hd0 : 0 ≤ d := by omega
  rcases (show pickN kk 10 = 0 ∨ pickN kk 10 = 1 ∨ pickN kk 10 = 2 ∨ pickN kk 10 = 3 ∨ pickN kk 10 = 4 ∨ pickN kk 10 = 5 ∨ pickN kk 10 = 6 ∨ pickN kk 10 = 7 ∨ pickN kk 10 = 8 ∨ pickN kk 10 = 9 by omega) with h | h | h | h | h | h | h | h | h | h
  · exact testA_of (tst_1 kk a b s t inn A c d w hd0 hd h hB hA) (hk 0 1 h (by decide))
  · exact testA_of (tst_2 kk a b s t inn A c d w hd0 hd h hB hA) (hk 1 2 h (by decide))
  · exact testA_of (tst_h3 kk a b s t inn A c d w hd0 hd h3 h hB hA) (hk 2 1 h (by decide))
  · exact testA_of (tst_h4 kk a b s t inn A c d w hd0 hd h3 h hB hA) (hk 3 1 h (by decide))
  · exact testA_of (tst_h5 kk a b s t inn A c d w hd0 hd h3 h hB hA) (hk 4 1 h (by decide))
  · exact testA_of (tst_6 kk a b s t inn A c d w hd0 hd h hB hA) (hk 5 6 h (by decide))
  · exact testA_of (tst_7 kk a b s t inn A c d w hd0 hd h hB hA) (hk 6 7 h (by decide))
  · exact testA_of (tst_8 kk a b s t inn A c d w hd0 hd h hB hA) (hk 7 8 h (by decide))
  · exact testA_of (tst_9 kk a b s t inn A c d w hd0 hd h hB hA) (hk 8 9 h (by decide))
  · exact testA_of (tst_10 kk a b s t inn A c d w hd0 hd h hB hA) (hk 9 10 h (by decide))
end Go.Proofs.YtgmnoemkdigafaaDoor
namespace Go.Proofs.YtgmnoemkdigafaaDoor
open Go.RowKit
set_option linter.unusedVariables false

set_option maxRecDepth 100000 in
set_option maxHeartbeats 8000000 in
theorem tst_3 (kk a b : Int) (s t : ByteArray) (inn : List Stk) (A : Option Addr) (c : Nat) (d : Int) (w : World) (hd0 : 0 ≤ d) (hd : d ≤ 1000) (tn : Stk → Tst) (ih : ∀ (y : Stk) (vs : List Value) (W : World), StkV W y vs → Calls Tryd.prog 16 #[.agg vs.toArray, .int .i64 (d + 1)] W (TestA (tn y) W)) (h3 : d < 3) (hP10 : pickN kk 10 = 2) (hB : StkB kk a b s t inn.length c) (hA : StksAt w inn A) :
    Calls Tryd.prog 16 #[.agg #[.int .i64 kk, .int .i64 a, .int .i64 b, .string s, .string t, .slice A inn.length c], .int .i64 d] w fun e w' => ∃ tv, e = .returned (.agg (List.toArray tv)) ∧ (∀ W, New w.heap.size w' W → TestV W (.mk 3 0 0 [] [] false 0 [tn (Stk.mk kk a b s t inn).fst]) tv) ∧ Below w.heap.size w w' := by
  obtain ⟨wk, wa, wb, ws, wt, hc1, hc2⟩ := hB
  unfold maxLen at ws wt hc2
  have hX := Bk.new w [.int .i64 kk, .int .i64 a, .int .i64 b, .string s, .string t, .slice A inn.length c] 39
  have hbx : Below w.heap.size w (w.alloc (.cells #[.int .i64 kk, .int .i64 a, .int .i64 b, .string s, .string t, .slice A inn.length c] 39)) := bal (Below.refl _ _) _
  have HX := Lib.hid hX
  have Hbx := Lib.hid hbx
  clear hX hbx
  have P10 : ∀ W : World, Calls Tryd.prog 13 #[.int .i64 kk, .int .i64 10] W fun e w' => e = .returned (.int .i64 ((2 : Nat) : Int)) ∧ W = w' := fun W => by
    have h := picked_calls kk 10 W wk (by decide) (by decide)
    rw [hP10] at h
    exact h
  have Hih := Lib.hid ih
  have HA := Lib.hid hA
  clear ih hA
  go_enter Tryd.func16, Tryd.ntmps16
  go_upto_region 1 with fail
  have hR := Bk.new (w.alloc (.cells #[.int .i64 kk, .int .i64 a, .int .i64 b, .string s, .string t, .slice A inn.length c] 39)) [.int .i64 0, .int .i64 0, .int .i64 0, .slice none 0 0, .slice none 0 0, .bool false, .int .i64 0, .slice none 0 0] 31
  have hX2 := HX.out.alloc (.cells #[.int .i64 0, .int .i64 0, .int .i64 0, .slice none 0 0, .slice none 0 0, .bool false, .int .i64 0, .slice none 0 0] 31)
  have hb2 := bal Hbx.out (.cells #[.int .i64 0, .int .i64 0, .int .i64 0, .slice none 0 0, .slice none 0 0, .bool false, .int .i64 0, .slice none 0 0] 31)
  have hs1 : (w.alloc (.cells #[.int .i64 kk, .int .i64 a, .int .i64 b, .string s, .string t, .slice A inn.length c] 39)).heap.size = w.heap.size + 1 := by simp
  rw [hs1] at hR
  have hs2 : ((w.alloc (.cells #[.int .i64 kk, .int .i64 a, .int .i64 b, .string s, .string t, .slice A inn.length c] 39)).alloc (.cells #[.int .i64 0, .int .i64 0, .int .i64 0, .slice none 0 0, .slice none 0 0, .bool false, .int .i64 0, .slice none 0 0] 31)).heap.size = w.heap.size + 2 := by simp
  have HR := Lib.hid hR
  have HX2 := Lib.hid hX2
  have Hb2 := Lib.hid hb2
  clear hR hX2 hb2 hs1 HX Hbx
  generalize (w.alloc (.cells #[.int .i64 kk, .int .i64 a, .int .i64 b, .string s, .string t, .slice A inn.length c] 39)).alloc (.cells #[.int .i64 0, .int .i64 0, .int .i64 0, .slice none 0 0, .slice none 0 0, .bool false, .int .i64 0, .slice none 0 0] 31) = w2 at *
  have x0 := HX2.out.cell 0 _ rfl
  go_upto_region 2 with (go_at_call 13; refine (P10 _).mono ?_; rintro e w' ⟨rfl, rfl⟩)
  clear P10 x0
  have hT := Bk.new w2 [.int .i64 3, .int .i64 0, .int .i64 0, .slice none 0 0, .slice none 0 0, .bool false, .int .i64 0, .slice none 0 0] 31
  have hT2 := HR.out.alloc (.cells #[.int .i64 3, .int .i64 0, .int .i64 0, .slice none 0 0, .slice none 0 0, .bool false, .int .i64 0, .slice none 0 0] 31)
  have hX3 := HX2.out.alloc (.cells #[.int .i64 3, .int .i64 0, .int .i64 0, .slice none 0 0, .slice none 0 0, .bool false, .int .i64 0, .slice none 0 0] 31)
  have hb3 := bal Hb2.out (.cells #[.int .i64 3, .int .i64 0, .int .i64 0, .slice none 0 0, .slice none 0 0, .bool false, .int .i64 0, .slice none 0 0] 31)
  rw [hs2] at hT
  have HT := Lib.hid hT
  have HR3 := Lib.hid hT2
  have HX3 := Lib.hid hX3
  have Hb3 := Lib.hid hb3
  clear hT hT2 hX3 hb3 HR HX2 Hb2
  go_upto_region 5 with fail
  have hs3 : (w2.alloc (.cells #[.int .i64 3, .int .i64 0, .int .i64 0, .slice none 0 0, .slice none 0 0, .bool false, .int .i64 0, .slice none 0 0] 31)).heap.size = w.heap.size + 3 := by simp; omega
  generalize w2.alloc (.cells #[.int .i64 3, .int .i64 0, .int .i64 0, .slice none 0 0, .slice none 0 0, .bool false, .int .i64 0, .slice none 0 0] 31) = w3 at *
  have x1 := HX3.out.cell 1 _ rfl
  go_upto_region 8 with fail
  have hs4 : (w3.alloc (.cells #[.int .i64 a, .int .i64 0, .int .i64 0, .string ⟨#[]⟩, .string ⟨#[]⟩, .slice none 0 0] 39)).heap.size = w.heap.size + 4 := by first | (simp; done) | (simp; omega)
  have hT4 : Bk (w3.alloc (.cells #[.int .i64 a, .int .i64 0, .int .i64 0, .string ⟨#[]⟩, .string ⟨#[]⟩, .slice none 0 0] 39)) (w.heap.size + 2) [.int .i64 3, .int .i64 0, .int .i64 0, .slice none 0 0, .slice none 0 0, .bool false, .int .i64 0, .slice none 0 0] 31 := (Bk.alloc HT.out (.cells #[.int .i64 a, .int .i64 0, .int .i64 0, .string ⟨#[]⟩, .string ⟨#[]⟩, .slice none 0 0] 39))
  have hR4 : Bk (w3.alloc (.cells #[.int .i64 a, .int .i64 0, .int .i64 0, .string ⟨#[]⟩, .string ⟨#[]⟩, .slice none 0 0] 39)) (w.heap.size + 1) [.int .i64 0, .int .i64 0, .int .i64 0, .slice none 0 0, .slice none 0 0, .bool false, .int .i64 0, .slice none 0 0] 31 := (Bk.alloc HR3.out (.cells #[.int .i64 a, .int .i64 0, .int .i64 0, .string ⟨#[]⟩, .string ⟨#[]⟩, .slice none 0 0] 39))
  have hX4 : Bk (w3.alloc (.cells #[.int .i64 a, .int .i64 0, .int .i64 0, .string ⟨#[]⟩, .string ⟨#[]⟩, .slice none 0 0] 39)) w.heap.size [.int .i64 kk, .int .i64 a, .int .i64 b, .string s, .string t, .slice A inn.length c] 39 := (Bk.alloc HX3.out (.cells #[.int .i64 a, .int .i64 0, .int .i64 0, .string ⟨#[]⟩, .string ⟨#[]⟩, .slice none 0 0] 39))
  have hI4 : Bk (w3.alloc (.cells #[.int .i64 a, .int .i64 0, .int .i64 0, .string ⟨#[]⟩, .string ⟨#[]⟩, .slice none 0 0] 39)) (w.heap.size + 3) [.int .i64 a, .int .i64 0, .int .i64 0, .string ⟨#[]⟩, .string ⟨#[]⟩, .slice none 0 0] 39 := (bk_newN (w3) (w.heap.size + 3) [.int .i64 a, .int .i64 0, .int .i64 0, .string ⟨#[]⟩, .string ⟨#[]⟩, .slice none 0 0] 39 (by first | omega | (simp; done) | (simp; omega)))
  have hb4 : Below w.heap.size w (w3.alloc (.cells #[.int .i64 a, .int .i64 0, .int .i64 0, .string ⟨#[]⟩, .string ⟨#[]⟩, .slice none 0 0] 39)) := (bal Hb3.out _)
  have HT4 := Lib.hid hT4
  have HR4 := Lib.hid hR4
  have HX4 := Lib.hid hX4
  have HI4 := Lib.hid hI4
  have HB4 := Lib.hid hb4
  clear hT4 hR4 hX4 hI4 hb4 HT HR3 HX3 Hb3
  generalize w3.alloc (.cells #[.int .i64 a, .int .i64 0, .int .i64 0, .string ⟨#[]⟩, .string ⟨#[]⟩, .slice none 0 0] 39) = w4 at *
  clear x1
  have x5 := HX4.out.cell 5 _ rfl
  by_cases hn : inn.length = 0
  · have hi : inn = [] := List.length_eq_zero_iff.1 hn
    subst hi
    simp only [List.length_nil] at x5
    have i0 := HI4.out.cell 0 _ rfl
    have i1 := HI4.out.cell 1 _ rfl
    have i2 := HI4.out.cell 2 _ rfl
    have i3 := HI4.out.cell 3 _ rfl
    have i4 := HI4.out.cell 4 _ rfl
    have i5 := HI4.out.cell 5 _ rfl
    have hcall := Hih.out (Stk.mk a 0 0 (mkS []) (mkS []) []) _ w4 (by unfold StkV; exact ⟨none, 0, rfl, by unfold StksAt; trivial, wa, by decide, by decide, Nat.zero_le _, Nat.zero_le _, Nat.le_refl _, Nat.zero_le _⟩)
    have Hcall := Lib.hid hcall
    clear hcall
    go_upto_region 10 with fail
    have d3 : d ≤ 2 := by omega
    have HTc := Lib.hid HT4.out
    have HRc := Lib.hid HR4.out
    have HBc := Lib.hid HB4.out
    go_upto_region 37 with (go_at_call 16; (refine Hcall.out.mono ?_); rintro e w9 ⟨k1, m1, p1, lm1, o1, An1, Ak1, At1, nn1, cn1, nk1, ck1, nt1, ct1, rfl, HTy, hb9⟩; have hT9 := HTc.out.later hb9; have h9 := Bk.alloc hT9 (.cells #[.int .i64 k1, .int .i64 m1, .int .i64 p1, .slice An1 nn1 cn1, .slice Ak1 nk1 ck1, .bool o1, .int .i64 lm1, .slice At1 nt1 ct1] 31); have y7 := h9.cell 7 _ rfl; have f7 := h9.frozen 7; have HT9 := Lib.hid hT9; have HR9 := Lib.hid (HRc.out.later hb9); have HB9 := Lib.hid (btr HBc.out hb9); have Hb9 := Lib.hid hb9; clear hT9 h9 hb9)
    obtain ⟨hT10, hR10, hP10', hB10, hpb⟩ := fin9 (T' := [.int .i64 3, .int .i64 0, .int .i64 0, .slice none 0 0, .slice none 0 0, .bool false, .int .i64 0, .slice (some ⟨w9.heap.size, 0, none⟩) 1 1]) (P := [.int .i64 k1, .int .i64 m1, .int .i64 p1, .slice An1 nn1 cn1, .slice Ak1 nk1 ck1, .bool o1, .int .i64 lm1, .slice At1 nt1 ct1]) (tS := 31) HT9.out HR9.out HB9.out (show w9.heap.size = w9.heap.size from rfl) (show w.heap.size + 2 ≠ w.heap.size + 1 by omega) (Nat.le_add_right _ _) 7 (.slice (some ⟨w9.heap.size, 0, none⟩) 1 1) rfl
    have hK10 : New w4.heap.size w9 ((w9.alloc (.cells #[.int .i64 k1, .int .i64 m1, .int .i64 p1, .slice An1 nn1 cn1, .slice Ak1 nk1 ck1, .bool o1, .int .i64 lm1, .slice At1 nt1 ct1] 31)).setCell ⟨w.heap.size + 2, 7, none⟩ (.slice (some ⟨w9.heap.size, 0, none⟩) 1 1)) := New.setN (New.allocN (New.refl _ _) (Nat.le_refl _)) (by omega)
    have hsz : w9.heap.size ≤ ((w9.alloc (.cells #[.int .i64 k1, .int .i64 m1, .int .i64 p1, .slice An1 nn1 cn1, .slice Ak1 nk1 ck1, .bool o1, .int .i64 lm1, .slice At1 nt1 ct1] 31)).setCell ⟨w.heap.size + 2, 7, none⟩ (.slice (some ⟨w9.heap.size, 0, none⟩) 1 1)).heap.size := by simp
    have hs9 := Hb9.out.size
    have HT10 := Lib.hid hT10
    have HR10 := Lib.hid hR10
    have HP10 := Lib.hid hP10'
    have HB10 := Lib.hid hB10
    have HK10 := Lib.hid hK10
    clear hT10 hR10 hP10' hB10 hK10 y7 f7 HT9 HR9 HB9
    generalize (w9.alloc (.cells #[.int .i64 k1, .int .i64 m1, .int .i64 p1, .slice An1 nn1 cn1, .slice Ak1 nk1 ck1, .bool o1, .int .i64 lm1, .slice At1 nt1 ct1] 31)).setCell ⟨w.heap.size + 2, 7, none⟩ (.slice (some ⟨w9.heap.size, 0, none⟩) 1 1) = w10 at *
    have x0 := HT10.out.cell 0 _ rfl
    have x1 := HT10.out.cell 1 _ rfl
    have x2 := HT10.out.cell 2 _ rfl
    have x3 := HT10.out.cell 3 _ rfl
    have x4 := HT10.out.cell 4 _ rfl
    have x5 := HT10.out.cell 5 _ rfl
    have x6 := HT10.out.cell 6 _ rfl
    have x7 := HT10.out.cell 7 _ rfl
    have f0 := HR10.out.frozen 0
    have y0 := HR10.out.cell 0 _ rfl
    have f1 := HR10.out.frozen 1
    have y1 := HR10.out.cell 1 _ rfl
    have f2 := HR10.out.frozen 2
    have y2 := HR10.out.cell 2 _ rfl
    have f3 := HR10.out.frozen 3
    have y3 := HR10.out.cell 3 _ rfl
    have f4 := HR10.out.frozen 4
    have y4 := HR10.out.cell 4 _ rfl
    have f5 := HR10.out.frozen 5
    have y5 := HR10.out.cell 5 _ rfl
    have f6 := HR10.out.frozen 6
    have y6 := HR10.out.cell 6 _ rfl
    have f7 := HR10.out.frozen 7
    have y7 := HR10.out.cell 7 _ rfl
    go_wp2_with fail
    have hbk := bk_eq (cs' := [.int .i64 3, .int .i64 0, .int .i64 0, .slice none 0 0, .slice none 0 0, .bool false, .int .i64 0, .slice (some ⟨w9.heap.size, 0, none⟩) 1 1]) (Bk.set (Bk.set (Bk.set (Bk.set (Bk.set (Bk.set (Bk.set (Bk.set HR10.out 0 _) 1 _) 2 _) 3 _) 4 _) 5 _) 6 _) 7 _) rfl
    refine bodyPost_ret (results_cell_row rfl _ _ (w.heap.size + 1) 31 #[.int .i64 3, .int .i64 0, .int .i64 0, .slice none 0 0, .slice none 0 0, .bool false, .int .i64 0, .slice (some ⟨w9.heap.size, 0, none⟩) 1 1] (0, 0) _ rfl hbk Tryd.underlying31 rfl (by kernel_rfl)) rfl ⟨[.int .i64 3, .int .i64 0, .int .i64 0, .slice none 0 0, .slice none 0 0, .bool false, .int .i64 0, .slice (some ⟨w9.heap.size, 0, none⟩) 1 1], rfl, fun W hN => ?_, ?_⟩
    · have hk := New.trans (New.setN (b := w.heap.size + 1) (j := 7) (New.setN (b := w.heap.size + 1) (j := 6) (New.setN (b := w.heap.size + 1) (j := 5) (New.setN (b := w.heap.size + 1) (j := 4) (New.setN (b := w.heap.size + 1) (j := 3) (New.setN (b := w.heap.size + 1) (j := 2) (New.setN (b := w.heap.size + 1) (j := 1) (New.setN (b := w.heap.size + 1) (j := 0) HK10.out (by omega)) (by omega)) (by omega)) (by omega)) (by omega)) (by omega)) (by omega)) (by omega)) (hN.mono (Nat.le_trans (Nat.le_add_right _ 4) (Nat.le_of_eq hs4.symm))) (by simp; omega)
      exact testV_not (HTy.out W hk) (Bk.neu (Bk.other (Bk.other (Bk.other (Bk.other (Bk.other (Bk.other (Bk.other (Bk.other HP10.out (by omega) 0 _) (by omega) 1 _) (by omega) 2 _) (by omega) 3 _) (by omega) 4 _) (by omega) 5 _) (by omega) 6 _) (by omega) 7 _) hN (by omega))
    · exact (Below.setCell (Below.setCell (Below.setCell (Below.setCell (Below.setCell (Below.setCell (Below.setCell (Below.setCell HB10.out (Nat.le_add_right _ _) _) (Nat.le_add_right _ _) _) (Nat.le_add_right _ _) _) (Nat.le_add_right _ _) _) (Nat.le_add_right _ _) _) (Nat.le_add_right _ _) _) (Nat.le_add_right _ _) _) (Nat.le_add_right _ _) _)
  · have hn0 : (0 : Int) < (inn.length : Int) := by omega
    obtain ⟨sy, rst, rfl⟩ : ∃ y r, inn = y :: r := by
      cases inn with
      | nil => exact absurd rfl hn
      | cons y r => exact ⟨y, r, rfl⟩
    have hA := HA.out
    unfold StksAt at hA
    obtain ⟨g, off, vs, rfl, hcl, hv, _⟩ := hA
    obtain ⟨yk, ya, yb, ys, yt, YA, yn, yc, rfl⟩ := stkV_cells hv
    have v0 := cell_later HB4.out (hcl 0 _ rfl)
    have v1 := cell_later HB4.out (hcl 1 _ rfl)
    have v2 := cell_later HB4.out (hcl 2 _ rfl)
    have v3 := cell_later HB4.out (hcl 3 _ rfl)
    have v4 := cell_later HB4.out (hcl 4 _ rfl)
    have v5 := cell_later HB4.out (hcl 5 _ rfl)
    simp only [Nat.add_zero] at v0
    have Hv := Lib.hid hv
    clear hcl hv
    have f0 := HI4.out.frozen 0
    have y0 := HI4.out.cell 0 _ rfl
    have f1 := HI4.out.frozen 1
    have y1 := HI4.out.cell 1 _ rfl
    have f2 := HI4.out.frozen 2
    have y2 := HI4.out.cell 2 _ rfl
    have f3 := HI4.out.frozen 3
    have y3 := HI4.out.cell 3 _ rfl
    have f4 := HI4.out.frozen 4
    have y4 := HI4.out.cell 4 _ rfl
    have f5 := HI4.out.frozen 5
    have y5 := HI4.out.cell 5 _ rfl
    go_upto_region 10 with fail
    have hs5 : ((((((w4.setCell ⟨(w.heap.size + 3), 0, none⟩ (.int .i64 yk)).setCell ⟨(w.heap.size + 3), 1, none⟩ (.int .i64 ya)).setCell ⟨(w.heap.size + 3), 2, none⟩ (.int .i64 yb)).setCell ⟨(w.heap.size + 3), 3, none⟩ (.string ys)).setCell ⟨(w.heap.size + 3), 4, none⟩ (.string yt)).setCell ⟨(w.heap.size + 3), 5, none⟩ (.slice YA yn yc)).heap.size = w.heap.size + 4 := by first | (simp; done) | (simp; omega)
    have hT5 : Bk ((((((w4.setCell ⟨(w.heap.size + 3), 0, none⟩ (.int .i64 yk)).setCell ⟨(w.heap.size + 3), 1, none⟩ (.int .i64 ya)).setCell ⟨(w.heap.size + 3), 2, none⟩ (.int .i64 yb)).setCell ⟨(w.heap.size + 3), 3, none⟩ (.string ys)).setCell ⟨(w.heap.size + 3), 4, none⟩ (.string yt)).setCell ⟨(w.heap.size + 3), 5, none⟩ (.slice YA yn yc)) (w.heap.size + 2) [.int .i64 3, .int .i64 0, .int .i64 0, .slice none 0 0, .slice none 0 0, .bool false, .int .i64 0, .slice none 0 0] 31 := (Bk.other (c := (w.heap.size + 3)) (Bk.other (c := (w.heap.size + 3)) (Bk.other (c := (w.heap.size + 3)) (Bk.other (c := (w.heap.size + 3)) (Bk.other (c := (w.heap.size + 3)) (Bk.other (c := (w.heap.size + 3)) HT4.out (by omega) 0 (.int .i64 yk)) (by omega) 1 (.int .i64 ya)) (by omega) 2 (.int .i64 yb)) (by omega) 3 (.string ys)) (by omega) 4 (.string yt)) (by omega) 5 (.slice YA yn yc))
    have hR5 : Bk ((((((w4.setCell ⟨(w.heap.size + 3), 0, none⟩ (.int .i64 yk)).setCell ⟨(w.heap.size + 3), 1, none⟩ (.int .i64 ya)).setCell ⟨(w.heap.size + 3), 2, none⟩ (.int .i64 yb)).setCell ⟨(w.heap.size + 3), 3, none⟩ (.string ys)).setCell ⟨(w.heap.size + 3), 4, none⟩ (.string yt)).setCell ⟨(w.heap.size + 3), 5, none⟩ (.slice YA yn yc)) (w.heap.size + 1) [.int .i64 0, .int .i64 0, .int .i64 0, .slice none 0 0, .slice none 0 0, .bool false, .int .i64 0, .slice none 0 0] 31 := (Bk.other (c := (w.heap.size + 3)) (Bk.other (c := (w.heap.size + 3)) (Bk.other (c := (w.heap.size + 3)) (Bk.other (c := (w.heap.size + 3)) (Bk.other (c := (w.heap.size + 3)) (Bk.other (c := (w.heap.size + 3)) HR4.out (by omega) 0 (.int .i64 yk)) (by omega) 1 (.int .i64 ya)) (by omega) 2 (.int .i64 yb)) (by omega) 3 (.string ys)) (by omega) 4 (.string yt)) (by omega) 5 (.slice YA yn yc))
    have hX5 : Bk ((((((w4.setCell ⟨(w.heap.size + 3), 0, none⟩ (.int .i64 yk)).setCell ⟨(w.heap.size + 3), 1, none⟩ (.int .i64 ya)).setCell ⟨(w.heap.size + 3), 2, none⟩ (.int .i64 yb)).setCell ⟨(w.heap.size + 3), 3, none⟩ (.string ys)).setCell ⟨(w.heap.size + 3), 4, none⟩ (.string yt)).setCell ⟨(w.heap.size + 3), 5, none⟩ (.slice YA yn yc)) w.heap.size [.int .i64 kk, .int .i64 a, .int .i64 b, .string s, .string t, .slice (some ⟨g, off, none⟩) (sy :: rst).length c] 39 := (Bk.other (c := (w.heap.size + 3)) (Bk.other (c := (w.heap.size + 3)) (Bk.other (c := (w.heap.size + 3)) (Bk.other (c := (w.heap.size + 3)) (Bk.other (c := (w.heap.size + 3)) (Bk.other (c := (w.heap.size + 3)) HX4.out (by omega) 0 (.int .i64 yk)) (by omega) 1 (.int .i64 ya)) (by omega) 2 (.int .i64 yb)) (by omega) 3 (.string ys)) (by omega) 4 (.string yt)) (by omega) 5 (.slice YA yn yc))
    have hI5 : Bk ((((((w4.setCell ⟨(w.heap.size + 3), 0, none⟩ (.int .i64 yk)).setCell ⟨(w.heap.size + 3), 1, none⟩ (.int .i64 ya)).setCell ⟨(w.heap.size + 3), 2, none⟩ (.int .i64 yb)).setCell ⟨(w.heap.size + 3), 3, none⟩ (.string ys)).setCell ⟨(w.heap.size + 3), 4, none⟩ (.string yt)).setCell ⟨(w.heap.size + 3), 5, none⟩ (.slice YA yn yc)) (w.heap.size + 3) [.int .i64 yk, .int .i64 ya, .int .i64 yb, .string ys, .string yt, .slice YA yn yc] 39 := (Bk.set (Bk.set (Bk.set (Bk.set (Bk.set (Bk.set HI4.out 0 (.int .i64 yk)) 1 (.int .i64 ya)) 2 (.int .i64 yb)) 3 (.string ys)) 4 (.string yt)) 5 (.slice YA yn yc))
    have hb5 : Below w.heap.size w ((((((w4.setCell ⟨(w.heap.size + 3), 0, none⟩ (.int .i64 yk)).setCell ⟨(w.heap.size + 3), 1, none⟩ (.int .i64 ya)).setCell ⟨(w.heap.size + 3), 2, none⟩ (.int .i64 yb)).setCell ⟨(w.heap.size + 3), 3, none⟩ (.string ys)).setCell ⟨(w.heap.size + 3), 4, none⟩ (.string yt)).setCell ⟨(w.heap.size + 3), 5, none⟩ (.slice YA yn yc)) := (Below.setCell (p := ⟨(w.heap.size + 3), 5, none⟩) (Below.setCell (p := ⟨(w.heap.size + 3), 4, none⟩) (Below.setCell (p := ⟨(w.heap.size + 3), 3, none⟩) (Below.setCell (p := ⟨(w.heap.size + 3), 2, none⟩) (Below.setCell (p := ⟨(w.heap.size + 3), 1, none⟩) (Below.setCell (p := ⟨(w.heap.size + 3), 0, none⟩) HB4.out (Nat.le_add_right _ _) (.int .i64 yk)) (Nat.le_add_right _ _) (.int .i64 ya)) (Nat.le_add_right _ _) (.int .i64 yb)) (Nat.le_add_right _ _) (.string ys)) (Nat.le_add_right _ _) (.string yt)) (Nat.le_add_right _ _) (.slice YA yn yc))
    have HT5 := Lib.hid hT5
    have HR5 := Lib.hid hR5
    have HX5 := Lib.hid hX5
    have HI5 := Lib.hid hI5
    have HB5 := Lib.hid hb5
    clear hT5 hR5 hX5 hI5 hb5 HT4 HR4 HX4 HI4 HB4
    generalize (((((w4.setCell ⟨(w.heap.size + 3), 0, none⟩ (.int .i64 yk)).setCell ⟨(w.heap.size + 3), 1, none⟩ (.int .i64 ya)).setCell ⟨(w.heap.size + 3), 2, none⟩ (.int .i64 yb)).setCell ⟨(w.heap.size + 3), 3, none⟩ (.string ys)).setCell ⟨(w.heap.size + 3), 4, none⟩ (.string yt)).setCell ⟨(w.heap.size + 3), 5, none⟩ (.slice YA yn yc) = w5 at *
    clear v0 v1 v2 v3 v4 v5 x5 f0 y0 f1 y1 f2 y2 f3 y3 f4 y4 f5 y5
    have i0 := HI5.out.cell 0 _ rfl
    have i1 := HI5.out.cell 1 _ rfl
    have i2 := HI5.out.cell 2 _ rfl
    have i3 := HI5.out.cell 3 _ rfl
    have i4 := HI5.out.cell 4 _ rfl
    have i5 := HI5.out.cell 5 _ rfl
    have hcall := Hih.out (sy) _ w5 (stkV_later HB5.out sy _ Hv.out)
    have Hcall := Lib.hid hcall
    clear hcall
    have d3 : d ≤ 2 := by omega
    have HTc := Lib.hid HT5.out
    have HRc := Lib.hid HR5.out
    have HBc := Lib.hid HB5.out
    go_upto_region 37 with (go_at_call 16; (refine Hcall.out.mono ?_); rintro e w9 ⟨k1, m1, p1, lm1, o1, An1, Ak1, At1, nn1, cn1, nk1, ck1, nt1, ct1, rfl, HTy, hb9⟩; have hT9 := HTc.out.later hb9; have h9 := Bk.alloc hT9 (.cells #[.int .i64 k1, .int .i64 m1, .int .i64 p1, .slice An1 nn1 cn1, .slice Ak1 nk1 ck1, .bool o1, .int .i64 lm1, .slice At1 nt1 ct1] 31); have y7 := h9.cell 7 _ rfl; have f7 := h9.frozen 7; have HT9 := Lib.hid hT9; have HR9 := Lib.hid (HRc.out.later hb9); have HB9 := Lib.hid (btr HBc.out hb9); have Hb9 := Lib.hid hb9; clear hT9 h9 hb9)
    obtain ⟨hT10, hR10, hP10', hB10, hpb⟩ := fin9 (T' := [.int .i64 3, .int .i64 0, .int .i64 0, .slice none 0 0, .slice none 0 0, .bool false, .int .i64 0, .slice (some ⟨w9.heap.size, 0, none⟩) 1 1]) (P := [.int .i64 k1, .int .i64 m1, .int .i64 p1, .slice An1 nn1 cn1, .slice Ak1 nk1 ck1, .bool o1, .int .i64 lm1, .slice At1 nt1 ct1]) (tS := 31) HT9.out HR9.out HB9.out (show w9.heap.size = w9.heap.size from rfl) (show w.heap.size + 2 ≠ w.heap.size + 1 by omega) (Nat.le_add_right _ _) 7 (.slice (some ⟨w9.heap.size, 0, none⟩) 1 1) rfl
    have hK10 : New w5.heap.size w9 ((w9.alloc (.cells #[.int .i64 k1, .int .i64 m1, .int .i64 p1, .slice An1 nn1 cn1, .slice Ak1 nk1 ck1, .bool o1, .int .i64 lm1, .slice At1 nt1 ct1] 31)).setCell ⟨w.heap.size + 2, 7, none⟩ (.slice (some ⟨w9.heap.size, 0, none⟩) 1 1)) := New.setN (New.allocN (New.refl _ _) (Nat.le_refl _)) (by omega)
    have hsz : w9.heap.size ≤ ((w9.alloc (.cells #[.int .i64 k1, .int .i64 m1, .int .i64 p1, .slice An1 nn1 cn1, .slice Ak1 nk1 ck1, .bool o1, .int .i64 lm1, .slice At1 nt1 ct1] 31)).setCell ⟨w.heap.size + 2, 7, none⟩ (.slice (some ⟨w9.heap.size, 0, none⟩) 1 1)).heap.size := by simp
    have hs9 := Hb9.out.size
    have HT10 := Lib.hid hT10
    have HR10 := Lib.hid hR10
    have HP10 := Lib.hid hP10'
    have HB10 := Lib.hid hB10
    have HK10 := Lib.hid hK10
    clear hT10 hR10 hP10' hB10 hK10 y7 f7 HT9 HR9 HB9
    generalize (w9.alloc (.cells #[.int .i64 k1, .int .i64 m1, .int .i64 p1, .slice An1 nn1 cn1, .slice Ak1 nk1 ck1, .bool o1, .int .i64 lm1, .slice At1 nt1 ct1] 31)).setCell ⟨w.heap.size + 2, 7, none⟩ (.slice (some ⟨w9.heap.size, 0, none⟩) 1 1) = w10 at *
    have x0 := HT10.out.cell 0 _ rfl
    have x1 := HT10.out.cell 1 _ rfl
    have x2 := HT10.out.cell 2 _ rfl
    have x3 := HT10.out.cell 3 _ rfl
    have x4 := HT10.out.cell 4 _ rfl
    have x5 := HT10.out.cell 5 _ rfl
    have x6 := HT10.out.cell 6 _ rfl
    have x7 := HT10.out.cell 7 _ rfl
    have f0 := HR10.out.frozen 0
    have y0 := HR10.out.cell 0 _ rfl
    have f1 := HR10.out.frozen 1
    have y1 := HR10.out.cell 1 _ rfl
    have f2 := HR10.out.frozen 2
    have y2 := HR10.out.cell 2 _ rfl
    have f3 := HR10.out.frozen 3
    have y3 := HR10.out.cell 3 _ rfl
    have f4 := HR10.out.frozen 4
    have y4 := HR10.out.cell 4 _ rfl
    have f5 := HR10.out.frozen 5
    have y5 := HR10.out.cell 5 _ rfl
    have f6 := HR10.out.frozen 6
    have y6 := HR10.out.cell 6 _ rfl
    have f7 := HR10.out.frozen 7
    have y7 := HR10.out.cell 7 _ rfl
    go_wp2_with fail
    have hbk := bk_eq (cs' := [.int .i64 3, .int .i64 0, .int .i64 0, .slice none 0 0, .slice none 0 0, .bool false, .int .i64 0, .slice (some ⟨w9.heap.size, 0, none⟩) 1 1]) (Bk.set (Bk.set (Bk.set (Bk.set (Bk.set (Bk.set (Bk.set (Bk.set HR10.out 0 _) 1 _) 2 _) 3 _) 4 _) 5 _) 6 _) 7 _) rfl
    refine bodyPost_ret (results_cell_row rfl _ _ (w.heap.size + 1) 31 #[.int .i64 3, .int .i64 0, .int .i64 0, .slice none 0 0, .slice none 0 0, .bool false, .int .i64 0, .slice (some ⟨w9.heap.size, 0, none⟩) 1 1] (0, 0) _ rfl hbk Tryd.underlying31 rfl (by kernel_rfl)) rfl ⟨[.int .i64 3, .int .i64 0, .int .i64 0, .slice none 0 0, .slice none 0 0, .bool false, .int .i64 0, .slice (some ⟨w9.heap.size, 0, none⟩) 1 1], rfl, fun W hN => ?_, ?_⟩
    · have hk := New.trans (New.setN (b := w.heap.size + 1) (j := 7) (New.setN (b := w.heap.size + 1) (j := 6) (New.setN (b := w.heap.size + 1) (j := 5) (New.setN (b := w.heap.size + 1) (j := 4) (New.setN (b := w.heap.size + 1) (j := 3) (New.setN (b := w.heap.size + 1) (j := 2) (New.setN (b := w.heap.size + 1) (j := 1) (New.setN (b := w.heap.size + 1) (j := 0) HK10.out (by omega)) (by omega)) (by omega)) (by omega)) (by omega)) (by omega)) (by omega)) (by omega)) (hN.mono (Nat.le_trans (Nat.le_add_right _ 4) (Nat.le_of_eq hs5.symm))) (by simp; omega)
      exact testV_not (HTy.out W hk) (Bk.neu (Bk.other (Bk.other (Bk.other (Bk.other (Bk.other (Bk.other (Bk.other (Bk.other HP10.out (by omega) 0 _) (by omega) 1 _) (by omega) 2 _) (by omega) 3 _) (by omega) 4 _) (by omega) 5 _) (by omega) 6 _) (by omega) 7 _) hN (by omega))
    · exact (Below.setCell (Below.setCell (Below.setCell (Below.setCell (Below.setCell (Below.setCell (Below.setCell (Below.setCell HB10.out (Nat.le_add_right _ _) _) (Nat.le_add_right _ _) _) (Nat.le_add_right _ _) _) (Nat.le_add_right _ _) _) (Nat.le_add_right _ _) _) (Nat.le_add_right _ _) _) (Nat.le_add_right _ _) _) (Nat.le_add_right _ _) _)
end Go.Proofs.YtgmnoemkdigafaaDoor
namespace Go.Proofs.YtgmnoemkdigafaaDoor
open Go.RowKit
set_option linter.unusedVariables false

set_option maxRecDepth 100000 in
set_option maxHeartbeats 8000000 in
theorem tst_4 (kk a b : Int) (s t : ByteArray) (inn : List Stk) (A : Option Addr) (c : Nat) (d : Int) (w : World) (hd0 : 0 ≤ d) (hd : d ≤ 1000) (tn : Stk → Tst) (ih : ∀ (y : Stk) (vs : List Value) (W : World), StkV W y vs → Calls Tryd.prog 16 #[.agg vs.toArray, .int .i64 (d + 1)] W (TestA (tn y) W)) (h3 : d < 3) (hP10 : pickN kk 10 = 3) (hB : StkB kk a b s t inn.length c) (hA : StksAt w inn A) :
    Calls Tryd.prog 16 #[.agg #[.int .i64 kk, .int .i64 a, .int .i64 b, .string s, .string t, .slice A inn.length c], .int .i64 d] w fun e w' => ∃ tv, e = .returned (.agg (List.toArray tv)) ∧ (∀ W, New w.heap.size w' W → TestV W (.mk 4 0 0 [] [] false 0 (if inn = [] then [.mk (1 + (pickN a 2 : Int)) 0 0 [] [] false 0 []] else (inn.take 3).map tn)) tv) ∧ Below w.heap.size w w' := by
  obtain ⟨wk, wa, wb, ws, wt, hc1, hc2⟩ := hB
  unfold maxLen at ws wt hc2
  have hX := Bk.new w [.int .i64 kk, .int .i64 a, .int .i64 b, .string s, .string t, .slice A inn.length c] 39
  have hbx : Below w.heap.size w (w.alloc (.cells #[.int .i64 kk, .int .i64 a, .int .i64 b, .string s, .string t, .slice A inn.length c] 39)) := bal (Below.refl _ _) _
  have HX := Lib.hid hX
  have Hbx := Lib.hid hbx
  clear hX hbx
  have P10 : ∀ W : World, Calls Tryd.prog 13 #[.int .i64 kk, .int .i64 10] W fun e w' => e = .returned (.int .i64 ((3 : Nat) : Int)) ∧ W = w' := fun W => by
    have h := picked_calls kk 10 W wk (by decide) (by decide)
    rw [hP10] at h
    exact h
  have PA2 := fun W : World => picked_calls a 2 W wa (by decide) (by decide)
  have la2 := pickN_lt a 2 (by decide)
  have Hih := Lib.hid ih
  have HA := Lib.hid hA
  clear ih hA
  go_enter Tryd.func16, Tryd.ntmps16
  go_upto_region 1 with fail
  have hR := Bk.new (w.alloc (.cells #[.int .i64 kk, .int .i64 a, .int .i64 b, .string s, .string t, .slice A inn.length c] 39)) [.int .i64 0, .int .i64 0, .int .i64 0, .slice none 0 0, .slice none 0 0, .bool false, .int .i64 0, .slice none 0 0] 31
  have hX2 := HX.out.alloc (.cells #[.int .i64 0, .int .i64 0, .int .i64 0, .slice none 0 0, .slice none 0 0, .bool false, .int .i64 0, .slice none 0 0] 31)
  have hb2 := bal Hbx.out (.cells #[.int .i64 0, .int .i64 0, .int .i64 0, .slice none 0 0, .slice none 0 0, .bool false, .int .i64 0, .slice none 0 0] 31)
  have hs1 : (w.alloc (.cells #[.int .i64 kk, .int .i64 a, .int .i64 b, .string s, .string t, .slice A inn.length c] 39)).heap.size = w.heap.size + 1 := by simp
  rw [hs1] at hR
  have hs2 : ((w.alloc (.cells #[.int .i64 kk, .int .i64 a, .int .i64 b, .string s, .string t, .slice A inn.length c] 39)).alloc (.cells #[.int .i64 0, .int .i64 0, .int .i64 0, .slice none 0 0, .slice none 0 0, .bool false, .int .i64 0, .slice none 0 0] 31)).heap.size = w.heap.size + 2 := by simp
  have HR := Lib.hid hR
  have HX2 := Lib.hid hX2
  have Hb2 := Lib.hid hb2
  clear hR hX2 hb2 hs1 HX Hbx
  generalize (w.alloc (.cells #[.int .i64 kk, .int .i64 a, .int .i64 b, .string s, .string t, .slice A inn.length c] 39)).alloc (.cells #[.int .i64 0, .int .i64 0, .int .i64 0, .slice none 0 0, .slice none 0 0, .bool false, .int .i64 0, .slice none 0 0] 31) = w2 at *
  have x0 := HX2.out.cell 0 _ rfl
  go_upto_region 2 with (go_at_call 13; refine (P10 _).mono ?_; rintro e w' ⟨rfl, rfl⟩)
  clear P10 x0
  have hT := Bk.new w2 [.int .i64 4, .int .i64 0, .int .i64 0, .slice none 0 0, .slice none 0 0, .bool false, .int .i64 0, .slice none 0 0] 31
  have hT2 := HR.out.alloc (.cells #[.int .i64 4, .int .i64 0, .int .i64 0, .slice none 0 0, .slice none 0 0, .bool false, .int .i64 0, .slice none 0 0] 31)
  have hX3 := HX2.out.alloc (.cells #[.int .i64 4, .int .i64 0, .int .i64 0, .slice none 0 0, .slice none 0 0, .bool false, .int .i64 0, .slice none 0 0] 31)
  have hb3 := bal Hb2.out (.cells #[.int .i64 4, .int .i64 0, .int .i64 0, .slice none 0 0, .slice none 0 0, .bool false, .int .i64 0, .slice none 0 0] 31)
  rw [hs2] at hT
  have HT := Lib.hid hT
  have HR3 := Lib.hid hT2
  have HX3 := Lib.hid hX3
  have Hb3 := Lib.hid hb3
  clear hT hT2 hX3 hb3 HR HX2 Hb2
  go_upto_region 5 with fail
  have hs3 : (w2.alloc (.cells #[.int .i64 4, .int .i64 0, .int .i64 0, .slice none 0 0, .slice none 0 0, .bool false, .int .i64 0, .slice none 0 0] 31)).heap.size = w.heap.size + 3 := by simp; omega
  generalize w2.alloc (.cells #[.int .i64 4, .int .i64 0, .int .i64 0, .slice none 0 0, .slice none 0 0, .bool false, .int .i64 0, .slice none 0 0] 31) = w3 at *
  obtain ⟨i0, hi, hz0, hz1, hz2⟩ := info_parts info_tst
  have d3 : d ≤ 2 := by omega
  go_upto_region 13 with fail
  go_wp2_with fail
  go_loopw [8] (fun i wr => ∃ (j : Nat) (Ar : Option Addr) (cr : Nat), j ≤ inn.length ∧ j ≤ 3 ∧ i = .int .i64 j ∧ w.heap.size + 3 ≤ wr.heap.size ∧ Hid (Bk wr (w.heap.size + 2) [.int .i64 4, .int .i64 0, .int .i64 0, .slice none 0 0, .slice none 0 0, .bool false, .int .i64 0, .slice Ar j cr] 31) ∧ Hid (Bk wr (w.heap.size + 1) [.int .i64 0, .int .i64 0, .int .i64 0, .slice none 0 0, .slice none 0 0, .bool false, .int .i64 0, .slice none 0 0] 31) ∧ Hid (Bk wr w.heap.size [.int .i64 kk, .int .i64 a, .int .i64 b, .string s, .string t, .slice A inn.length c] 39) ∧ Hid (Rowed TestV 31 8 (w.heap.size + 3) wr (.slice Ar j cr) ((inn.take j).map tn)) ∧ Hid (Below w.heap.size w wr)) (fun i _ => 3 - (intOf i).toNat)
  case atStart => exact ⟨0, none, 0, Nat.zero_le _, Nat.zero_le _, rfl, by omega, HT, HR3, HX3, Lib.hid Rowed.nil, Hb3⟩
  case round =>
    obtain ⟨j, Ar, cr, hj, hj3, rfl, hsz, HTr, HRr, HXr, Hrow, Hbr⟩ := hrel
    have x5 := HXr.out.cell 5 _ rfl
    by_cases hlt : j < inn.length ∧ j < 3
    · obtain ⟨hlt1, hlt2⟩ := hlt
      have hj0 : (0 : Int) ≤ (j : Int) := by omega
      have hj1 : (j : Int) < (inn.length : Int) := by omega
      have hj2 : (j : Int) < 3 := by omega
      obtain ⟨sy, hsy⟩ : ∃ s, inn[j]? = some s := ⟨inn[j], by simp [hlt1]⟩
      obtain ⟨g, off, rfl⟩ := stksAt_ptr HA.out (by rintro rfl; simp at hlt1)
      obtain ⟨vs, hcl, hv⟩ := stksAt_get inn g off j sy HA.out hsy
      obtain ⟨yk, ya, yb, ys, yt, YA, yn, yc, rfl⟩ := stkV_cells hv
      have v0 := cell_later Hbr.out (hcl 0 _ rfl)
      have v1 := cell_later Hbr.out (hcl 1 _ rfl)
      have v2 := cell_later Hbr.out (hcl 2 _ rfl)
      have v3 := cell_later Hbr.out (hcl 3 _ rfl)
      have v4 := cell_later Hbr.out (hcl 4 _ rfl)
      have v5 := cell_later Hbr.out (hcl 5 _ rfl)
      simp only [Nat.add_zero] at v0
      have hcall := Hih.out sy _ wr (stkV_later Hbr.out sy _ hv)
      have Hcall := Lib.hid hcall
      clear hcall hcl hv
      go_upto_region 17 with (go_at_call 16; (refine Hcall.out.mono ?_); rintro e w9 ⟨k1, m1, p1, lm1, o1, An1, Ak1, At1, nn1, cn1, nk1, ck1, nt1, ct1, rfl, HTy, hb9⟩; have Hb9 := Lib.hid hb9; clear hb9)
      have hba := btr Hb9.out (bal (Below.refl _ w9) (.cells #[.int .i64 k1, .int .i64 m1, .int .i64 p1, .slice An1 nn1 cn1, .slice Ak1 nk1 ck1, .bool o1, .int .i64 lm1, .slice At1 nt1 ct1] 31))
      have HL := Lib.hid (Bk.new w9 [.int .i64 k1, .int .i64 m1, .int .i64 p1, .slice An1 nn1 cn1, .slice Ak1 nk1 ck1, .bool o1, .int .i64 lm1, .slice At1 nt1 ct1] 31)
      have HTa := Lib.hid (HTr.out.later hba)
      have HRa := Lib.hid (HRr.out.later hba)
      have HXa := Lib.hid (HXr.out.later hba)
      have Hrowa := Lib.hid (Hrow.out.later hba)
      have Hba := Lib.hid (btr Hbr.out hba)
      obtain ⟨_, _, hsl, hown⟩ := Hrow.out.sl
      have hs9 := Hb9.out.size
      have hsa : (w9.alloc (.cells #[.int .i64 k1, .int .i64 m1, .int .i64 p1, .slice An1 nn1 cn1, .slice Ak1 nk1 ck1, .bool o1, .int .i64 lm1, .slice At1 nt1 ct1] 31)).heap.size = w9.heap.size + 1 := by simp
      have hny : ∀ W', New wr.heap.size (w9.alloc (.cells #[.int .i64 k1, .int .i64 m1, .int .i64 p1, .slice An1 nn1 cn1, .slice Ak1 nk1 ck1, .bool o1, .int .i64 lm1, .slice At1 nt1 ct1] 31)) W' → TestV W' (tn sy) [.int .i64 k1, .int .i64 m1, .int .i64 p1, .slice An1 nn1 cn1, .slice Ak1 nk1 ck1, .bool o1, .int .i64 lm1, .slice At1 nt1 ct1] := fun W' hW => HTy.out W' fun k q1 q2 => by
        rw [hW k q1 (by omega)]
        show (w9.heap.push _)[k]? = w9.heap[k]?
        rw [Array.getElem?_push, if_neg (by omega)]
      have Hny := Lib.hid hny
      have Hown := Lib.hid hown
      clear hba hny hown hsl v0 v1 v2 v3 v4 v5 x5 HTr HRr HXr Hrow Hbr Hcall HTy Hb9
      generalize w9.alloc (.cells #[.int .i64 k1, .int .i64 m1, .int .i64 p1, .slice An1 nn1 cn1, .slice Ak1 nk1 ck1, .bool o1, .int .i64 lm1, .slice At1 nt1 ct1] 31) = wa at *
      have l0 := HL.out.cell 0 _ rfl
      have l1 := HL.out.cell 1 _ rfl
      have l2 := HL.out.cell 2 _ rfl
      have l3 := HL.out.cell 3 _ rfl
      have l4 := HL.out.cell 4 _ rfl
      have l5 := HL.out.cell 5 _ rfl
      have l6 := HL.out.cell 6 _ rfl
      have l7 := HL.out.cell 7 _ rfl
      have x7 := HTa.out.cell 7 _ rfl
      have x7b := (HTa.out.alloc (.cells #[.int .i64 k1, .int .i64 m1, .int .i64 p1, .slice An1 nn1 cn1, .slice Ak1 nk1 ck1, .bool o1, .int .i64 lm1, .slice At1 nt1 ct1] 31)).cell 7 _ rfl
      have Hrowb := Lib.hid (Hrowa.out.later (bal (Below.refl _ wa) (.cells #[.int .i64 k1, .int .i64 m1, .int .i64 p1, .slice An1 nn1 cn1, .slice Ak1 nk1 ck1, .bool o1, .int .i64 lm1, .slice At1 nt1 ct1] 31)))
      obtain ⟨vss, r1, r2, r3, r4⟩ := Hrowb.out
      have hlenj : ((inn.take j).map tn).length = j := by rw [List.length_map, List.length_take]; omega
      rw [hlenj] at r1 r3
      have hfin : ∀ (g' cap : Nat) (w12 : World), w12.ownsRow (w.heap.size + 3) 31 8 (.slice (some ⟨g', 0, none⟩) (j + 1) cap) (j + 1) (vss.flatten ++ [.int .i64 k1, .int .i64 m1, .int .i64 p1, .slice An1 nn1 cn1, .slice Ak1 nk1 ck1, .bool o1, .int .i64 lm1, .slice At1 nt1 ct1]) → (wa.alloc (.cells #[.int .i64 k1, .int .i64 m1, .int .i64 p1, .slice An1 nn1 cn1, .slice Ak1 nk1 ck1, .bool o1, .int .i64 lm1, .slice At1 nt1 ct1] 31)).grownBy w12 (Value.ownBlock (.slice Ar j cr)) → ((Value.slice Ar j cr).ownBlock = some g' ∨ g' = (wa.alloc (.cells #[.int .i64 k1, .int .i64 m1, .int .i64 p1, .slice An1 nn1 cn1, .slice Ak1 nk1 ck1, .bool o1, .int .i64 lm1, .slice At1 nt1 ct1] 31)).heap.size) → w12.cell? ⟨w.heap.size + 2, 7, none⟩ = some (.slice Ar j cr) ∧ w12.frozen? ⟨w.heap.size + 2, 7, none⟩ = false ∧ Hid (Bk (w12.setCell ⟨w.heap.size + 2, 7, none⟩ (.slice (some ⟨g', 0, none⟩) (j + 1) cap)) (w.heap.size + 2) [.int .i64 4, .int .i64 0, .int .i64 0, .slice none 0 0, .slice none 0 0, .bool false, .int .i64 0, .slice (some ⟨g', 0, none⟩) (j + 1) cap] 31 ∧ Bk (w12.setCell ⟨w.heap.size + 2, 7, none⟩ (.slice (some ⟨g', 0, none⟩) (j + 1) cap)) (w.heap.size + 1) [.int .i64 0, .int .i64 0, .int .i64 0, .slice none 0 0, .slice none 0 0, .bool false, .int .i64 0, .slice none 0 0] 31 ∧ Bk (w12.setCell ⟨w.heap.size + 2, 7, none⟩ (.slice (some ⟨g', 0, none⟩) (j + 1) cap)) w.heap.size [.int .i64 kk, .int .i64 a, .int .i64 b, .string s, .string t, .slice (some ⟨g, off, none⟩) inn.length c] 39 ∧ Rowed TestV 31 8 (w.heap.size + 3) (w12.setCell ⟨w.heap.size + 2, 7, none⟩ (.slice (some ⟨g', 0, none⟩) (j + 1) cap)) (.slice (some ⟨g', 0, none⟩) (j + 1) cap) ((inn.take (j + 1)).map tn) ∧ Below w.heap.size w (w12.setCell ⟨w.heap.size + 2, 7, none⟩ (.slice (some ⟨g', 0, none⟩) (j + 1) cap)) ∧ w.heap.size + 3 ≤ (w12.setCell ⟨w.heap.size + 2, 7, none⟩ (.slice (some ⟨g', 0, none⟩) (j + 1) cap)).heap.size) := fun g' cap w12 ho hg hat => by
        have hne : ∀ q, q < w.heap.size + 3 → some q ≠ Value.ownBlock (.slice Ar j cr) := fun q hq e => by have := own_base' r3 q e.symm; omega
        have hT := (HTa.out.alloc (.cells #[.int .i64 k1, .int .i64 m1, .int .i64 p1, .slice An1 nn1 cn1, .slice Ak1 nk1 ck1, .bool o1, .int .i64 lm1, .slice At1 nt1 ct1] 31)).grown hg (hne _ (by omega))
        have hR := (HRa.out.alloc (.cells #[.int .i64 k1, .int .i64 m1, .int .i64 p1, .slice An1 nn1 cn1, .slice Ak1 nk1 ck1, .bool o1, .int .i64 lm1, .slice At1 nt1 ct1] 31)).grown hg (hne _ (by omega))
        have hX := (HXa.out.alloc (.cells #[.int .i64 k1, .int .i64 m1, .int .i64 p1, .slice An1 nn1 cn1, .slice Ak1 nk1 ck1, .bool o1, .int .i64 lm1, .slice At1 nt1 ct1] 31)).grown hg (hne _ (by omega))
        have hp := Rowed.push (xs := (inn.take j).map tn) (x := tn sy) (vs := [.int .i64 k1, .int .i64 m1, .int .i64 p1, .slice An1 nn1 cn1, .slice Ak1 nk1 ck1, .bool o1, .int .i64 lm1, .slice At1 nt1 ct1]) (C := wr.heap.size) (g := g') (cap := cap) (w8 := w12) (W := wa.alloc (.cells #[.int .i64 k1, .int .i64 m1, .int .i64 p1, .slice An1 nn1 cn1, .slice Ak1 nk1 ck1, .bool o1, .int .i64 lm1, .slice At1 nt1 ct1] 31)) vss (by rw [hlenj]; exact r1) r2 (by rw [hlenj]; exact r3) r4 rfl hsz (fun k hk => Hown.out k hk) (fun W' hW => Hny.out W' (fun k q1 q2 => by
            rw [hW k q1 (by simp; omega)]
            show (wa.heap.push _)[k]? = wa.heap[k]?
            rw [Array.getElem?_push, if_neg (by omega)])) (by rw [hlenj]; exact ho) hg hat
        rw [hlenj] at hp
        have htk : (inn.take (j + 1)).map tn = (inn.take j).map tn ++ [tn sy] := by rw [List.take_add_one, hsy, Option.toList_some, List.map_append]; rfl
        refine ⟨hT.cell 7 _ rfl, hT.frozen 7, Lib.hid ⟨hT.set 7 _, hR.other (by omega) 7 _, hX.other (by omega) 7 _, ?_, ?_, ?_⟩⟩
        · rw [htk]
          exact hp.set (by omega) 7 _
        · exact (((Hba.out.alloc Hba.out.size _).grown hg (by have := Hba.out.size; simp; omega) (fun k e => by have := own_base' r3 k e; omega))).setCell (p := ⟨w.heap.size + 2, 7, none⟩) (Nat.le_add_right _ _) _
        · have := hg.size
          simp at this ⊢
          omega
      have Hfin := Lib.hid hfin
      clear hfin
      have Hnw := Lib.hid (bk_newN wa (w9.heap.size + 1) [.int .i64 k1, .int .i64 m1, .int .i64 p1, .slice An1 nn1 cn1, .slice Ak1 nk1 ck1, .bool o1, .int .i64 lm1, .slice At1 nt1 ct1] 31 hsa)
      go_wp2_with (at_builtin; refine wpList_append_lies _ rfl _ _ 29 rfl (w.heap.size + 3) 31 i0 _ 8 112 Tryd.underlying29 hi hz0 hz1 hz2 rfl (by omega) (.slice Ar j cr) j vss.flatten rfl r3 ⟨w9.heap.size + 1, 0, none⟩ 1 1 [.int .i64 k1, .int .i64 m1, .int .i64 p1, .slice An1 nn1 cn1, .slice Ak1 nk1 ck1, .bool o1, .int .i64 lm1, .slice At1 nt1 ct1] rfl rfl (World.news_of_block (cs := #[.int .i64 k1, .int .i64 m1, .int .i64 p1, .slice An1 nn1 cn1, .slice Ak1 nk1 ck1, .bool o1, .int .i64 lm1, .slice At1 nt1 ct1]) (t := 31) (fr := (0, 0)) Hnw.out) (by simp [Value.oneCell']) (by omega) (by unfold maxLen; omega) (by omega) (by simp; omega) _ rfl ?_; intro g' cap w12 hown9 hgrow9 hat9 hglt9; obtain ⟨d0, d1, Hf⟩ := Hfin.out g' cap w12 hown9 hgrow9 hat9; clear hown9 hgrow9 hat9)
      go_roundw
      case rel =>
        obtain ⟨q1, q2, q3, q4, q5, q6⟩ := Hf.out
        exact ⟨j + 1, some ⟨g', 0, none⟩, cap, by omega, by omega, by go_num, q6, Lib.hid q1, Lib.hid q2, Lib.hid q3, Lib.hid q4, Lib.hid q5⟩
      case measure => simp [intOf]; omega
    · have hend : inn.take j = inn.take 3 := by
        by_cases h : j = 3
        · rw [h]
        · rw [List.take_of_length_le (by omega), List.take_of_length_le (by omega)]
      obtain ⟨wo, hwo⟩ : ∃ wo, wo = wr := ⟨_, rfl⟩
      subst hwo
      have x7 := HTr.out.cell 7 _ rfl
      by_cases hz : j = 0
      · subst hz
        have hin : inn = [] := by
          cases inn with
          | nil => rfl
          | cons y r => simp at hlt
        subst hin
        simp only [List.length_nil] at x5
        have x1 := HXr.out.cell 1 _ rfl
        have h9 := HTr.out.alloc (.cells #[.int .i64 (1 + (pickN a 2 : Int)), .int .i64 0, .int .i64 0, .slice none 0 0, .slice none 0 0, .bool false, .int .i64 0, .slice none 0 0] 31)
        have y7 := h9.cell 7 _ rfl
        have f7 := h9.frozen 7
        clear h9
        go_upto_region 37 with (go_at_call 13; (first | (with_reducible refine (PA2 _).mono ?_)); rintro e w' ⟨rfl, rfl⟩)
        obtain ⟨hT10, hR10, hP10', hB10, hpb⟩ := fin9 (T' := [.int .i64 4, .int .i64 0, .int .i64 0, .slice none 0 0, .slice none 0 0, .bool false, .int .i64 0, .slice (some ⟨wo.heap.size, 0, none⟩) 1 1]) (P := [.int .i64 (1 + (pickN a 2 : Int)), .int .i64 0, .int .i64 0, .slice none 0 0, .slice none 0 0, .bool false, .int .i64 0, .slice none 0 0]) (tS := 31) HTr.out HRr.out Hbr.out (show wo.heap.size = wo.heap.size from rfl) (show w.heap.size + 2 ≠ w.heap.size + 1 by omega) (Nat.le_add_right _ _) 7 (.slice (some ⟨wo.heap.size, 0, none⟩) 1 1) rfl
        have HT10 := Lib.hid hT10
        have HR10 := Lib.hid hR10
        have HP10 := Lib.hid hP10'
        have HB10 := Lib.hid hB10
        clear hT10 hR10 hP10' hB10 x1 x5 x7 y7 f7 HTr HRr HXr Hrow Hbr
        generalize (wo.alloc (.cells #[.int .i64 (1 + (pickN a 2 : Int)), .int .i64 0, .int .i64 0, .slice none 0 0, .slice none 0 0, .bool false, .int .i64 0, .slice none 0 0] 31)).setCell ⟨w.heap.size + 2, 7, none⟩ (.slice (some ⟨wo.heap.size, 0, none⟩) 1 1) = w10 at *
        have x0 := HT10.out.cell 0 _ rfl
        have x1 := HT10.out.cell 1 _ rfl
        have x2 := HT10.out.cell 2 _ rfl
        have x3 := HT10.out.cell 3 _ rfl
        have x4 := HT10.out.cell 4 _ rfl
        have x5 := HT10.out.cell 5 _ rfl
        have x6 := HT10.out.cell 6 _ rfl
        have x7 := HT10.out.cell 7 _ rfl
        have f0 := HR10.out.frozen 0
        have y0 := HR10.out.cell 0 _ rfl
        have f1 := HR10.out.frozen 1
        have y1 := HR10.out.cell 1 _ rfl
        have f2 := HR10.out.frozen 2
        have y2 := HR10.out.cell 2 _ rfl
        have f3 := HR10.out.frozen 3
        have y3 := HR10.out.cell 3 _ rfl
        have f4 := HR10.out.frozen 4
        have y4 := HR10.out.cell 4 _ rfl
        have f5 := HR10.out.frozen 5
        have y5 := HR10.out.cell 5 _ rfl
        have f6 := HR10.out.frozen 6
        have y6 := HR10.out.cell 6 _ rfl
        have f7 := HR10.out.frozen 7
        have y7 := HR10.out.cell 7 _ rfl
        go_wp2_with fail
        have hbk := bk_eq (cs' := [.int .i64 4, .int .i64 0, .int .i64 0, .slice none 0 0, .slice none 0 0, .bool false, .int .i64 0, .slice (some ⟨wo.heap.size, 0, none⟩) 1 1]) (Bk.set (Bk.set (Bk.set (Bk.set (Bk.set (Bk.set (Bk.set (Bk.set HR10.out 0 _) 1 _) 2 _) 3 _) 4 _) 5 _) 6 _) 7 _) rfl
        refine bodyPost_ret (results_cell_row rfl _ _ (w.heap.size + 1) 31 #[.int .i64 4, .int .i64 0, .int .i64 0, .slice none 0 0, .slice none 0 0, .bool false, .int .i64 0, .slice (some ⟨wo.heap.size, 0, none⟩) 1 1] (0, 0) _ rfl hbk Tryd.underlying31 rfl (by kernel_rfl)) rfl ⟨[.int .i64 4, .int .i64 0, .int .i64 0, .slice none 0 0, .slice none 0 0, .bool false, .int .i64 0, .slice (some ⟨wo.heap.size, 0, none⟩) 1 1], rfl, fun W hN => ?_, ?_⟩
        · exact testV_row (ts := [_]) (testsAt_one (testV_leaf W _) (Bk.neu (Bk.other (Bk.other (Bk.other (Bk.other (Bk.other (Bk.other (Bk.other (Bk.other HP10.out (by omega) 0 _) (by omega) 1 _) (by omega) 2 _) (by omega) 3 _) (by omega) 4 _) (by omega) 5 _) (by omega) 6 _) (by omega) 7 _) hN (by omega))) (by simp)
        · exact (Below.setCell (Below.setCell (Below.setCell (Below.setCell (Below.setCell (Below.setCell (Below.setCell (Below.setCell HB10.out (Nat.le_add_right _ _) _) (Nat.le_add_right _ _) _) (Nat.le_add_right _ _) _) (Nat.le_add_right _ _) _) (Nat.le_add_right _ _) _) (Nat.le_add_right _ _) _) (Nat.le_add_right _ _) _) (Nat.le_add_right _ _) _)
      · have hz0 : ((j : Int) == 0) = false := by rw [beq_eq_false_iff_ne]; omega
        have hin : inn ≠ [] := by rintro rfl; simp at hj; exact hz hj
        have hrow := Hrow.out
        rw [hend] at hrow
        have hlenj : ((inn.take 3).map tn).length = j := by rw [← hend, List.length_map, List.length_take]; omega
        have Hrow3 := Lib.hid hrow
        clear hrow Hrow
        rcases (show inn.length ≤ j ∨ (j < inn.length ∧ 3 ≤ j) by omega) with hq | ⟨hq, hq3⟩
        · have q1 : ¬ ((j : Int) < (inn.length : Int)) := by omega
          go_upto_region 37 with fail
          clear x7 x5
          have x0 := HTr.out.cell 0 _ rfl
          have x1 := HTr.out.cell 1 _ rfl
          have x2 := HTr.out.cell 2 _ rfl
          have x3 := HTr.out.cell 3 _ rfl
          have x4 := HTr.out.cell 4 _ rfl
          have x5 := HTr.out.cell 5 _ rfl
          have x6 := HTr.out.cell 6 _ rfl
          have x7 := HTr.out.cell 7 _ rfl
          have f0 := HRr.out.frozen 0
          have y0 := HRr.out.cell 0 _ rfl
          have f1 := HRr.out.frozen 1
          have y1 := HRr.out.cell 1 _ rfl
          have f2 := HRr.out.frozen 2
          have y2 := HRr.out.cell 2 _ rfl
          have f3 := HRr.out.frozen 3
          have y3 := HRr.out.cell 3 _ rfl
          have f4 := HRr.out.frozen 4
          have y4 := HRr.out.cell 4 _ rfl
          have f5 := HRr.out.frozen 5
          have y5 := HRr.out.cell 5 _ rfl
          have f6 := HRr.out.frozen 6
          have y6 := HRr.out.cell 6 _ rfl
          have f7 := HRr.out.frozen 7
          have y7 := HRr.out.cell 7 _ rfl
          go_wp2_with fail
          have hbk := bk_eq (cs' := [.int .i64 4, .int .i64 0, .int .i64 0, .slice none 0 0, .slice none 0 0, .bool false, .int .i64 0, .slice Ar j cr]) (Bk.set (Bk.set (Bk.set (Bk.set (Bk.set (Bk.set (Bk.set (Bk.set HRr.out 0 _) 1 _) 2 _) 3 _) 4 _) 5 _) 6 _) 7 _) rfl
          refine bodyPost_ret (results_cell_row rfl _ _ (w.heap.size + 1) 31 #[.int .i64 4, .int .i64 0, .int .i64 0, .slice none 0 0, .slice none 0 0, .bool false, .int .i64 0, .slice Ar j cr] (0, 0) _ rfl hbk Tryd.underlying31 rfl (by kernel_rfl)) rfl ⟨[.int .i64 4, .int .i64 0, .int .i64 0, .slice none 0 0, .slice none 0 0, .bool false, .int .i64 0, .slice Ar j cr], rfl, fun W hN => ?_, ?_⟩
          · obtain ⟨A2, c2, hA2, hc2, hts⟩ := rowed_tests (Rowed.set (Rowed.set (Rowed.set (Rowed.set (Rowed.set (Rowed.set (Rowed.set (Rowed.set Hrow3.out (b := w.heap.size + 1) (by omega) 0 _) (b := w.heap.size + 1) (by omega) 1 _) (b := w.heap.size + 1) (by omega) 2 _) (b := w.heap.size + 1) (by omega) 3 _) (b := w.heap.size + 1) (by omega) 4 _) (b := w.heap.size + 1) (by omega) 5 _) (b := w.heap.size + 1) (by omega) 6 _) (b := w.heap.size + 1) (by omega) 7 _)
            simp only [Value.slice.injEq] at hA2
            obtain ⟨rfl, _, rfl⟩ := hA2
            have hres := testV_row (k := 4) (hts W (hN.mono (Nat.le_add_right _ 3))) (show ((inn.take 3).map tn).length ≤ cr ∧ ((inn.take 3).map tn).length ≤ 1000000 by omega)
            rw [hlenj] at hres
            first | exact hres | (rw [List.map_take] at hres; exact hres)
          · exact (Below.setCell (Below.setCell (Below.setCell (Below.setCell (Below.setCell (Below.setCell (Below.setCell (Below.setCell Hbr.out (Nat.le_add_right _ _) _) (Nat.le_add_right _ _) _) (Nat.le_add_right _ _) _) (Nat.le_add_right _ _) _) (Nat.le_add_right _ _) _) (Nat.le_add_right _ _) _) (Nat.le_add_right _ _) _) (Nat.le_add_right _ _) _)
        · have q1 : (j : Int) < (inn.length : Int) := by omega
          have q2 : ¬ ((j : Int) < 3) := by omega
          go_upto_region 37 with fail
          clear x7 x5
          have x0 := HTr.out.cell 0 _ rfl
          have x1 := HTr.out.cell 1 _ rfl
          have x2 := HTr.out.cell 2 _ rfl
          have x3 := HTr.out.cell 3 _ rfl
          have x4 := HTr.out.cell 4 _ rfl
          have x5 := HTr.out.cell 5 _ rfl
          have x6 := HTr.out.cell 6 _ rfl
          have x7 := HTr.out.cell 7 _ rfl
          have f0 := HRr.out.frozen 0
          have y0 := HRr.out.cell 0 _ rfl
          have f1 := HRr.out.frozen 1
          have y1 := HRr.out.cell 1 _ rfl
          have f2 := HRr.out.frozen 2
          have y2 := HRr.out.cell 2 _ rfl
          have f3 := HRr.out.frozen 3
          have y3 := HRr.out.cell 3 _ rfl
          have f4 := HRr.out.frozen 4
          have y4 := HRr.out.cell 4 _ rfl
          have f5 := HRr.out.frozen 5
          have y5 := HRr.out.cell 5 _ rfl
          have f6 := HRr.out.frozen 6
          have y6 := HRr.out.cell 6 _ rfl
          have f7 := HRr.out.frozen 7
          have y7 := HRr.out.cell 7 _ rfl
          go_wp2_with fail
          have hbk := bk_eq (cs' := [.int .i64 4, .int .i64 0, .int .i64 0, .slice none 0 0, .slice none 0 0, .bool false, .int .i64 0, .slice Ar j cr]) (Bk.set (Bk.set (Bk.set (Bk.set (Bk.set (Bk.set (Bk.set (Bk.set HRr.out 0 _) 1 _) 2 _) 3 _) 4 _) 5 _) 6 _) 7 _) rfl
          refine bodyPost_ret (results_cell_row rfl _ _ (w.heap.size + 1) 31 #[.int .i64 4, .int .i64 0, .int .i64 0, .slice none 0 0, .slice none 0 0, .bool false, .int .i64 0, .slice Ar j cr] (0, 0) _ rfl hbk Tryd.underlying31 rfl (by kernel_rfl)) rfl ⟨[.int .i64 4, .int .i64 0, .int .i64 0, .slice none 0 0, .slice none 0 0, .bool false, .int .i64 0, .slice Ar j cr], rfl, fun W hN => ?_, ?_⟩
          · obtain ⟨A2, c2, hA2, hc2, hts⟩ := rowed_tests (Rowed.set (Rowed.set (Rowed.set (Rowed.set (Rowed.set (Rowed.set (Rowed.set (Rowed.set Hrow3.out (b := w.heap.size + 1) (by omega) 0 _) (b := w.heap.size + 1) (by omega) 1 _) (b := w.heap.size + 1) (by omega) 2 _) (b := w.heap.size + 1) (by omega) 3 _) (b := w.heap.size + 1) (by omega) 4 _) (b := w.heap.size + 1) (by omega) 5 _) (b := w.heap.size + 1) (by omega) 6 _) (b := w.heap.size + 1) (by omega) 7 _)
            simp only [Value.slice.injEq] at hA2
            obtain ⟨rfl, _, rfl⟩ := hA2
            have hres := testV_row (k := 4) (hts W (hN.mono (Nat.le_add_right _ 3))) (show ((inn.take 3).map tn).length ≤ cr ∧ ((inn.take 3).map tn).length ≤ 1000000 by omega)
            rw [hlenj] at hres
            first | exact hres | (rw [List.map_take] at hres; exact hres)
          · exact (Below.setCell (Below.setCell (Below.setCell (Below.setCell (Below.setCell (Below.setCell (Below.setCell (Below.setCell Hbr.out (Nat.le_add_right _ _) _) (Nat.le_add_right _ _) _) (Nat.le_add_right _ _) _) (Nat.le_add_right _ _) _) (Nat.le_add_right _ _) _) (Nat.le_add_right _ _) _) (Nat.le_add_right _ _) _) (Nat.le_add_right _ _) _)
end Go.Proofs.YtgmnoemkdigafaaDoor
namespace Go.Proofs.YtgmnoemkdigafaaDoor
open Go.RowKit
set_option linter.unusedVariables false

set_option maxRecDepth 100000 in
set_option maxHeartbeats 8000000 in
theorem tst_5 (kk a b : Int) (s t : ByteArray) (inn : List Stk) (A : Option Addr) (c : Nat) (d : Int) (w : World) (hd0 : 0 ≤ d) (hd : d ≤ 1000) (tn : Stk → Tst) (ih : ∀ (y : Stk) (vs : List Value) (W : World), StkV W y vs → Calls Tryd.prog 16 #[.agg vs.toArray, .int .i64 (d + 1)] W (TestA (tn y) W)) (h3 : d < 3) (hP10 : pickN kk 10 = 4) (hB : StkB kk a b s t inn.length c) (hA : StksAt w inn A) :
    Calls Tryd.prog 16 #[.agg #[.int .i64 kk, .int .i64 a, .int .i64 b, .string s, .string t, .slice A inn.length c], .int .i64 d] w fun e w' => ∃ tv, e = .returned (.agg (List.toArray tv)) ∧ (∀ W, New w.heap.size w' W → TestV W (.mk 5 0 0 [] [] false 0 (if inn = [] then [.mk (1 + (pickN a 2 : Int)) 0 0 [] [] false 0 []] else (inn.take 3).map tn)) tv) ∧ Below w.heap.size w w' := by
  obtain ⟨wk, wa, wb, ws, wt, hc1, hc2⟩ := hB
  unfold maxLen at ws wt hc2
  have hX := Bk.new w [.int .i64 kk, .int .i64 a, .int .i64 b, .string s, .string t, .slice A inn.length c] 39
  have hbx : Below w.heap.size w (w.alloc (.cells #[.int .i64 kk, .int .i64 a, .int .i64 b, .string s, .string t, .slice A inn.length c] 39)) := bal (Below.refl _ _) _
  have HX := Lib.hid hX
  have Hbx := Lib.hid hbx
  clear hX hbx
  have P10 : ∀ W : World, Calls Tryd.prog 13 #[.int .i64 kk, .int .i64 10] W fun e w' => e = .returned (.int .i64 ((4 : Nat) : Int)) ∧ W = w' := fun W => by
    have h := picked_calls kk 10 W wk (by decide) (by decide)
    rw [hP10] at h
    exact h
  have PA2 := fun W : World => picked_calls a 2 W wa (by decide) (by decide)
  have la2 := pickN_lt a 2 (by decide)
  have Hih := Lib.hid ih
  have HA := Lib.hid hA
  clear ih hA
  go_enter Tryd.func16, Tryd.ntmps16
  go_upto_region 1 with fail
  have hR := Bk.new (w.alloc (.cells #[.int .i64 kk, .int .i64 a, .int .i64 b, .string s, .string t, .slice A inn.length c] 39)) [.int .i64 0, .int .i64 0, .int .i64 0, .slice none 0 0, .slice none 0 0, .bool false, .int .i64 0, .slice none 0 0] 31
  have hX2 := HX.out.alloc (.cells #[.int .i64 0, .int .i64 0, .int .i64 0, .slice none 0 0, .slice none 0 0, .bool false, .int .i64 0, .slice none 0 0] 31)
  have hb2 := bal Hbx.out (.cells #[.int .i64 0, .int .i64 0, .int .i64 0, .slice none 0 0, .slice none 0 0, .bool false, .int .i64 0, .slice none 0 0] 31)
  have hs1 : (w.alloc (.cells #[.int .i64 kk, .int .i64 a, .int .i64 b, .string s, .string t, .slice A inn.length c] 39)).heap.size = w.heap.size + 1 := by simp
  rw [hs1] at hR
  have hs2 : ((w.alloc (.cells #[.int .i64 kk, .int .i64 a, .int .i64 b, .string s, .string t, .slice A inn.length c] 39)).alloc (.cells #[.int .i64 0, .int .i64 0, .int .i64 0, .slice none 0 0, .slice none 0 0, .bool false, .int .i64 0, .slice none 0 0] 31)).heap.size = w.heap.size + 2 := by simp
  have HR := Lib.hid hR
  have HX2 := Lib.hid hX2
  have Hb2 := Lib.hid hb2
  clear hR hX2 hb2 hs1 HX Hbx
  generalize (w.alloc (.cells #[.int .i64 kk, .int .i64 a, .int .i64 b, .string s, .string t, .slice A inn.length c] 39)).alloc (.cells #[.int .i64 0, .int .i64 0, .int .i64 0, .slice none 0 0, .slice none 0 0, .bool false, .int .i64 0, .slice none 0 0] 31) = w2 at *
  have x0 := HX2.out.cell 0 _ rfl
  go_upto_region 2 with (go_at_call 13; refine (P10 _).mono ?_; rintro e w' ⟨rfl, rfl⟩)
  clear P10 x0
  have hT := Bk.new w2 [.int .i64 5, .int .i64 0, .int .i64 0, .slice none 0 0, .slice none 0 0, .bool false, .int .i64 0, .slice none 0 0] 31
  have hT2 := HR.out.alloc (.cells #[.int .i64 5, .int .i64 0, .int .i64 0, .slice none 0 0, .slice none 0 0, .bool false, .int .i64 0, .slice none 0 0] 31)
  have hX3 := HX2.out.alloc (.cells #[.int .i64 5, .int .i64 0, .int .i64 0, .slice none 0 0, .slice none 0 0, .bool false, .int .i64 0, .slice none 0 0] 31)
  have hb3 := bal Hb2.out (.cells #[.int .i64 5, .int .i64 0, .int .i64 0, .slice none 0 0, .slice none 0 0, .bool false, .int .i64 0, .slice none 0 0] 31)
  rw [hs2] at hT
  have HT := Lib.hid hT
  have HR3 := Lib.hid hT2
  have HX3 := Lib.hid hX3
  have Hb3 := Lib.hid hb3
  clear hT hT2 hX3 hb3 HR HX2 Hb2
  go_upto_region 5 with fail
  have hs3 : (w2.alloc (.cells #[.int .i64 5, .int .i64 0, .int .i64 0, .slice none 0 0, .slice none 0 0, .bool false, .int .i64 0, .slice none 0 0] 31)).heap.size = w.heap.size + 3 := by simp; omega
  generalize w2.alloc (.cells #[.int .i64 5, .int .i64 0, .int .i64 0, .slice none 0 0, .slice none 0 0, .bool false, .int .i64 0, .slice none 0 0] 31) = w3 at *
  obtain ⟨i0, hi, hz0, hz1, hz2⟩ := info_parts info_tst
  have d3 : d ≤ 2 := by omega
  go_upto_region 13 with fail
  go_wp2_with fail
  go_loopw [8] (fun i wr => ∃ (j : Nat) (Ar : Option Addr) (cr : Nat), j ≤ inn.length ∧ j ≤ 3 ∧ i = .int .i64 j ∧ w.heap.size + 3 ≤ wr.heap.size ∧ Hid (Bk wr (w.heap.size + 2) [.int .i64 5, .int .i64 0, .int .i64 0, .slice none 0 0, .slice none 0 0, .bool false, .int .i64 0, .slice Ar j cr] 31) ∧ Hid (Bk wr (w.heap.size + 1) [.int .i64 0, .int .i64 0, .int .i64 0, .slice none 0 0, .slice none 0 0, .bool false, .int .i64 0, .slice none 0 0] 31) ∧ Hid (Bk wr w.heap.size [.int .i64 kk, .int .i64 a, .int .i64 b, .string s, .string t, .slice A inn.length c] 39) ∧ Hid (Rowed TestV 31 8 (w.heap.size + 3) wr (.slice Ar j cr) ((inn.take j).map tn)) ∧ Hid (Below w.heap.size w wr)) (fun i _ => 3 - (intOf i).toNat)
  case atStart => exact ⟨0, none, 0, Nat.zero_le _, Nat.zero_le _, rfl, by omega, HT, HR3, HX3, Lib.hid Rowed.nil, Hb3⟩
  case round =>
    obtain ⟨j, Ar, cr, hj, hj3, rfl, hsz, HTr, HRr, HXr, Hrow, Hbr⟩ := hrel
    have x5 := HXr.out.cell 5 _ rfl
    by_cases hlt : j < inn.length ∧ j < 3
    · obtain ⟨hlt1, hlt2⟩ := hlt
      have hj0 : (0 : Int) ≤ (j : Int) := by omega
      have hj1 : (j : Int) < (inn.length : Int) := by omega
      have hj2 : (j : Int) < 3 := by omega
      obtain ⟨sy, hsy⟩ : ∃ s, inn[j]? = some s := ⟨inn[j], by simp [hlt1]⟩
      obtain ⟨g, off, rfl⟩ := stksAt_ptr HA.out (by rintro rfl; simp at hlt1)
      obtain ⟨vs, hcl, hv⟩ := stksAt_get inn g off j sy HA.out hsy
      obtain ⟨yk, ya, yb, ys, yt, YA, yn, yc, rfl⟩ := stkV_cells hv
      have v0 := cell_later Hbr.out (hcl 0 _ rfl)
      have v1 := cell_later Hbr.out (hcl 1 _ rfl)
      have v2 := cell_later Hbr.out (hcl 2 _ rfl)
      have v3 := cell_later Hbr.out (hcl 3 _ rfl)
      have v4 := cell_later Hbr.out (hcl 4 _ rfl)
      have v5 := cell_later Hbr.out (hcl 5 _ rfl)
      simp only [Nat.add_zero] at v0
      have hcall := Hih.out sy _ wr (stkV_later Hbr.out sy _ hv)
      have Hcall := Lib.hid hcall
      clear hcall hcl hv
      go_upto_region 17 with (go_at_call 16; (refine Hcall.out.mono ?_); rintro e w9 ⟨k1, m1, p1, lm1, o1, An1, Ak1, At1, nn1, cn1, nk1, ck1, nt1, ct1, rfl, HTy, hb9⟩; have Hb9 := Lib.hid hb9; clear hb9)
      have hba := btr Hb9.out (bal (Below.refl _ w9) (.cells #[.int .i64 k1, .int .i64 m1, .int .i64 p1, .slice An1 nn1 cn1, .slice Ak1 nk1 ck1, .bool o1, .int .i64 lm1, .slice At1 nt1 ct1] 31))
      have HL := Lib.hid (Bk.new w9 [.int .i64 k1, .int .i64 m1, .int .i64 p1, .slice An1 nn1 cn1, .slice Ak1 nk1 ck1, .bool o1, .int .i64 lm1, .slice At1 nt1 ct1] 31)
      have HTa := Lib.hid (HTr.out.later hba)
      have HRa := Lib.hid (HRr.out.later hba)
      have HXa := Lib.hid (HXr.out.later hba)
      have Hrowa := Lib.hid (Hrow.out.later hba)
      have Hba := Lib.hid (btr Hbr.out hba)
      obtain ⟨_, _, hsl, hown⟩ := Hrow.out.sl
      have hs9 := Hb9.out.size
      have hsa : (w9.alloc (.cells #[.int .i64 k1, .int .i64 m1, .int .i64 p1, .slice An1 nn1 cn1, .slice Ak1 nk1 ck1, .bool o1, .int .i64 lm1, .slice At1 nt1 ct1] 31)).heap.size = w9.heap.size + 1 := by simp
      have hny : ∀ W', New wr.heap.size (w9.alloc (.cells #[.int .i64 k1, .int .i64 m1, .int .i64 p1, .slice An1 nn1 cn1, .slice Ak1 nk1 ck1, .bool o1, .int .i64 lm1, .slice At1 nt1 ct1] 31)) W' → TestV W' (tn sy) [.int .i64 k1, .int .i64 m1, .int .i64 p1, .slice An1 nn1 cn1, .slice Ak1 nk1 ck1, .bool o1, .int .i64 lm1, .slice At1 nt1 ct1] := fun W' hW => HTy.out W' fun k q1 q2 => by
        rw [hW k q1 (by omega)]
        show (w9.heap.push _)[k]? = w9.heap[k]?
        rw [Array.getElem?_push, if_neg (by omega)]
      have Hny := Lib.hid hny
      have Hown := Lib.hid hown
      clear hba hny hown hsl v0 v1 v2 v3 v4 v5 x5 HTr HRr HXr Hrow Hbr Hcall HTy Hb9
      generalize w9.alloc (.cells #[.int .i64 k1, .int .i64 m1, .int .i64 p1, .slice An1 nn1 cn1, .slice Ak1 nk1 ck1, .bool o1, .int .i64 lm1, .slice At1 nt1 ct1] 31) = wa at *
      have l0 := HL.out.cell 0 _ rfl
      have l1 := HL.out.cell 1 _ rfl
      have l2 := HL.out.cell 2 _ rfl
      have l3 := HL.out.cell 3 _ rfl
      have l4 := HL.out.cell 4 _ rfl
      have l5 := HL.out.cell 5 _ rfl
      have l6 := HL.out.cell 6 _ rfl
      have l7 := HL.out.cell 7 _ rfl
      have x7 := HTa.out.cell 7 _ rfl
      have x7b := (HTa.out.alloc (.cells #[.int .i64 k1, .int .i64 m1, .int .i64 p1, .slice An1 nn1 cn1, .slice Ak1 nk1 ck1, .bool o1, .int .i64 lm1, .slice At1 nt1 ct1] 31)).cell 7 _ rfl
      have Hrowb := Lib.hid (Hrowa.out.later (bal (Below.refl _ wa) (.cells #[.int .i64 k1, .int .i64 m1, .int .i64 p1, .slice An1 nn1 cn1, .slice Ak1 nk1 ck1, .bool o1, .int .i64 lm1, .slice At1 nt1 ct1] 31)))
      obtain ⟨vss, r1, r2, r3, r4⟩ := Hrowb.out
      have hlenj : ((inn.take j).map tn).length = j := by rw [List.length_map, List.length_take]; omega
      rw [hlenj] at r1 r3
      have hfin : ∀ (g' cap : Nat) (w12 : World), w12.ownsRow (w.heap.size + 3) 31 8 (.slice (some ⟨g', 0, none⟩) (j + 1) cap) (j + 1) (vss.flatten ++ [.int .i64 k1, .int .i64 m1, .int .i64 p1, .slice An1 nn1 cn1, .slice Ak1 nk1 ck1, .bool o1, .int .i64 lm1, .slice At1 nt1 ct1]) → (wa.alloc (.cells #[.int .i64 k1, .int .i64 m1, .int .i64 p1, .slice An1 nn1 cn1, .slice Ak1 nk1 ck1, .bool o1, .int .i64 lm1, .slice At1 nt1 ct1] 31)).grownBy w12 (Value.ownBlock (.slice Ar j cr)) → ((Value.slice Ar j cr).ownBlock = some g' ∨ g' = (wa.alloc (.cells #[.int .i64 k1, .int .i64 m1, .int .i64 p1, .slice An1 nn1 cn1, .slice Ak1 nk1 ck1, .bool o1, .int .i64 lm1, .slice At1 nt1 ct1] 31)).heap.size) → w12.cell? ⟨w.heap.size + 2, 7, none⟩ = some (.slice Ar j cr) ∧ w12.frozen? ⟨w.heap.size + 2, 7, none⟩ = false ∧ Hid (Bk (w12.setCell ⟨w.heap.size + 2, 7, none⟩ (.slice (some ⟨g', 0, none⟩) (j + 1) cap)) (w.heap.size + 2) [.int .i64 5, .int .i64 0, .int .i64 0, .slice none 0 0, .slice none 0 0, .bool false, .int .i64 0, .slice (some ⟨g', 0, none⟩) (j + 1) cap] 31 ∧ Bk (w12.setCell ⟨w.heap.size + 2, 7, none⟩ (.slice (some ⟨g', 0, none⟩) (j + 1) cap)) (w.heap.size + 1) [.int .i64 0, .int .i64 0, .int .i64 0, .slice none 0 0, .slice none 0 0, .bool false, .int .i64 0, .slice none 0 0] 31 ∧ Bk (w12.setCell ⟨w.heap.size + 2, 7, none⟩ (.slice (some ⟨g', 0, none⟩) (j + 1) cap)) w.heap.size [.int .i64 kk, .int .i64 a, .int .i64 b, .string s, .string t, .slice (some ⟨g, off, none⟩) inn.length c] 39 ∧ Rowed TestV 31 8 (w.heap.size + 3) (w12.setCell ⟨w.heap.size + 2, 7, none⟩ (.slice (some ⟨g', 0, none⟩) (j + 1) cap)) (.slice (some ⟨g', 0, none⟩) (j + 1) cap) ((inn.take (j + 1)).map tn) ∧ Below w.heap.size w (w12.setCell ⟨w.heap.size + 2, 7, none⟩ (.slice (some ⟨g', 0, none⟩) (j + 1) cap)) ∧ w.heap.size + 3 ≤ (w12.setCell ⟨w.heap.size + 2, 7, none⟩ (.slice (some ⟨g', 0, none⟩) (j + 1) cap)).heap.size) := fun g' cap w12 ho hg hat => by
        have hne : ∀ q, q < w.heap.size + 3 → some q ≠ Value.ownBlock (.slice Ar j cr) := fun q hq e => by have := own_base' r3 q e.symm; omega
        have hT := (HTa.out.alloc (.cells #[.int .i64 k1, .int .i64 m1, .int .i64 p1, .slice An1 nn1 cn1, .slice Ak1 nk1 ck1, .bool o1, .int .i64 lm1, .slice At1 nt1 ct1] 31)).grown hg (hne _ (by omega))
        have hR := (HRa.out.alloc (.cells #[.int .i64 k1, .int .i64 m1, .int .i64 p1, .slice An1 nn1 cn1, .slice Ak1 nk1 ck1, .bool o1, .int .i64 lm1, .slice At1 nt1 ct1] 31)).grown hg (hne _ (by omega))
        have hX := (HXa.out.alloc (.cells #[.int .i64 k1, .int .i64 m1, .int .i64 p1, .slice An1 nn1 cn1, .slice Ak1 nk1 ck1, .bool o1, .int .i64 lm1, .slice At1 nt1 ct1] 31)).grown hg (hne _ (by omega))
        have hp := Rowed.push (xs := (inn.take j).map tn) (x := tn sy) (vs := [.int .i64 k1, .int .i64 m1, .int .i64 p1, .slice An1 nn1 cn1, .slice Ak1 nk1 ck1, .bool o1, .int .i64 lm1, .slice At1 nt1 ct1]) (C := wr.heap.size) (g := g') (cap := cap) (w8 := w12) (W := wa.alloc (.cells #[.int .i64 k1, .int .i64 m1, .int .i64 p1, .slice An1 nn1 cn1, .slice Ak1 nk1 ck1, .bool o1, .int .i64 lm1, .slice At1 nt1 ct1] 31)) vss (by rw [hlenj]; exact r1) r2 (by rw [hlenj]; exact r3) r4 rfl hsz (fun k hk => Hown.out k hk) (fun W' hW => Hny.out W' (fun k q1 q2 => by
            rw [hW k q1 (by simp; omega)]
            show (wa.heap.push _)[k]? = wa.heap[k]?
            rw [Array.getElem?_push, if_neg (by omega)])) (by rw [hlenj]; exact ho) hg hat
        rw [hlenj] at hp
        have htk : (inn.take (j + 1)).map tn = (inn.take j).map tn ++ [tn sy] := by rw [List.take_add_one, hsy, Option.toList_some, List.map_append]; rfl
        refine ⟨hT.cell 7 _ rfl, hT.frozen 7, Lib.hid ⟨hT.set 7 _, hR.other (by omega) 7 _, hX.other (by omega) 7 _, ?_, ?_, ?_⟩⟩
        · rw [htk]
          exact hp.set (by omega) 7 _
        · exact (((Hba.out.alloc Hba.out.size _).grown hg (by have := Hba.out.size; simp; omega) (fun k e => by have := own_base' r3 k e; omega))).setCell (p := ⟨w.heap.size + 2, 7, none⟩) (Nat.le_add_right _ _) _
        · have := hg.size
          simp at this ⊢
          omega
      have Hfin := Lib.hid hfin
      clear hfin
      have Hnw := Lib.hid (bk_newN wa (w9.heap.size + 1) [.int .i64 k1, .int .i64 m1, .int .i64 p1, .slice An1 nn1 cn1, .slice Ak1 nk1 ck1, .bool o1, .int .i64 lm1, .slice At1 nt1 ct1] 31 hsa)
      go_wp2_with (at_builtin; refine wpList_append_lies _ rfl _ _ 29 rfl (w.heap.size + 3) 31 i0 _ 8 112 Tryd.underlying29 hi hz0 hz1 hz2 rfl (by omega) (.slice Ar j cr) j vss.flatten rfl r3 ⟨w9.heap.size + 1, 0, none⟩ 1 1 [.int .i64 k1, .int .i64 m1, .int .i64 p1, .slice An1 nn1 cn1, .slice Ak1 nk1 ck1, .bool o1, .int .i64 lm1, .slice At1 nt1 ct1] rfl rfl (World.news_of_block (cs := #[.int .i64 k1, .int .i64 m1, .int .i64 p1, .slice An1 nn1 cn1, .slice Ak1 nk1 ck1, .bool o1, .int .i64 lm1, .slice At1 nt1 ct1]) (t := 31) (fr := (0, 0)) Hnw.out) (by simp [Value.oneCell']) (by omega) (by unfold maxLen; omega) (by omega) (by simp; omega) _ rfl ?_; intro g' cap w12 hown9 hgrow9 hat9 hglt9; obtain ⟨d0, d1, Hf⟩ := Hfin.out g' cap w12 hown9 hgrow9 hat9; clear hown9 hgrow9 hat9)
      go_roundw
      case rel =>
        obtain ⟨q1, q2, q3, q4, q5, q6⟩ := Hf.out
        exact ⟨j + 1, some ⟨g', 0, none⟩, cap, by omega, by omega, by go_num, q6, Lib.hid q1, Lib.hid q2, Lib.hid q3, Lib.hid q4, Lib.hid q5⟩
      case measure => simp [intOf]; omega
    · have hend : inn.take j = inn.take 3 := by
        by_cases h : j = 3
        · rw [h]
        · rw [List.take_of_length_le (by omega), List.take_of_length_le (by omega)]
      obtain ⟨wo, hwo⟩ : ∃ wo, wo = wr := ⟨_, rfl⟩
      subst hwo
      have x7 := HTr.out.cell 7 _ rfl
      by_cases hz : j = 0
      · subst hz
        have hin : inn = [] := by
          cases inn with
          | nil => rfl
          | cons y r => simp at hlt
        subst hin
        simp only [List.length_nil] at x5
        have x1 := HXr.out.cell 1 _ rfl
        have h9 := HTr.out.alloc (.cells #[.int .i64 (1 + (pickN a 2 : Int)), .int .i64 0, .int .i64 0, .slice none 0 0, .slice none 0 0, .bool false, .int .i64 0, .slice none 0 0] 31)
        have y7 := h9.cell 7 _ rfl
        have f7 := h9.frozen 7
        clear h9
        go_upto_region 37 with (go_at_call 13; (first | (with_reducible refine (PA2 _).mono ?_)); rintro e w' ⟨rfl, rfl⟩)
        obtain ⟨hT10, hR10, hP10', hB10, hpb⟩ := fin9 (T' := [.int .i64 5, .int .i64 0, .int .i64 0, .slice none 0 0, .slice none 0 0, .bool false, .int .i64 0, .slice (some ⟨wo.heap.size, 0, none⟩) 1 1]) (P := [.int .i64 (1 + (pickN a 2 : Int)), .int .i64 0, .int .i64 0, .slice none 0 0, .slice none 0 0, .bool false, .int .i64 0, .slice none 0 0]) (tS := 31) HTr.out HRr.out Hbr.out (show wo.heap.size = wo.heap.size from rfl) (show w.heap.size + 2 ≠ w.heap.size + 1 by omega) (Nat.le_add_right _ _) 7 (.slice (some ⟨wo.heap.size, 0, none⟩) 1 1) rfl
        have HT10 := Lib.hid hT10
        have HR10 := Lib.hid hR10
        have HP10 := Lib.hid hP10'
        have HB10 := Lib.hid hB10
        clear hT10 hR10 hP10' hB10 x1 x5 x7 y7 f7 HTr HRr HXr Hrow Hbr
        generalize (wo.alloc (.cells #[.int .i64 (1 + (pickN a 2 : Int)), .int .i64 0, .int .i64 0, .slice none 0 0, .slice none 0 0, .bool false, .int .i64 0, .slice none 0 0] 31)).setCell ⟨w.heap.size + 2, 7, none⟩ (.slice (some ⟨wo.heap.size, 0, none⟩) 1 1) = w10 at *
        have x0 := HT10.out.cell 0 _ rfl
        have x1 := HT10.out.cell 1 _ rfl
        have x2 := HT10.out.cell 2 _ rfl
        have x3 := HT10.out.cell 3 _ rfl
        have x4 := HT10.out.cell 4 _ rfl
        have x5 := HT10.out.cell 5 _ rfl
        have x6 := HT10.out.cell 6 _ rfl
        have x7 := HT10.out.cell 7 _ rfl
        have f0 := HR10.out.frozen 0
        have y0 := HR10.out.cell 0 _ rfl
        have f1 := HR10.out.frozen 1
        have y1 := HR10.out.cell 1 _ rfl
        have f2 := HR10.out.frozen 2
        have y2 := HR10.out.cell 2 _ rfl
        have f3 := HR10.out.frozen 3
        have y3 := HR10.out.cell 3 _ rfl
        have f4 := HR10.out.frozen 4
        have y4 := HR10.out.cell 4 _ rfl
        have f5 := HR10.out.frozen 5
        have y5 := HR10.out.cell 5 _ rfl
        have f6 := HR10.out.frozen 6
        have y6 := HR10.out.cell 6 _ rfl
        have f7 := HR10.out.frozen 7
        have y7 := HR10.out.cell 7 _ rfl
        go_wp2_with fail
        have hbk := bk_eq (cs' := [.int .i64 5, .int .i64 0, .int .i64 0, .slice none 0 0, .slice none 0 0, .bool false, .int .i64 0, .slice (some ⟨wo.heap.size, 0, none⟩) 1 1]) (Bk.set (Bk.set (Bk.set (Bk.set (Bk.set (Bk.set (Bk.set (Bk.set HR10.out 0 _) 1 _) 2 _) 3 _) 4 _) 5 _) 6 _) 7 _) rfl
        refine bodyPost_ret (results_cell_row rfl _ _ (w.heap.size + 1) 31 #[.int .i64 5, .int .i64 0, .int .i64 0, .slice none 0 0, .slice none 0 0, .bool false, .int .i64 0, .slice (some ⟨wo.heap.size, 0, none⟩) 1 1] (0, 0) _ rfl hbk Tryd.underlying31 rfl (by kernel_rfl)) rfl ⟨[.int .i64 5, .int .i64 0, .int .i64 0, .slice none 0 0, .slice none 0 0, .bool false, .int .i64 0, .slice (some ⟨wo.heap.size, 0, none⟩) 1 1], rfl, fun W hN => ?_, ?_⟩
        · exact testV_row (ts := [_]) (testsAt_one (testV_leaf W _) (Bk.neu (Bk.other (Bk.other (Bk.other (Bk.other (Bk.other (Bk.other (Bk.other (Bk.other HP10.out (by omega) 0 _) (by omega) 1 _) (by omega) 2 _) (by omega) 3 _) (by omega) 4 _) (by omega) 5 _) (by omega) 6 _) (by omega) 7 _) hN (by omega))) (by simp)
        · exact (Below.setCell (Below.setCell (Below.setCell (Below.setCell (Below.setCell (Below.setCell (Below.setCell (Below.setCell HB10.out (Nat.le_add_right _ _) _) (Nat.le_add_right _ _) _) (Nat.le_add_right _ _) _) (Nat.le_add_right _ _) _) (Nat.le_add_right _ _) _) (Nat.le_add_right _ _) _) (Nat.le_add_right _ _) _) (Nat.le_add_right _ _) _)
      · have hz0 : ((j : Int) == 0) = false := by rw [beq_eq_false_iff_ne]; omega
        have hin : inn ≠ [] := by rintro rfl; simp at hj; exact hz hj
        have hrow := Hrow.out
        rw [hend] at hrow
        have hlenj : ((inn.take 3).map tn).length = j := by rw [← hend, List.length_map, List.length_take]; omega
        have Hrow3 := Lib.hid hrow
        clear hrow Hrow
        rcases (show inn.length ≤ j ∨ (j < inn.length ∧ 3 ≤ j) by omega) with hq | ⟨hq, hq3⟩
        · have q1 : ¬ ((j : Int) < (inn.length : Int)) := by omega
          go_upto_region 37 with fail
          clear x7 x5
          have x0 := HTr.out.cell 0 _ rfl
          have x1 := HTr.out.cell 1 _ rfl
          have x2 := HTr.out.cell 2 _ rfl
          have x3 := HTr.out.cell 3 _ rfl
          have x4 := HTr.out.cell 4 _ rfl
          have x5 := HTr.out.cell 5 _ rfl
          have x6 := HTr.out.cell 6 _ rfl
          have x7 := HTr.out.cell 7 _ rfl
          have f0 := HRr.out.frozen 0
          have y0 := HRr.out.cell 0 _ rfl
          have f1 := HRr.out.frozen 1
          have y1 := HRr.out.cell 1 _ rfl
          have f2 := HRr.out.frozen 2
          have y2 := HRr.out.cell 2 _ rfl
          have f3 := HRr.out.frozen 3
          have y3 := HRr.out.cell 3 _ rfl
          have f4 := HRr.out.frozen 4
          have y4 := HRr.out.cell 4 _ rfl
          have f5 := HRr.out.frozen 5
          have y5 := HRr.out.cell 5 _ rfl
          have f6 := HRr.out.frozen 6
          have y6 := HRr.out.cell 6 _ rfl
          have f7 := HRr.out.frozen 7
          have y7 := HRr.out.cell 7 _ rfl
          go_wp2_with fail
          have hbk := bk_eq (cs' := [.int .i64 5, .int .i64 0, .int .i64 0, .slice none 0 0, .slice none 0 0, .bool false, .int .i64 0, .slice Ar j cr]) (Bk.set (Bk.set (Bk.set (Bk.set (Bk.set (Bk.set (Bk.set (Bk.set HRr.out 0 _) 1 _) 2 _) 3 _) 4 _) 5 _) 6 _) 7 _) rfl
          refine bodyPost_ret (results_cell_row rfl _ _ (w.heap.size + 1) 31 #[.int .i64 5, .int .i64 0, .int .i64 0, .slice none 0 0, .slice none 0 0, .bool false, .int .i64 0, .slice Ar j cr] (0, 0) _ rfl hbk Tryd.underlying31 rfl (by kernel_rfl)) rfl ⟨[.int .i64 5, .int .i64 0, .int .i64 0, .slice none 0 0, .slice none 0 0, .bool false, .int .i64 0, .slice Ar j cr], rfl, fun W hN => ?_, ?_⟩
          · obtain ⟨A2, c2, hA2, hc2, hts⟩ := rowed_tests (Rowed.set (Rowed.set (Rowed.set (Rowed.set (Rowed.set (Rowed.set (Rowed.set (Rowed.set Hrow3.out (b := w.heap.size + 1) (by omega) 0 _) (b := w.heap.size + 1) (by omega) 1 _) (b := w.heap.size + 1) (by omega) 2 _) (b := w.heap.size + 1) (by omega) 3 _) (b := w.heap.size + 1) (by omega) 4 _) (b := w.heap.size + 1) (by omega) 5 _) (b := w.heap.size + 1) (by omega) 6 _) (b := w.heap.size + 1) (by omega) 7 _)
            simp only [Value.slice.injEq] at hA2
            obtain ⟨rfl, _, rfl⟩ := hA2
            have hres := testV_row (k := 5) (hts W (hN.mono (Nat.le_add_right _ 3))) (show ((inn.take 3).map tn).length ≤ cr ∧ ((inn.take 3).map tn).length ≤ 1000000 by omega)
            rw [hlenj] at hres
            first | exact hres | (rw [List.map_take] at hres; exact hres)
          · exact (Below.setCell (Below.setCell (Below.setCell (Below.setCell (Below.setCell (Below.setCell (Below.setCell (Below.setCell Hbr.out (Nat.le_add_right _ _) _) (Nat.le_add_right _ _) _) (Nat.le_add_right _ _) _) (Nat.le_add_right _ _) _) (Nat.le_add_right _ _) _) (Nat.le_add_right _ _) _) (Nat.le_add_right _ _) _) (Nat.le_add_right _ _) _)
        · have q1 : (j : Int) < (inn.length : Int) := by omega
          have q2 : ¬ ((j : Int) < 3) := by omega
          go_upto_region 37 with fail
          clear x7 x5
          have x0 := HTr.out.cell 0 _ rfl
          have x1 := HTr.out.cell 1 _ rfl
          have x2 := HTr.out.cell 2 _ rfl
          have x3 := HTr.out.cell 3 _ rfl
          have x4 := HTr.out.cell 4 _ rfl
          have x5 := HTr.out.cell 5 _ rfl
          have x6 := HTr.out.cell 6 _ rfl
          have x7 := HTr.out.cell 7 _ rfl
          have f0 := HRr.out.frozen 0
          have y0 := HRr.out.cell 0 _ rfl
          have f1 := HRr.out.frozen 1
          have y1 := HRr.out.cell 1 _ rfl
          have f2 := HRr.out.frozen 2
          have y2 := HRr.out.cell 2 _ rfl
          have f3 := HRr.out.frozen 3
          have y3 := HRr.out.cell 3 _ rfl
          have f4 := HRr.out.frozen 4
          have y4 := HRr.out.cell 4 _ rfl
          have f5 := HRr.out.frozen 5
          have y5 := HRr.out.cell 5 _ rfl
          have f6 := HRr.out.frozen 6
          have y6 := HRr.out.cell 6 _ rfl
          have f7 := HRr.out.frozen 7
          have y7 := HRr.out.cell 7 _ rfl
          go_wp2_with fail
          have hbk := bk_eq (cs' := [.int .i64 5, .int .i64 0, .int .i64 0, .slice none 0 0, .slice none 0 0, .bool false, .int .i64 0, .slice Ar j cr]) (Bk.set (Bk.set (Bk.set (Bk.set (Bk.set (Bk.set (Bk.set (Bk.set HRr.out 0 _) 1 _) 2 _) 3 _) 4 _) 5 _) 6 _) 7 _) rfl
          refine bodyPost_ret (results_cell_row rfl _ _ (w.heap.size + 1) 31 #[.int .i64 5, .int .i64 0, .int .i64 0, .slice none 0 0, .slice none 0 0, .bool false, .int .i64 0, .slice Ar j cr] (0, 0) _ rfl hbk Tryd.underlying31 rfl (by kernel_rfl)) rfl ⟨[.int .i64 5, .int .i64 0, .int .i64 0, .slice none 0 0, .slice none 0 0, .bool false, .int .i64 0, .slice Ar j cr], rfl, fun W hN => ?_, ?_⟩
          · obtain ⟨A2, c2, hA2, hc2, hts⟩ := rowed_tests (Rowed.set (Rowed.set (Rowed.set (Rowed.set (Rowed.set (Rowed.set (Rowed.set (Rowed.set Hrow3.out (b := w.heap.size + 1) (by omega) 0 _) (b := w.heap.size + 1) (by omega) 1 _) (b := w.heap.size + 1) (by omega) 2 _) (b := w.heap.size + 1) (by omega) 3 _) (b := w.heap.size + 1) (by omega) 4 _) (b := w.heap.size + 1) (by omega) 5 _) (b := w.heap.size + 1) (by omega) 6 _) (b := w.heap.size + 1) (by omega) 7 _)
            simp only [Value.slice.injEq] at hA2
            obtain ⟨rfl, _, rfl⟩ := hA2
            have hres := testV_row (k := 5) (hts W (hN.mono (Nat.le_add_right _ 3))) (show ((inn.take 3).map tn).length ≤ cr ∧ ((inn.take 3).map tn).length ≤ 1000000 by omega)
            rw [hlenj] at hres
            first | exact hres | (rw [List.map_take] at hres; exact hres)
          · exact (Below.setCell (Below.setCell (Below.setCell (Below.setCell (Below.setCell (Below.setCell (Below.setCell (Below.setCell Hbr.out (Nat.le_add_right _ _) _) (Nat.le_add_right _ _) _) (Nat.le_add_right _ _) _) (Nat.le_add_right _ _) _) (Nat.le_add_right _ _) _) (Nat.le_add_right _ _) _) (Nat.le_add_right _ _) _) (Nat.le_add_right _ _) _)
end Go.Proofs.YtgmnoemkdigafaaDoor
namespace Go.Proofs.YtgmnoemkdigafaaDoor
open Go.RowKit
set_option linter.unusedVariables false

theorem testn_calls : ∀ (n : Nat) (x : Stk) (d : Int) (vs : List Value) (w : World), 0 ≤ d → d + n = 3 → StkV w x vs →
    Calls Tryd.prog 16 #[.agg vs.toArray, .int .i64 d] w (TestA (testN n x) w)
  | 0, x, d, vs, w, hd0, hd, hv => test0_calls x d vs w (by omega) (by omega) hv
  | n + 1, x, d, vs, w, hd0, hd, hv => by
    have ih : ∀ (y : Stk) (vs : List Value) (W : World), StkV W y vs → Calls Tryd.prog 16 #[.agg vs.toArray, .int .i64 (d + 1)] W (TestA (testN n y) W) := fun y vs W hy => testn_calls n y (d + 1) vs W (by omega) (by omega) hy
    obtain ⟨kk, a, b, s, t, inn⟩ := x
    unfold StkV at hv
    obtain ⟨A, c, rfl, hA, hB⟩ := hv
    have hp := pickN_lt kk 10 (by decide)
    have hd1 : d ≤ 1000 := by omega
    have hlo : d < 3 := by omega
    have hk : ∀ (v : Nat) (K : Int), pickN kk 10 = v → (1 : Int) + v = K → ¬ (3 ≤ K ∧ K ≤ 5) → testN (n + 1) (.mk kk a b s t inn) = leafT K (.mk kk a b s t inn) := fun v K h1 h2 h3 => by
      have e : (Stk.mk kk a b s t inn).k0 = K := by show (1 : Int) + (pickN kk 10 : Nat) = K; rw [h1, h2]
      rw [testN, e, if_neg (by omega), if_neg h3]
    have hkt : ∀ (v : Nat) (K : Int), pickN kk 10 = v → (1 : Int) + v = K → K = 4 ∨ K = 5 → testN (n + 1) (.mk kk a b s t inn) = .mk K 0 0 [] [] false 0 (if inn = [] then [.mk (1 + (pickN a 2 : Int)) 0 0 [] [] false 0 []] else (inn.take 3).map (testN n)) := fun v K h1 h2 h3 => by
      have e : (Stk.mk kk a b s t inn).k0 = K := by show (1 : Int) + (pickN kk 10 : Nat) = K; rw [h1, h2]
      rw [testN, e, if_neg (by omega), if_pos (by omega)]
      rfl
    rcases (show pickN kk 10 = 0 ∨ pickN kk 10 = 1 ∨ pickN kk 10 = 2 ∨ pickN kk 10 = 3 ∨ pickN kk 10 = 4 ∨ pickN kk 10 = 5 ∨ pickN kk 10 = 6 ∨ pickN kk 10 = 7 ∨ pickN kk 10 = 8 ∨ pickN kk 10 = 9 by omega) with h | h | h | h | h | h | h | h | h | h
    · exact testA_of (tst_1 kk a b s t inn A c d w hd0 hd1 h hB hA) (hk 0 1 h (by decide) (by decide))
    · exact testA_of (tst_2 kk a b s t inn A c d w hd0 hd1 h hB hA) (hk 1 2 h (by decide) (by decide))
    · refine testA_of (tst_3 kk a b s t inn A c d w hd0 hd1 (testN n) ih hlo h hB hA) ?_
      have e : (Stk.mk kk a b s t inn).k0 = 3 := by show (1 : Int) + (pickN kk 10 : Nat) = 3; rw [h]; decide
      rw [testN, e, if_pos rfl]
    · exact testA_of (tst_4 kk a b s t inn A c d w hd0 hd1 (testN n) ih hlo h hB hA) (hkt 3 4 h (by decide) (.inl rfl))
    · exact testA_of (tst_5 kk a b s t inn A c d w hd0 hd1 (testN n) ih hlo h hB hA) (hkt 4 5 h (by decide) (.inr rfl))
    · exact testA_of (tst_6 kk a b s t inn A c d w hd0 hd1 h hB hA) (hk 5 6 h (by decide) (by decide))
    · exact testA_of (tst_7 kk a b s t inn A c d w hd0 hd1 h hB hA) (hk 6 7 h (by decide) (by decide))
    · exact testA_of (tst_8 kk a b s t inn A c d w hd0 hd1 h hB hA) (hk 7 8 h (by decide) (by decide))
    · exact testA_of (tst_9 kk a b s t inn A c d w hd0 hd1 h hB hA) (hk 8 9 h (by decide) (by decide))
    · exact testA_of (tst_10 kk a b s t inn A c d w hd0 hd1 h hB hA) (hk 9 10 h (by decide) (by decide))
end Go.Proofs.YtgmnoemkdigafaaDoor
namespace Go.Proofs.YtgmnoemkdigafaaDoor
open Go.RowKit
set_option linter.unusedVariables false

theorem stksAt_take {w : World} : ∀ (l : List Stk) (A : Option Addr) (n : Nat), StksAt w l A → StksAt w (l.take n) A
  | [], A, n, h => by rw [List.take_nil]; exact h
  | x :: l, A, 0, h => by rw [List.take_zero]; unfold StksAt; trivial
  | x :: l, A, n + 1, h => by
    rw [List.take_succ_cons]
    unfold StksAt at h ⊢
    obtain ⟨b, off, vs, rfl, h1, h2, h3⟩ := h
    exact ⟨b, off, vs, rfl, h1, h2, stksAt_take l _ n h3⟩
theorem stksAt_drop {w : World} : ∀ (l : List Stk) (b off n : Nat), StksAt w l (some ⟨b, off, none⟩) → StksAt w (l.drop n) (some ⟨b, off + n * 6, none⟩)
  | [], b, off, n, h => by rw [List.drop_nil]; unfold StksAt; trivial
  | x :: l, b, off, 0, h => by rw [List.drop_zero, Nat.zero_mul, Nat.add_zero]; exact h
  | x :: l, b, off, n + 1, h => by
    rw [List.drop_succ_cons]
    unfold StksAt at h
    obtain ⟨b', off', vs, e, h1, h2, h3⟩ := h
    simp only [Option.some.injEq, Addr.mk.injEq, and_true] at e
    obtain ⟨rfl, rfl⟩ := e
    have := stksAt_drop l b (off + 6) n h3
    rw [show off + (n + 1) * 6 = off + 6 + n * 6 by omega]
    exact this
/-- The rest of a list of sticks: what the slice expression gives. -/
theorem stk_slice {w : World} {inn : List Stk} {A : Option Addr} (c h : Nat) (hA : StksAt w inn A) (hh : h ≤ inn.length) (hlc : inn.length ≤ c) :
    ∃ A2, (∀ W : World, (Instr.slice 37 (.slice A inn.length c) (some (.int .i64 (h : Int))) none none).run Tryd.prog W = .ok (.slice A2 (inn.length - h) (c - h)) W) ∧ StksAt w (inn.drop h) A2 := by
  refine ⟨if c = h then A else A.map (·.add (h * 6)), fun W => ?_, ?_⟩
  · have hs : (sizeOf (Tryd.prog.elem 37)).run Tryd.prog W = .ok 6 W := by kernel_rfl
    rw [run_slice_l W 37 A inn.length c (by kernel_rfl) .i64 (h : Int) (by omega) (by omega), hs]
    rfl
  · by_cases hn : inn.drop h = []
    · rw [hn]; unfold StksAt; trivial
    · have hne : inn ≠ [] := by rintro rfl; exact hn (by simp)
      obtain ⟨g, off, rfl⟩ := stksAt_ptr hA hne
      by_cases hc : c = h
      · rw [if_pos hc]
        exact absurd (List.drop_eq_nil_of_le (by omega)) hn
      · rw [if_neg hc]
        simp only [Option.map_some, Addr.add_lit]
        exact stksAt_drop inn g off h hA
/-- The quotient that parts a list of sticks in two. -/
theorem half_facts (n : Nat) (h : n ≤ 140737488351232) : Int.tdiv ((n : Int) + 1) 2 = (((n + 1) / 2 : Nat) : Int) ∧ (n + 1) / 2 ≤ n ∨ n = 0 := by
  by_cases h0 : n = 0
  · exact .inr h0
  · refine .inl ⟨?_, by omega⟩
    rw [Int.tdiv_eq_ediv_of_nonneg (by omega)]
    omega
/-- The stick of an if's test, in memory. -/
theorem stkV_tst {w : World} {kk a b : Int} {s t : ByteArray} {inn : List Stk} {A1 : Option Addr} {c c1 : Nat} (hB : StkB kk a b s t inn.length c) (h : StksAt w (inn.take 1) A1) (hl : (inn.take 1).length ≤ c1 ∧ c1 ≤ maxLen) :
    StkV w (Stk.mk kk a b s t inn).tst [.int .i64 a, .int .i64 b, .int .i64 a, .string s, .string t, .slice A1 (inn.take 1).length c1] := by
  obtain ⟨wk, wa, wb, ws, wt, hc1, hc2⟩ := hB
  unfold Stk.tst StkV
  exact ⟨A1, c1, rfl, h, wa, wb, wa, ws, wt, hl.1, hl.2⟩
end Go.Proofs.YtgmnoemkdigafaaDoor
