/- The helper Test of the statements: kind 10. -/
import Derived.Test.YtgmnoemkdigafaaDoorScrStk
import Derived.Laws.Rows
import Derived.Deep.RegionLaw
import Derived.Deep.AppendLies
import Derived.Deep.DeepCutAuto
import Derived.Deep.CutBlock
import Derived.RegionTactic
import Derived.BigRegion
namespace Go.Proofs.YtgmnoemkdigafaaDoor
open Go.RowKit
set_option linter.unusedVariables false

set_option maxRecDepth 100000 in
set_option maxHeartbeats 8000000 in
theorem tst_10 (kk a b : Int) (s t : ByteArray) (inn : List Stk) (A : Option Addr) (c : Nat) (d : Int) (w : World) (hd0 : 0 ≤ d) (hd : d ≤ 1000) (hP10 : pickN kk 10 = 9) (hB : StkB kk a b s t inn.length c) (hA : StksAt w inn A) :
    Calls Tryd.prog 16 #[.agg #[.int .i64 kk, .int .i64 a, .int .i64 b, .string s, .string t, .slice A inn.length c], .int .i64 d] w fun e w' => ∃ tv, e = .returned (.agg (List.toArray tv)) ∧ (∀ W, New w.heap.size w' W → TestV W (leafT 10 (.mk kk a b s t inn)) tv) ∧ Below w.heap.size w w' := by
  obtain ⟨wk, wa, wb, ws, wt, hc1, hc2⟩ := hB
  unfold maxLen at ws wt hc2
  have hX := Bk.new w [.int .i64 kk, .int .i64 a, .int .i64 b, .string s, .string t, .slice A inn.length c] 39
  have hbx : Below w.heap.size w (w.alloc (.cells #[.int .i64 kk, .int .i64 a, .int .i64 b, .string s, .string t, .slice A inn.length c] 39)) := bal (Below.refl _ _) _
  have HX := Lib.hid hX
  have Hbx := Lib.hid hbx
  clear hX hbx
  have P10 : ∀ W : World, Calls Tryd.prog 13 #[.int .i64 kk, .int .i64 10] W fun e w' => e = .returned (.int .i64 ((9 : Nat) : Int)) ∧ W = w' := fun W => by
    have h := picked_calls kk 10 W wk (by decide) (by decide)
    rw [hP10] at h
    exact h
  have PA3 := fun W : World => picked_calls a 3 W wa (by decide) (by decide)
  have PA2 := fun W : World => picked_calls a 2 W wa (by decide) (by decide)
  have PB4 := fun W : World => picked_calls b 4 W wb (by decide) (by decide)
  have PB3 := fun W : World => picked_calls b 3 W wb (by decide) (by decide)
  have PB2 := fun W : World => picked_calls b 2 W wb (by decide) (by decide)
  have la3 := pickN_lt a 3 (by decide)
  have la2 := pickN_lt a 2 (by decide)
  have lb4 := pickN_lt b 4 (by decide)
  have lb3 := pickN_lt b 3 (by decide)
  have lb2 := pickN_lt b 2 (by decide)
  have SS := fun W : World => short_calls s (by omega) W
  have ST := fun W : World => short_calls t (by omega) W
  go_enter Tryd.func16, Tryd.ntmps16
  go_upto_region 1 with fail
  have hR := Bk.new (w.alloc (.cells #[.int .i64 kk, .int .i64 a, .int .i64 b, .string s, .string t, .slice A inn.length c] 39)) [.int .i64 0, .int .i64 0, .int .i64 0, .slice none 0 0, .slice none 0 0, .bool false, .int .i64 0, .slice none 0 0] 31
  have hX2 := HX.out.alloc (.cells #[.int .i64 0, .int .i64 0, .int .i64 0, .slice none 0 0, .slice none 0 0, .bool false, .int .i64 0, .slice none 0 0] 31)
  have hb2 := bal Hbx.out (.cells #[.int .i64 0, .int .i64 0, .int .i64 0, .slice none 0 0, .slice none 0 0, .bool false, .int .i64 0, .slice none 0 0] 31)
  have hs1 : (w.alloc (.cells #[.int .i64 kk, .int .i64 a, .int .i64 b, .string s, .string t, .slice A inn.length c] 39)).heap.size = w.heap.size + 1 := by simp
  rw [hs1] at hR
  have hs2 : ((w.alloc (.cells #[.int .i64 kk, .int .i64 a, .int .i64 b, .string s, .string t, .slice A inn.length c] 39)).alloc (.cells #[.int .i64 0, .int .i64 0, .int .i64 0, .slice none 0 0, .slice none 0 0, .bool false, .int .i64 0, .slice none 0 0] 31)).heap.size = w.heap.size + 2 := by simp
  have HR := Lib.hid hR
  have HX2 := Lib.hid hX2
  have Hb2 := Lib.hid hb2
  clear hR hX2 hb2 hs1 HX Hbx
  generalize (w.alloc (.cells #[.int .i64 kk, .int .i64 a, .int .i64 b, .string s, .string t, .slice A inn.length c] 39)).alloc (.cells #[.int .i64 0, .int .i64 0, .int .i64 0, .slice none 0 0, .slice none 0 0, .bool false, .int .i64 0, .slice none 0 0] 31) = w2 at *
  have x0 := HX2.out.cell 0 _ rfl
  go_upto_region 2 with (go_at_call 13; refine (P10 _).mono ?_; rintro e w' ⟨rfl, rfl⟩)
  clear P10 x0
  by_cases h3 : 3 ≤ d
  all_goals (
    have hT := Bk.new w2 [.int .i64 10, .int .i64 0, .int .i64 0, .slice none 0 0, .slice none 0 0, .bool false, .int .i64 0, .slice none 0 0] 31
    have hT2 := HR.out.alloc (.cells #[.int .i64 10, .int .i64 0, .int .i64 0, .slice none 0 0, .slice none 0 0, .bool false, .int .i64 0, .slice none 0 0] 31)
    have hX3 := HX2.out.alloc (.cells #[.int .i64 10, .int .i64 0, .int .i64 0, .slice none 0 0, .slice none 0 0, .bool false, .int .i64 0, .slice none 0 0] 31)
    have hb3 := bal Hb2.out (.cells #[.int .i64 10, .int .i64 0, .int .i64 0, .slice none 0 0, .slice none 0 0, .bool false, .int .i64 0, .slice none 0 0] 31)
    rw [hs2] at hT
    have HT := Lib.hid hT
    have HR3 := Lib.hid hT2
    have HX3 := Lib.hid hX3
    have Hb3 := Lib.hid hb3
    clear hT hT2 hX3 hb3 HR HX2 Hb2
    go_upto_region 5 with fail
    have hs3 : (w2.alloc (.cells #[.int .i64 10, .int .i64 0, .int .i64 0, .slice none 0 0, .slice none 0 0, .bool false, .int .i64 0, .slice none 0 0] 31)).heap.size = w.heap.size + 3 := by simp; omega
    generalize w2.alloc (.cells #[.int .i64 10, .int .i64 0, .int .i64 0, .slice none 0 0, .slice none 0 0, .bool false, .int .i64 0, .slice none 0 0] 31) = w3 at *
    have PB400 := fun W : World => picked_calls b 400 W wb (by decide) (by decide)
    by_cases hq : pickN a 2 = 1
    · have hq1 : ((pickN a 2 : Int) == 1) = true := by rw [hq]; rfl
      have x1 := HX3.out.cell 1 _ rfl
      have f5 := HT.out.frozen 5
      have y5 := HT.out.cell 5 _ rfl
      go_upto_region 36 with (go_at_call 13; (first | (with_reducible refine (PA3 _).mono ?_) | (with_reducible refine (PB4 _).mono ?_) | (with_reducible refine (PB3 _).mono ?_) | (with_reducible refine (PB2 _).mono ?_) | (with_reducible refine (PA2 _).mono ?_) | (with_reducible refine (PB400 _).mono ?_)); rintro e w' ⟨rfl, rfl⟩)
      have hs4 : (w3.setCell ⟨(w.heap.size + 2), 5, none⟩ (.bool true)).heap.size = w.heap.size + 3 := by first | (simp; done) | (simp; omega)
      have hT4 : Bk (w3.setCell ⟨(w.heap.size + 2), 5, none⟩ (.bool true)) (w.heap.size + 2) [.int .i64 10, .int .i64 0, .int .i64 0, .slice none 0 0, .slice none 0 0, .bool true, .int .i64 0, .slice none 0 0] 31 := (Bk.set HT.out 5 (.bool true))
      have hR4 : Bk (w3.setCell ⟨(w.heap.size + 2), 5, none⟩ (.bool true)) (w.heap.size + 1) [.int .i64 0, .int .i64 0, .int .i64 0, .slice none 0 0, .slice none 0 0, .bool false, .int .i64 0, .slice none 0 0] 31 := (Bk.other (c := (w.heap.size + 2)) HR3.out (by omega) 5 (.bool true))
      have hX4 : Bk (w3.setCell ⟨(w.heap.size + 2), 5, none⟩ (.bool true)) w.heap.size [.int .i64 kk, .int .i64 a, .int .i64 b, .string s, .string t, .slice A inn.length c] 39 := (Bk.other (c := (w.heap.size + 2)) HX3.out (by omega) 5 (.bool true))
      have hb4 : Below w.heap.size w (w3.setCell ⟨(w.heap.size + 2), 5, none⟩ (.bool true)) := (Below.setCell (p := ⟨(w.heap.size + 2), 5, none⟩) Hb3.out (Nat.le_add_right _ _) (.bool true))
      have HT4 := Lib.hid hT4
      have HR4 := Lib.hid hR4
      have HX4 := Lib.hid hX4
      have HB4 := Lib.hid hb4
      clear hT4 hR4 hX4 hb4 HT HR3 HX3 Hb3
      generalize w3.setCell ⟨(w.heap.size + 2), 5, none⟩ (.bool true) = w4 at *
      clear x1 f5 y5
      have x2 := HX4.out.cell 2 _ rfl
      have f6 := HT4.out.frozen 6
      have y6 := HT4.out.cell 6 _ rfl
      go_upto_region 37 with (go_at_call 13; (first | (with_reducible refine (PA3 _).mono ?_) | (with_reducible refine (PB4 _).mono ?_) | (with_reducible refine (PB3 _).mono ?_) | (with_reducible refine (PB2 _).mono ?_) | (with_reducible refine (PA2 _).mono ?_) | (with_reducible refine (PB400 _).mono ?_)); rintro e w' ⟨rfl, rfl⟩)
      have hs5 : (w4.setCell ⟨(w.heap.size + 2), 6, none⟩ (.int .i64 (pickN b 400 : Int))).heap.size = w.heap.size + 3 := by first | (simp; done) | (simp; omega)
      have hT5 : Bk (w4.setCell ⟨(w.heap.size + 2), 6, none⟩ (.int .i64 (pickN b 400 : Int))) (w.heap.size + 2) [.int .i64 10, .int .i64 0, .int .i64 0, .slice none 0 0, .slice none 0 0, .bool true, .int .i64 (pickN b 400 : Int), .slice none 0 0] 31 := (Bk.set HT4.out 6 (.int .i64 (pickN b 400 : Int)))
      have hR5 : Bk (w4.setCell ⟨(w.heap.size + 2), 6, none⟩ (.int .i64 (pickN b 400 : Int))) (w.heap.size + 1) [.int .i64 0, .int .i64 0, .int .i64 0, .slice none 0 0, .slice none 0 0, .bool false, .int .i64 0, .slice none 0 0] 31 := (Bk.other (c := (w.heap.size + 2)) HR4.out (by omega) 6 (.int .i64 (pickN b 400 : Int)))
      have hX5 : Bk (w4.setCell ⟨(w.heap.size + 2), 6, none⟩ (.int .i64 (pickN b 400 : Int))) w.heap.size [.int .i64 kk, .int .i64 a, .int .i64 b, .string s, .string t, .slice A inn.length c] 39 := (Bk.other (c := (w.heap.size + 2)) HX4.out (by omega) 6 (.int .i64 (pickN b 400 : Int)))
      have hb5 : Below w.heap.size w (w4.setCell ⟨(w.heap.size + 2), 6, none⟩ (.int .i64 (pickN b 400 : Int))) := (Below.setCell (p := ⟨(w.heap.size + 2), 6, none⟩) HB4.out (Nat.le_add_right _ _) (.int .i64 (pickN b 400 : Int)))
      have HT5 := Lib.hid hT5
      have HR5 := Lib.hid hR5
      have HX5 := Lib.hid hX5
      have HB5 := Lib.hid hb5
      clear hT5 hR5 hX5 hb5 HT4 HR4 HX4 HB4
      generalize w4.setCell ⟨(w.heap.size + 2), 6, none⟩ (.int .i64 (pickN b 400 : Int)) = w5 at *
      clear x2 f6 y6
      have x0 := HT5.out.cell 0 _ rfl
      have x1 := HT5.out.cell 1 _ rfl
      have x2 := HT5.out.cell 2 _ rfl
      have x3 := HT5.out.cell 3 _ rfl
      have x4 := HT5.out.cell 4 _ rfl
      have x5 := HT5.out.cell 5 _ rfl
      have x6 := HT5.out.cell 6 _ rfl
      have x7 := HT5.out.cell 7 _ rfl
      have f0 := HR5.out.frozen 0
      have y0 := HR5.out.cell 0 _ rfl
      have f1 := HR5.out.frozen 1
      have y1 := HR5.out.cell 1 _ rfl
      have f2 := HR5.out.frozen 2
      have y2 := HR5.out.cell 2 _ rfl
      have f3 := HR5.out.frozen 3
      have y3 := HR5.out.cell 3 _ rfl
      have f4 := HR5.out.frozen 4
      have y4 := HR5.out.cell 4 _ rfl
      have f5 := HR5.out.frozen 5
      have y5 := HR5.out.cell 5 _ rfl
      have f6 := HR5.out.frozen 6
      have y6 := HR5.out.cell 6 _ rfl
      have f7 := HR5.out.frozen 7
      have y7 := HR5.out.cell 7 _ rfl
      go_wp2_with fail
      have hbk := bk_eq (cs' := [.int .i64 10, .int .i64 0, .int .i64 0, .slice none 0 0, .slice none 0 0, .bool true, .int .i64 (pickN b 400 : Int), .slice none 0 0]) (Bk.set (Bk.set (Bk.set (Bk.set (Bk.set (Bk.set (Bk.set (Bk.set HR5.out 0 _) 1 _) 2 _) 3 _) 4 _) 5 _) 6 _) 7 _) rfl
      refine bodyPost_ret (results_cell_row rfl _ _ (w.heap.size + 1) 31 #[.int .i64 10, .int .i64 0, .int .i64 0, .slice none 0 0, .slice none 0 0, .bool true, .int .i64 (pickN b 400 : Int), .slice none 0 0] (0, 0) _ rfl hbk Tryd.underlying31 rfl (by kernel_rfl)) rfl ⟨[.int .i64 10, .int .i64 0, .int .i64 0, .slice none 0 0, .slice none 0 0, .bool true, .int .i64 (pickN b 400 : Int), .slice none 0 0], rfl, fun W hN => ?_, ?_⟩
      · show TestV W (.mk 10 0 0 [] [] (decide (pickN a 2 = 1)) (pickN b 400) []) _
        have hk : decide (pickN a 2 = 1) = true := by simp [hq]
        rw [hk]
        unfold TestV
        exact ⟨none, 0, none, 0, none, 0, rfl, .inl rfl, .inl rfl, by unfold TestsAt; trivial, by simp⟩
      · exact (Below.setCell (Below.setCell (Below.setCell (Below.setCell (Below.setCell (Below.setCell (Below.setCell (Below.setCell HB5.out (Nat.le_add_right _ _) _) (Nat.le_add_right _ _) _) (Nat.le_add_right _ _) _) (Nat.le_add_right _ _) _) (Nat.le_add_right _ _) _) (Nat.le_add_right _ _) _) (Nat.le_add_right _ _) _) (Nat.le_add_right _ _) _)
    · have hq1 : ((pickN a 2 : Int) == 1) = false := by rw [beq_eq_false_iff_ne]; omega
      have x1 := HX3.out.cell 1 _ rfl
      have f5 := HT.out.frozen 5
      have y5 := HT.out.cell 5 _ rfl
      go_upto_region 36 with (go_at_call 13; (first | (with_reducible refine (PA3 _).mono ?_) | (with_reducible refine (PB4 _).mono ?_) | (with_reducible refine (PB3 _).mono ?_) | (with_reducible refine (PB2 _).mono ?_) | (with_reducible refine (PA2 _).mono ?_) | (with_reducible refine (PB400 _).mono ?_)); rintro e w' ⟨rfl, rfl⟩)
      have hs4 : (w3.setCell ⟨(w.heap.size + 2), 5, none⟩ (.bool false)).heap.size = w.heap.size + 3 := by first | (simp; done) | (simp; omega)
      have hT4 : Bk (w3.setCell ⟨(w.heap.size + 2), 5, none⟩ (.bool false)) (w.heap.size + 2) [.int .i64 10, .int .i64 0, .int .i64 0, .slice none 0 0, .slice none 0 0, .bool false, .int .i64 0, .slice none 0 0] 31 := (Bk.set HT.out 5 (.bool false))
      have hR4 : Bk (w3.setCell ⟨(w.heap.size + 2), 5, none⟩ (.bool false)) (w.heap.size + 1) [.int .i64 0, .int .i64 0, .int .i64 0, .slice none 0 0, .slice none 0 0, .bool false, .int .i64 0, .slice none 0 0] 31 := (Bk.other (c := (w.heap.size + 2)) HR3.out (by omega) 5 (.bool false))
      have hX4 : Bk (w3.setCell ⟨(w.heap.size + 2), 5, none⟩ (.bool false)) w.heap.size [.int .i64 kk, .int .i64 a, .int .i64 b, .string s, .string t, .slice A inn.length c] 39 := (Bk.other (c := (w.heap.size + 2)) HX3.out (by omega) 5 (.bool false))
      have hb4 : Below w.heap.size w (w3.setCell ⟨(w.heap.size + 2), 5, none⟩ (.bool false)) := (Below.setCell (p := ⟨(w.heap.size + 2), 5, none⟩) Hb3.out (Nat.le_add_right _ _) (.bool false))
      have HT4 := Lib.hid hT4
      have HR4 := Lib.hid hR4
      have HX4 := Lib.hid hX4
      have HB4 := Lib.hid hb4
      clear hT4 hR4 hX4 hb4 HT HR3 HX3 Hb3
      generalize w3.setCell ⟨(w.heap.size + 2), 5, none⟩ (.bool false) = w4 at *
      clear x1 f5 y5
      have x2 := HX4.out.cell 2 _ rfl
      have f6 := HT4.out.frozen 6
      have y6 := HT4.out.cell 6 _ rfl
      go_upto_region 37 with (go_at_call 13; (first | (with_reducible refine (PA3 _).mono ?_) | (with_reducible refine (PB4 _).mono ?_) | (with_reducible refine (PB3 _).mono ?_) | (with_reducible refine (PB2 _).mono ?_) | (with_reducible refine (PA2 _).mono ?_) | (with_reducible refine (PB400 _).mono ?_)); rintro e w' ⟨rfl, rfl⟩)
      have hs5 : (w4.setCell ⟨(w.heap.size + 2), 6, none⟩ (.int .i64 (pickN b 400 : Int))).heap.size = w.heap.size + 3 := by first | (simp; done) | (simp; omega)
      have hT5 : Bk (w4.setCell ⟨(w.heap.size + 2), 6, none⟩ (.int .i64 (pickN b 400 : Int))) (w.heap.size + 2) [.int .i64 10, .int .i64 0, .int .i64 0, .slice none 0 0, .slice none 0 0, .bool false, .int .i64 (pickN b 400 : Int), .slice none 0 0] 31 := (Bk.set HT4.out 6 (.int .i64 (pickN b 400 : Int)))
      have hR5 : Bk (w4.setCell ⟨(w.heap.size + 2), 6, none⟩ (.int .i64 (pickN b 400 : Int))) (w.heap.size + 1) [.int .i64 0, .int .i64 0, .int .i64 0, .slice none 0 0, .slice none 0 0, .bool false, .int .i64 0, .slice none 0 0] 31 := (Bk.other (c := (w.heap.size + 2)) HR4.out (by omega) 6 (.int .i64 (pickN b 400 : Int)))
      have hX5 : Bk (w4.setCell ⟨(w.heap.size + 2), 6, none⟩ (.int .i64 (pickN b 400 : Int))) w.heap.size [.int .i64 kk, .int .i64 a, .int .i64 b, .string s, .string t, .slice A inn.length c] 39 := (Bk.other (c := (w.heap.size + 2)) HX4.out (by omega) 6 (.int .i64 (pickN b 400 : Int)))
      have hb5 : Below w.heap.size w (w4.setCell ⟨(w.heap.size + 2), 6, none⟩ (.int .i64 (pickN b 400 : Int))) := (Below.setCell (p := ⟨(w.heap.size + 2), 6, none⟩) HB4.out (Nat.le_add_right _ _) (.int .i64 (pickN b 400 : Int)))
      have HT5 := Lib.hid hT5
      have HR5 := Lib.hid hR5
      have HX5 := Lib.hid hX5
      have HB5 := Lib.hid hb5
      clear hT5 hR5 hX5 hb5 HT4 HR4 HX4 HB4
      generalize w4.setCell ⟨(w.heap.size + 2), 6, none⟩ (.int .i64 (pickN b 400 : Int)) = w5 at *
      clear x2 f6 y6
      have x0 := HT5.out.cell 0 _ rfl
      have x1 := HT5.out.cell 1 _ rfl
      have x2 := HT5.out.cell 2 _ rfl
      have x3 := HT5.out.cell 3 _ rfl
      have x4 := HT5.out.cell 4 _ rfl
      have x5 := HT5.out.cell 5 _ rfl
      have x6 := HT5.out.cell 6 _ rfl
      have x7 := HT5.out.cell 7 _ rfl
      have f0 := HR5.out.frozen 0
      have y0 := HR5.out.cell 0 _ rfl
      have f1 := HR5.out.frozen 1
      have y1 := HR5.out.cell 1 _ rfl
      have f2 := HR5.out.frozen 2
      have y2 := HR5.out.cell 2 _ rfl
      have f3 := HR5.out.frozen 3
      have y3 := HR5.out.cell 3 _ rfl
      have f4 := HR5.out.frozen 4
      have y4 := HR5.out.cell 4 _ rfl
      have f5 := HR5.out.frozen 5
      have y5 := HR5.out.cell 5 _ rfl
      have f6 := HR5.out.frozen 6
      have y6 := HR5.out.cell 6 _ rfl
      have f7 := HR5.out.frozen 7
      have y7 := HR5.out.cell 7 _ rfl
      go_wp2_with fail
      have hbk := bk_eq (cs' := [.int .i64 10, .int .i64 0, .int .i64 0, .slice none 0 0, .slice none 0 0, .bool false, .int .i64 (pickN b 400 : Int), .slice none 0 0]) (Bk.set (Bk.set (Bk.set (Bk.set (Bk.set (Bk.set (Bk.set (Bk.set HR5.out 0 _) 1 _) 2 _) 3 _) 4 _) 5 _) 6 _) 7 _) rfl
      refine bodyPost_ret (results_cell_row rfl _ _ (w.heap.size + 1) 31 #[.int .i64 10, .int .i64 0, .int .i64 0, .slice none 0 0, .slice none 0 0, .bool false, .int .i64 (pickN b 400 : Int), .slice none 0 0] (0, 0) _ rfl hbk Tryd.underlying31 rfl (by kernel_rfl)) rfl ⟨[.int .i64 10, .int .i64 0, .int .i64 0, .slice none 0 0, .slice none 0 0, .bool false, .int .i64 (pickN b 400 : Int), .slice none 0 0], rfl, fun W hN => ?_, ?_⟩
      · show TestV W (.mk 10 0 0 [] [] (decide (pickN a 2 = 1)) (pickN b 400) []) _
        have hk : decide (pickN a 2 = 1) = false := by simp [hq]
        rw [hk]
        unfold TestV
        exact ⟨none, 0, none, 0, none, 0, rfl, .inl rfl, .inl rfl, by unfold TestsAt; trivial, by simp⟩
      · exact (Below.setCell (Below.setCell (Below.setCell (Below.setCell (Below.setCell (Below.setCell (Below.setCell (Below.setCell HB5.out (Nat.le_add_right _ _) _) (Nat.le_add_right _ _) _) (Nat.le_add_right _ _) _) (Nat.le_add_right _ _) _) (Nat.le_add_right _ _) _) (Nat.le_add_right _ _) _) (Nat.le_add_right _ _) _) (Nat.le_add_right _ _) _))
end Go.Proofs.YtgmnoemkdigafaaDoor
