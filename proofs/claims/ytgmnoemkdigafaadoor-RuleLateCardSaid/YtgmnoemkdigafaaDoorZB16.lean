/- The helper Test of the statements: kind 8. -/
import Derived.Test.YtgmnoemkdigafaaDoorZB1
import Derived.Laws.Rows
import Derived.Deep.RegionLaw
import Derived.Deep.AppendLies
import Derived.Deep.DeepCutAuto
import Derived.Deep.CutBlock
import Derived.RegionTactic
import Derived.BigRegion
namespace Go.Proofs.YtgmnoemkdigafaaDoor
open Go.RowKit
set_option linter.unusedVariables false

set_option maxRecDepth 100000 in
set_option maxHeartbeats 8000000 in
theorem tst_8 (kk a b : Int) (s t : ByteArray) (inn : List Stk) (A : Option Addr) (c : Nat) (d : Int) (w : World) (hd0 : 0 ≤ d) (hd : d ≤ 1000) (hP10 : pickN kk 10 = 7) (hB : StkB kk a b s t inn.length c) (hA : StksAt w inn A) :
    Calls Tryd.prog 16 #[.agg #[.int .i64 kk, .int .i64 a, .int .i64 b, .string s, .string t, .slice A inn.length c], .int .i64 d] w fun e w' => ∃ tv, e = .returned (.agg (List.toArray tv)) ∧ (∀ W, New w.heap.size w' W → TestV W (leafT 8 (.mk kk a b s t inn)) tv) ∧ Below w.heap.size w w' := by
  obtain ⟨wk, wa, wb, ws, wt, hc1, hc2⟩ := hB
  unfold maxLen at ws wt hc2
  have hX := Bk.new w [.int .i64 kk, .int .i64 a, .int .i64 b, .string s, .string t, .slice A inn.length c] 39
  have hbx : Below w.heap.size w (w.alloc (.cells #[.int .i64 kk, .int .i64 a, .int .i64 b, .string s, .string t, .slice A inn.length c] 39)) := bal (Below.refl _ _) _
  have HX := Lib.hid hX
  have Hbx := Lib.hid hbx
  clear hX hbx
  have P10 : ∀ W : World, Calls Tryd.prog 13 #[.int .i64 kk, .int .i64 10] W fun e w' => e = .returned (.int .i64 ((7 : Nat) : Int)) ∧ W = w' := fun W => by
    have h := picked_calls kk 10 W wk (by decide) (by decide)
    rw [hP10] at h
    exact h
  have PA3 := fun W : World => picked_calls a 3 W wa (by decide) (by decide)
  have PA2 := fun W : World => picked_calls a 2 W wa (by decide) (by decide)
  have PB4 := fun W : World => picked_calls b 4 W wb (by decide) (by decide)
  have PB3 := fun W : World => picked_calls b 3 W wb (by decide) (by decide)
  have PB2 := fun W : World => picked_calls b 2 W wb (by decide) (by decide)
  have la3 := pickN_lt a 3 (by decide)
  have la2 := pickN_lt a 2 (by decide)
  have lb4 := pickN_lt b 4 (by decide)
  have lb3 := pickN_lt b 3 (by decide)
  have lb2 := pickN_lt b 2 (by decide)
  have SS := fun W : World => short_calls s (by omega) W
  have ST := fun W : World => short_calls t (by omega) W
  go_enter Tryd.func16, Tryd.ntmps16
  go_upto_region 1 with fail
  have hR := Bk.new (w.alloc (.cells #[.int .i64 kk, .int .i64 a, .int .i64 b, .string s, .string t, .slice A inn.length c] 39)) [.int .i64 0, .int .i64 0, .int .i64 0, .slice none 0 0, .slice none 0 0, .bool false, .int .i64 0, .slice none 0 0] 31
  have hX2 := HX.out.alloc (.cells #[.int .i64 0, .int .i64 0, .int .i64 0, .slice none 0 0, .slice none 0 0, .bool false, .int .i64 0, .slice none 0 0] 31)
  have hb2 := bal Hbx.out (.cells #[.int .i64 0, .int .i64 0, .int .i64 0, .slice none 0 0, .slice none 0 0, .bool false, .int .i64 0, .slice none 0 0] 31)
  have hs1 : (w.alloc (.cells #[.int .i64 kk, .int .i64 a, .int .i64 b, .string s, .string t, .slice A inn.length c] 39)).heap.size = w.heap.size + 1 := by simp
  rw [hs1] at hR
  have hs2 : ((w.alloc (.cells #[.int .i64 kk, .int .i64 a, .int .i64 b, .string s, .string t, .slice A inn.length c] 39)).alloc (.cells #[.int .i64 0, .int .i64 0, .int .i64 0, .slice none 0 0, .slice none 0 0, .bool false, .int .i64 0, .slice none 0 0] 31)).heap.size = w.heap.size + 2 := by simp
  have HR := Lib.hid hR
  have HX2 := Lib.hid hX2
  have Hb2 := Lib.hid hb2
  clear hR hX2 hb2 hs1 HX Hbx
  generalize (w.alloc (.cells #[.int .i64 kk, .int .i64 a, .int .i64 b, .string s, .string t, .slice A inn.length c] 39)).alloc (.cells #[.int .i64 0, .int .i64 0, .int .i64 0, .slice none 0 0, .slice none 0 0, .bool false, .int .i64 0, .slice none 0 0] 31) = w2 at *
  have x0 := HX2.out.cell 0 _ rfl
  go_upto_region 2 with (go_at_call 13; refine (P10 _).mono ?_; rintro e w' ⟨rfl, rfl⟩)
  clear P10 x0
  by_cases h3 : 3 ≤ d
  all_goals (
    have hT := Bk.new w2 [.int .i64 8, .int .i64 0, .int .i64 0, .slice none 0 0, .slice none 0 0, .bool false, .int .i64 0, .slice none 0 0] 31
    have hT2 := HR.out.alloc (.cells #[.int .i64 8, .int .i64 0, .int .i64 0, .slice none 0 0, .slice none 0 0, .bool false, .int .i64 0, .slice none 0 0] 31)
    have hX3 := HX2.out.alloc (.cells #[.int .i64 8, .int .i64 0, .int .i64 0, .slice none 0 0, .slice none 0 0, .bool false, .int .i64 0, .slice none 0 0] 31)
    have hb3 := bal Hb2.out (.cells #[.int .i64 8, .int .i64 0, .int .i64 0, .slice none 0 0, .slice none 0 0, .bool false, .int .i64 0, .slice none 0 0] 31)
    rw [hs2] at hT
    have HT := Lib.hid hT
    have HR3 := Lib.hid hT2
    have HX3 := Lib.hid hX3
    have Hb3 := Lib.hid hb3
    clear hT hT2 hX3 hb3 HR HX2 Hb2
    go_upto_region 5 with fail
    have hs3 : (w2.alloc (.cells #[.int .i64 8, .int .i64 0, .int .i64 0, .slice none 0 0, .slice none 0 0, .bool false, .int .i64 0, .slice none 0 0] 31)).heap.size = w.heap.size + 3 := by simp; omega
    generalize w2.alloc (.cells #[.int .i64 8, .int .i64 0, .int .i64 0, .slice none 0 0, .slice none 0 0, .bool false, .int .i64 0, .slice none 0 0] 31) = w3 at *
    have x1 := HX3.out.cell 1 _ rfl
    have f1 := HT.out.frozen 1
    have y1 := HT.out.cell 1 _ rfl
    go_upto_region 24 with (go_at_call 13; (first | (with_reducible refine (PA3 _).mono ?_) | (with_reducible refine (PB4 _).mono ?_) | (with_reducible refine (PB3 _).mono ?_) | (with_reducible refine (PB2 _).mono ?_) | (with_reducible refine (PA2 _).mono ?_)); rintro e w' ⟨rfl, rfl⟩)
    have hs4 : (w3.setCell ⟨(w.heap.size + 2), 1, none⟩ (.int .i64 (1 + (pickN a 3 : Int)))).heap.size = w.heap.size + 3 := by first | (simp; done) | (simp; omega)
    have hT4 : Bk (w3.setCell ⟨(w.heap.size + 2), 1, none⟩ (.int .i64 (1 + (pickN a 3 : Int)))) (w.heap.size + 2) [.int .i64 8, .int .i64 (1 + (pickN a 3 : Int)), .int .i64 0, .slice none 0 0, .slice none 0 0, .bool false, .int .i64 0, .slice none 0 0] 31 := (Bk.set HT.out 1 (.int .i64 (1 + (pickN a 3 : Int))))
    have hR4 : Bk (w3.setCell ⟨(w.heap.size + 2), 1, none⟩ (.int .i64 (1 + (pickN a 3 : Int)))) (w.heap.size + 1) [.int .i64 0, .int .i64 0, .int .i64 0, .slice none 0 0, .slice none 0 0, .bool false, .int .i64 0, .slice none 0 0] 31 := (Bk.other (c := (w.heap.size + 2)) HR3.out (by omega) 1 (.int .i64 (1 + (pickN a 3 : Int))))
    have hX4 : Bk (w3.setCell ⟨(w.heap.size + 2), 1, none⟩ (.int .i64 (1 + (pickN a 3 : Int)))) w.heap.size [.int .i64 kk, .int .i64 a, .int .i64 b, .string s, .string t, .slice A inn.length c] 39 := (Bk.other (c := (w.heap.size + 2)) HX3.out (by omega) 1 (.int .i64 (1 + (pickN a 3 : Int))))
    have hb4 : Below w.heap.size w (w3.setCell ⟨(w.heap.size + 2), 1, none⟩ (.int .i64 (1 + (pickN a 3 : Int)))) := (Below.setCell (p := ⟨(w.heap.size + 2), 1, none⟩) Hb3.out (Nat.le_add_right _ _) (.int .i64 (1 + (pickN a 3 : Int))))
    have HT4 := Lib.hid hT4
    have HR4 := Lib.hid hR4
    have HX4 := Lib.hid hX4
    have HB4 := Lib.hid hb4
    clear hT4 hR4 hX4 hb4 HT HR3 HX3 Hb3
    generalize w3.setCell ⟨(w.heap.size + 2), 1, none⟩ (.int .i64 (1 + (pickN a 3 : Int))) = w4 at *
    clear x1 f1 y1
    have x2 := (Bk.alloc HX4.out (.cells #[.string ⟨#[115, 117, 98, 106, 101, 99, 116]⟩, .string ⟨#[116, 111]⟩, .string ⟨#[102, 114, 111, 109]⟩, .string ⟨#[120]⟩] 9)).cell 2 _ rfl
    have z0 : ([.string ⟨#[115, 117, 98, 106, 101, 99, 116]⟩, .string ⟨#[116, 111]⟩, .string ⟨#[102, 114, 111, 109]⟩, .string ⟨#[120]⟩] : List Value)[pickN b 4]? = some (.string (hdrN b)) := getD_str [[115, 117, 98, 106, 101, 99, 116], [116, 111], [102, 114, 111, 109], [120]] (pickN b 4) (by simp only [List.length_cons, List.length_nil]; omega)
    have f3 := (Bk.alloc (Bk.alloc HT4.out (.cells #[.string ⟨#[115, 117, 98, 106, 101, 99, 116]⟩, .string ⟨#[116, 111]⟩, .string ⟨#[102, 114, 111, 109]⟩, .string ⟨#[120]⟩] 9)) (.cells #[.string (hdrN b)] 9)).frozen 3
    have y3 := (Bk.alloc (Bk.alloc HT4.out (.cells #[.string ⟨#[115, 117, 98, 106, 101, 99, 116]⟩, .string ⟨#[116, 111]⟩, .string ⟨#[102, 114, 111, 109]⟩, .string ⟨#[120]⟩] 9)) (.cells #[.string (hdrN b)] 9)).cell 3 _ rfl
    go_upto_region 25 with (go_at_call 13; (first | (with_reducible refine (PA3 _).mono ?_) | (with_reducible refine (PB4 _).mono ?_) | (with_reducible refine (PB3 _).mono ?_) | (with_reducible refine (PB2 _).mono ?_) | (with_reducible refine (PA2 _).mono ?_)); rintro e w' ⟨rfl, rfl⟩)
    have hs5 : (((w4.setCell ⟨(w.heap.size + 2), 3, none⟩ (.slice (some ⟨w.heap.size + 4, 0, none⟩) 1 1)).alloc (.cells #[.string ⟨#[115, 117, 98, 106, 101, 99, 116]⟩, .string ⟨#[116, 111]⟩, .string ⟨#[102, 114, 111, 109]⟩, .string ⟨#[120]⟩] 9)).alloc (.cells #[.string (hdrN b)] 9)).heap.size = w.heap.size + 5 := by first | (simp; done) | (simp; omega)
    have hT5 : Bk (((w4.setCell ⟨(w.heap.size + 2), 3, none⟩ (.slice (some ⟨w.heap.size + 4, 0, none⟩) 1 1)).alloc (.cells #[.string ⟨#[115, 117, 98, 106, 101, 99, 116]⟩, .string ⟨#[116, 111]⟩, .string ⟨#[102, 114, 111, 109]⟩, .string ⟨#[120]⟩] 9)).alloc (.cells #[.string (hdrN b)] 9)) (w.heap.size + 2) [.int .i64 8, .int .i64 (1 + (pickN a 3 : Int)), .int .i64 0, .slice (some ⟨w.heap.size + 4, 0, none⟩) 1 1, .slice none 0 0, .bool false, .int .i64 0, .slice none 0 0] 31 := (Bk.alloc (Bk.alloc (Bk.set HT4.out 3 (.slice (some ⟨w.heap.size + 4, 0, none⟩) 1 1)) (.cells #[.string ⟨#[115, 117, 98, 106, 101, 99, 116]⟩, .string ⟨#[116, 111]⟩, .string ⟨#[102, 114, 111, 109]⟩, .string ⟨#[120]⟩] 9)) (.cells #[.string (hdrN b)] 9))
    have hR5 : Bk (((w4.setCell ⟨(w.heap.size + 2), 3, none⟩ (.slice (some ⟨w.heap.size + 4, 0, none⟩) 1 1)).alloc (.cells #[.string ⟨#[115, 117, 98, 106, 101, 99, 116]⟩, .string ⟨#[116, 111]⟩, .string ⟨#[102, 114, 111, 109]⟩, .string ⟨#[120]⟩] 9)).alloc (.cells #[.string (hdrN b)] 9)) (w.heap.size + 1) [.int .i64 0, .int .i64 0, .int .i64 0, .slice none 0 0, .slice none 0 0, .bool false, .int .i64 0, .slice none 0 0] 31 := (Bk.alloc (Bk.alloc (Bk.other (c := (w.heap.size + 2)) HR4.out (by omega) 3 (.slice (some ⟨w.heap.size + 4, 0, none⟩) 1 1)) (.cells #[.string ⟨#[115, 117, 98, 106, 101, 99, 116]⟩, .string ⟨#[116, 111]⟩, .string ⟨#[102, 114, 111, 109]⟩, .string ⟨#[120]⟩] 9)) (.cells #[.string (hdrN b)] 9))
    have hX5 : Bk (((w4.setCell ⟨(w.heap.size + 2), 3, none⟩ (.slice (some ⟨w.heap.size + 4, 0, none⟩) 1 1)).alloc (.cells #[.string ⟨#[115, 117, 98, 106, 101, 99, 116]⟩, .string ⟨#[116, 111]⟩, .string ⟨#[102, 114, 111, 109]⟩, .string ⟨#[120]⟩] 9)).alloc (.cells #[.string (hdrN b)] 9)) w.heap.size [.int .i64 kk, .int .i64 a, .int .i64 b, .string s, .string t, .slice A inn.length c] 39 := (Bk.alloc (Bk.alloc (Bk.other (c := (w.heap.size + 2)) HX4.out (by omega) 3 (.slice (some ⟨w.heap.size + 4, 0, none⟩) 1 1)) (.cells #[.string ⟨#[115, 117, 98, 106, 101, 99, 116]⟩, .string ⟨#[116, 111]⟩, .string ⟨#[102, 114, 111, 109]⟩, .string ⟨#[120]⟩] 9)) (.cells #[.string (hdrN b)] 9))
    have hF5 : Bk (((w4.setCell ⟨(w.heap.size + 2), 3, none⟩ (.slice (some ⟨w.heap.size + 4, 0, none⟩) 1 1)).alloc (.cells #[.string ⟨#[115, 117, 98, 106, 101, 99, 116]⟩, .string ⟨#[116, 111]⟩, .string ⟨#[102, 114, 111, 109]⟩, .string ⟨#[120]⟩] 9)).alloc (.cells #[.string (hdrN b)] 9)) (w.heap.size + 3) [.string ⟨#[115, 117, 98, 106, 101, 99, 116]⟩, .string ⟨#[116, 111]⟩, .string ⟨#[102, 114, 111, 109]⟩, .string ⟨#[120]⟩] 9 := (Bk.alloc (bk_newN ((w4.setCell ⟨(w.heap.size + 2), 3, none⟩ (.slice (some ⟨w.heap.size + 4, 0, none⟩) 1 1))) (w.heap.size + 3) [.string ⟨#[115, 117, 98, 106, 101, 99, 116]⟩, .string ⟨#[116, 111]⟩, .string ⟨#[102, 114, 111, 109]⟩, .string ⟨#[120]⟩] 9 (by first | omega | (simp; done) | (simp; omega))) (.cells #[.string (hdrN b)] 9))
    have hN5 : Bk (((w4.setCell ⟨(w.heap.size + 2), 3, none⟩ (.slice (some ⟨w.heap.size + 4, 0, none⟩) 1 1)).alloc (.cells #[.string ⟨#[115, 117, 98, 106, 101, 99, 116]⟩, .string ⟨#[116, 111]⟩, .string ⟨#[102, 114, 111, 109]⟩, .string ⟨#[120]⟩] 9)).alloc (.cells #[.string (hdrN b)] 9)) (w.heap.size + 4) [.string (hdrN b)] 9 := (bk_newN (((w4.setCell ⟨(w.heap.size + 2), 3, none⟩ (.slice (some ⟨w.heap.size + 4, 0, none⟩) 1 1)).alloc (.cells #[.string ⟨#[115, 117, 98, 106, 101, 99, 116]⟩, .string ⟨#[116, 111]⟩, .string ⟨#[102, 114, 111, 109]⟩, .string ⟨#[120]⟩] 9))) (w.heap.size + 4) [.string (hdrN b)] 9 (by first | omega | (simp; done) | (simp; omega)))
    have hb5 : Below w.heap.size w (((w4.setCell ⟨(w.heap.size + 2), 3, none⟩ (.slice (some ⟨w.heap.size + 4, 0, none⟩) 1 1)).alloc (.cells #[.string ⟨#[115, 117, 98, 106, 101, 99, 116]⟩, .string ⟨#[116, 111]⟩, .string ⟨#[102, 114, 111, 109]⟩, .string ⟨#[120]⟩] 9)).alloc (.cells #[.string (hdrN b)] 9)) := (bal (bal (Below.setCell (p := ⟨(w.heap.size + 2), 3, none⟩) HB4.out (Nat.le_add_right _ _) (.slice (some ⟨w.heap.size + 4, 0, none⟩) 1 1)) _) _)
    have HT5 := Lib.hid hT5
    have HR5 := Lib.hid hR5
    have HX5 := Lib.hid hX5
    have HF5 := Lib.hid hF5
    have HN5 := Lib.hid hN5
    have HB5 := Lib.hid hb5
    clear hT5 hR5 hX5 hF5 hN5 hb5 HT4 HR4 HX4 HB4
    generalize ((w4.setCell ⟨(w.heap.size + 2), 3, none⟩ (.slice (some ⟨w.heap.size + 4, 0, none⟩) 1 1)).alloc (.cells #[.string ⟨#[115, 117, 98, 106, 101, 99, 116]⟩, .string ⟨#[116, 111]⟩, .string ⟨#[102, 114, 111, 109]⟩, .string ⟨#[120]⟩] 9)).alloc (.cells #[.string (hdrN b)] 9) = w5 at *
    clear x2 f3 y3 z0
    have x2 := HX5.out.cell 2 _ rfl
    have f2 := HT5.out.frozen 2
    have y2 := HT5.out.cell 2 _ rfl
    go_upto_region 27 with (go_at_call 13; (first | (with_reducible refine (PA3 _).mono ?_) | (with_reducible refine (PB4 _).mono ?_) | (with_reducible refine (PB3 _).mono ?_) | (with_reducible refine (PB2 _).mono ?_) | (with_reducible refine (PA2 _).mono ?_)); rintro e w' ⟨rfl, rfl⟩)
    have hs6 : (w5.setCell ⟨(w.heap.size + 2), 2, none⟩ (.int .i64 (1 + (pickN b 3 : Int)))).heap.size = w.heap.size + 5 := by first | (simp; done) | (simp; omega)
    have hT6 : Bk (w5.setCell ⟨(w.heap.size + 2), 2, none⟩ (.int .i64 (1 + (pickN b 3 : Int)))) (w.heap.size + 2) [.int .i64 8, .int .i64 (1 + (pickN a 3 : Int)), .int .i64 (1 + (pickN b 3 : Int)), .slice (some ⟨w.heap.size + 4, 0, none⟩) 1 1, .slice none 0 0, .bool false, .int .i64 0, .slice none 0 0] 31 := (Bk.set HT5.out 2 (.int .i64 (1 + (pickN b 3 : Int))))
    have hR6 : Bk (w5.setCell ⟨(w.heap.size + 2), 2, none⟩ (.int .i64 (1 + (pickN b 3 : Int)))) (w.heap.size + 1) [.int .i64 0, .int .i64 0, .int .i64 0, .slice none 0 0, .slice none 0 0, .bool false, .int .i64 0, .slice none 0 0] 31 := (Bk.other (c := (w.heap.size + 2)) HR5.out (by omega) 2 (.int .i64 (1 + (pickN b 3 : Int))))
    have hX6 : Bk (w5.setCell ⟨(w.heap.size + 2), 2, none⟩ (.int .i64 (1 + (pickN b 3 : Int)))) w.heap.size [.int .i64 kk, .int .i64 a, .int .i64 b, .string s, .string t, .slice A inn.length c] 39 := (Bk.other (c := (w.heap.size + 2)) HX5.out (by omega) 2 (.int .i64 (1 + (pickN b 3 : Int))))
    have hF6 : Bk (w5.setCell ⟨(w.heap.size + 2), 2, none⟩ (.int .i64 (1 + (pickN b 3 : Int)))) (w.heap.size + 3) [.string ⟨#[115, 117, 98, 106, 101, 99, 116]⟩, .string ⟨#[116, 111]⟩, .string ⟨#[102, 114, 111, 109]⟩, .string ⟨#[120]⟩] 9 := (Bk.other (c := (w.heap.size + 2)) HF5.out (by omega) 2 (.int .i64 (1 + (pickN b 3 : Int))))
    have hN6 : Bk (w5.setCell ⟨(w.heap.size + 2), 2, none⟩ (.int .i64 (1 + (pickN b 3 : Int)))) (w.heap.size + 4) [.string (hdrN b)] 9 := (Bk.other (c := (w.heap.size + 2)) HN5.out (by omega) 2 (.int .i64 (1 + (pickN b 3 : Int))))
    have hb6 : Below w.heap.size w (w5.setCell ⟨(w.heap.size + 2), 2, none⟩ (.int .i64 (1 + (pickN b 3 : Int)))) := (Below.setCell (p := ⟨(w.heap.size + 2), 2, none⟩) HB5.out (Nat.le_add_right _ _) (.int .i64 (1 + (pickN b 3 : Int))))
    have HT6 := Lib.hid hT6
    have HR6 := Lib.hid hR6
    have HX6 := Lib.hid hX6
    have HF6 := Lib.hid hF6
    have HN6 := Lib.hid hN6
    have HB6 := Lib.hid hb6
    clear hT6 hR6 hX6 hF6 hN6 hb6 HT5 HR5 HX5 HF5 HN5 HB5
    generalize w5.setCell ⟨(w.heap.size + 2), 2, none⟩ (.int .i64 (1 + (pickN b 3 : Int))) = w6 at *
    clear x2 f2 y2
    have x2 := (Bk.alloc HX6.out (.cells #[.string ⟨#[102, 114, 111, 109]⟩, .string ⟨#[116, 111]⟩] 9)).cell 2 _ rfl
    have z0 : ([.string ⟨#[102, 114, 111, 109]⟩, .string ⟨#[116, 111]⟩] : List Value)[pickN b 2]? = some (.string (envN b)) := getD_str [[102, 114, 111, 109], [116, 111]] (pickN b 2) (by simp only [List.length_cons, List.length_nil]; omega)
    have f3 := (Bk.alloc (Bk.alloc HT6.out (.cells #[.string ⟨#[102, 114, 111, 109]⟩, .string ⟨#[116, 111]⟩] 9)) (.cells #[.string (envN b)] 9)).frozen 3
    have y3 := (Bk.alloc (Bk.alloc HT6.out (.cells #[.string ⟨#[102, 114, 111, 109]⟩, .string ⟨#[116, 111]⟩] 9)) (.cells #[.string (envN b)] 9)).cell 3 _ rfl
    go_upto_region 29 with (go_at_call 13; (first | (with_reducible refine (PA3 _).mono ?_) | (with_reducible refine (PB4 _).mono ?_) | (with_reducible refine (PB3 _).mono ?_) | (with_reducible refine (PB2 _).mono ?_) | (with_reducible refine (PA2 _).mono ?_)); rintro e w' ⟨rfl, rfl⟩)
    have hs7 : (((w6.setCell ⟨(w.heap.size + 2), 3, none⟩ (.slice (some ⟨w.heap.size + 6, 0, none⟩) 1 1)).alloc (.cells #[.string ⟨#[102, 114, 111, 109]⟩, .string ⟨#[116, 111]⟩] 9)).alloc (.cells #[.string (envN b)] 9)).heap.size = w.heap.size + 7 := by first | (simp; done) | (simp; omega)
    have hT7 : Bk (((w6.setCell ⟨(w.heap.size + 2), 3, none⟩ (.slice (some ⟨w.heap.size + 6, 0, none⟩) 1 1)).alloc (.cells #[.string ⟨#[102, 114, 111, 109]⟩, .string ⟨#[116, 111]⟩] 9)).alloc (.cells #[.string (envN b)] 9)) (w.heap.size + 2) [.int .i64 8, .int .i64 (1 + (pickN a 3 : Int)), .int .i64 (1 + (pickN b 3 : Int)), .slice (some ⟨w.heap.size + 6, 0, none⟩) 1 1, .slice none 0 0, .bool false, .int .i64 0, .slice none 0 0] 31 := (Bk.alloc (Bk.alloc (Bk.set HT6.out 3 (.slice (some ⟨w.heap.size + 6, 0, none⟩) 1 1)) (.cells #[.string ⟨#[102, 114, 111, 109]⟩, .string ⟨#[116, 111]⟩] 9)) (.cells #[.string (envN b)] 9))
    have hR7 : Bk (((w6.setCell ⟨(w.heap.size + 2), 3, none⟩ (.slice (some ⟨w.heap.size + 6, 0, none⟩) 1 1)).alloc (.cells #[.string ⟨#[102, 114, 111, 109]⟩, .string ⟨#[116, 111]⟩] 9)).alloc (.cells #[.string (envN b)] 9)) (w.heap.size + 1) [.int .i64 0, .int .i64 0, .int .i64 0, .slice none 0 0, .slice none 0 0, .bool false, .int .i64 0, .slice none 0 0] 31 := (Bk.alloc (Bk.alloc (Bk.other (c := (w.heap.size + 2)) HR6.out (by omega) 3 (.slice (some ⟨w.heap.size + 6, 0, none⟩) 1 1)) (.cells #[.string ⟨#[102, 114, 111, 109]⟩, .string ⟨#[116, 111]⟩] 9)) (.cells #[.string (envN b)] 9))
    have hX7 : Bk (((w6.setCell ⟨(w.heap.size + 2), 3, none⟩ (.slice (some ⟨w.heap.size + 6, 0, none⟩) 1 1)).alloc (.cells #[.string ⟨#[102, 114, 111, 109]⟩, .string ⟨#[116, 111]⟩] 9)).alloc (.cells #[.string (envN b)] 9)) w.heap.size [.int .i64 kk, .int .i64 a, .int .i64 b, .string s, .string t, .slice A inn.length c] 39 := (Bk.alloc (Bk.alloc (Bk.other (c := (w.heap.size + 2)) HX6.out (by omega) 3 (.slice (some ⟨w.heap.size + 6, 0, none⟩) 1 1)) (.cells #[.string ⟨#[102, 114, 111, 109]⟩, .string ⟨#[116, 111]⟩] 9)) (.cells #[.string (envN b)] 9))
    have hF7 : Bk (((w6.setCell ⟨(w.heap.size + 2), 3, none⟩ (.slice (some ⟨w.heap.size + 6, 0, none⟩) 1 1)).alloc (.cells #[.string ⟨#[102, 114, 111, 109]⟩, .string ⟨#[116, 111]⟩] 9)).alloc (.cells #[.string (envN b)] 9)) (w.heap.size + 3) [.string ⟨#[115, 117, 98, 106, 101, 99, 116]⟩, .string ⟨#[116, 111]⟩, .string ⟨#[102, 114, 111, 109]⟩, .string ⟨#[120]⟩] 9 := (Bk.alloc (Bk.alloc (Bk.other (c := (w.heap.size + 2)) HF6.out (by omega) 3 (.slice (some ⟨w.heap.size + 6, 0, none⟩) 1 1)) (.cells #[.string ⟨#[102, 114, 111, 109]⟩, .string ⟨#[116, 111]⟩] 9)) (.cells #[.string (envN b)] 9))
    have hN7 : Bk (((w6.setCell ⟨(w.heap.size + 2), 3, none⟩ (.slice (some ⟨w.heap.size + 6, 0, none⟩) 1 1)).alloc (.cells #[.string ⟨#[102, 114, 111, 109]⟩, .string ⟨#[116, 111]⟩] 9)).alloc (.cells #[.string (envN b)] 9)) (w.heap.size + 4) [.string (hdrN b)] 9 := (Bk.alloc (Bk.alloc (Bk.other (c := (w.heap.size + 2)) HN6.out (by omega) 3 (.slice (some ⟨w.heap.size + 6, 0, none⟩) 1 1)) (.cells #[.string ⟨#[102, 114, 111, 109]⟩, .string ⟨#[116, 111]⟩] 9)) (.cells #[.string (envN b)] 9))
    have hE7 : Bk (((w6.setCell ⟨(w.heap.size + 2), 3, none⟩ (.slice (some ⟨w.heap.size + 6, 0, none⟩) 1 1)).alloc (.cells #[.string ⟨#[102, 114, 111, 109]⟩, .string ⟨#[116, 111]⟩] 9)).alloc (.cells #[.string (envN b)] 9)) (w.heap.size + 5) [.string ⟨#[102, 114, 111, 109]⟩, .string ⟨#[116, 111]⟩] 9 := (Bk.alloc (bk_newN ((w6.setCell ⟨(w.heap.size + 2), 3, none⟩ (.slice (some ⟨w.heap.size + 6, 0, none⟩) 1 1))) (w.heap.size + 5) [.string ⟨#[102, 114, 111, 109]⟩, .string ⟨#[116, 111]⟩] 9 (by first | omega | (simp; done) | (simp; omega))) (.cells #[.string (envN b)] 9))
    have hM7 : Bk (((w6.setCell ⟨(w.heap.size + 2), 3, none⟩ (.slice (some ⟨w.heap.size + 6, 0, none⟩) 1 1)).alloc (.cells #[.string ⟨#[102, 114, 111, 109]⟩, .string ⟨#[116, 111]⟩] 9)).alloc (.cells #[.string (envN b)] 9)) (w.heap.size + 6) [.string (envN b)] 9 := (bk_newN (((w6.setCell ⟨(w.heap.size + 2), 3, none⟩ (.slice (some ⟨w.heap.size + 6, 0, none⟩) 1 1)).alloc (.cells #[.string ⟨#[102, 114, 111, 109]⟩, .string ⟨#[116, 111]⟩] 9))) (w.heap.size + 6) [.string (envN b)] 9 (by first | omega | (simp; done) | (simp; omega)))
    have hb7 : Below w.heap.size w (((w6.setCell ⟨(w.heap.size + 2), 3, none⟩ (.slice (some ⟨w.heap.size + 6, 0, none⟩) 1 1)).alloc (.cells #[.string ⟨#[102, 114, 111, 109]⟩, .string ⟨#[116, 111]⟩] 9)).alloc (.cells #[.string (envN b)] 9)) := (bal (bal (Below.setCell (p := ⟨(w.heap.size + 2), 3, none⟩) HB6.out (Nat.le_add_right _ _) (.slice (some ⟨w.heap.size + 6, 0, none⟩) 1 1)) _) _)
    have HT7 := Lib.hid hT7
    have HR7 := Lib.hid hR7
    have HX7 := Lib.hid hX7
    have HF7 := Lib.hid hF7
    have HN7 := Lib.hid hN7
    have HE7 := Lib.hid hE7
    have HM7 := Lib.hid hM7
    have HB7 := Lib.hid hb7
    clear hT7 hR7 hX7 hF7 hN7 hE7 hM7 hb7 HT6 HR6 HX6 HF6 HN6 HB6
    generalize ((w6.setCell ⟨(w.heap.size + 2), 3, none⟩ (.slice (some ⟨w.heap.size + 6, 0, none⟩) 1 1)).alloc (.cells #[.string ⟨#[102, 114, 111, 109]⟩, .string ⟨#[116, 111]⟩] 9)).alloc (.cells #[.string (envN b)] 9) = w7 at *
    clear x2 f3 y3 z0
    have x3 := HX7.out.cell 3 _ rfl
    have f4 := (Bk.alloc HT7.out (.cells #[.string (shortS s)] 9)).frozen 4
    have y4 := (Bk.alloc HT7.out (.cells #[.string (shortS s)] 9)).cell 4 _ rfl
    go_upto_region 30 with (go_at_call 29; (first | (with_reducible refine (SS _).mono ?_) | (with_reducible refine (ST _).mono ?_)); rintro e w' ⟨rfl, rfl⟩)
    have hs8 : ((w7.setCell ⟨(w.heap.size + 2), 4, none⟩ (.slice (some ⟨w.heap.size + 7, 0, none⟩) 1 1)).alloc (.cells #[.string (shortS s)] 9)).heap.size = w.heap.size + 8 := by first | (simp; done) | (simp; omega)
    have hT8 : Bk ((w7.setCell ⟨(w.heap.size + 2), 4, none⟩ (.slice (some ⟨w.heap.size + 7, 0, none⟩) 1 1)).alloc (.cells #[.string (shortS s)] 9)) (w.heap.size + 2) [.int .i64 8, .int .i64 (1 + (pickN a 3 : Int)), .int .i64 (1 + (pickN b 3 : Int)), .slice (some ⟨w.heap.size + 6, 0, none⟩) 1 1, .slice (some ⟨w.heap.size + 7, 0, none⟩) 1 1, .bool false, .int .i64 0, .slice none 0 0] 31 := (Bk.alloc (Bk.set HT7.out 4 (.slice (some ⟨w.heap.size + 7, 0, none⟩) 1 1)) (.cells #[.string (shortS s)] 9))
    have hR8 : Bk ((w7.setCell ⟨(w.heap.size + 2), 4, none⟩ (.slice (some ⟨w.heap.size + 7, 0, none⟩) 1 1)).alloc (.cells #[.string (shortS s)] 9)) (w.heap.size + 1) [.int .i64 0, .int .i64 0, .int .i64 0, .slice none 0 0, .slice none 0 0, .bool false, .int .i64 0, .slice none 0 0] 31 := (Bk.alloc (Bk.other (c := (w.heap.size + 2)) HR7.out (by omega) 4 (.slice (some ⟨w.heap.size + 7, 0, none⟩) 1 1)) (.cells #[.string (shortS s)] 9))
    have hX8 : Bk ((w7.setCell ⟨(w.heap.size + 2), 4, none⟩ (.slice (some ⟨w.heap.size + 7, 0, none⟩) 1 1)).alloc (.cells #[.string (shortS s)] 9)) w.heap.size [.int .i64 kk, .int .i64 a, .int .i64 b, .string s, .string t, .slice A inn.length c] 39 := (Bk.alloc (Bk.other (c := (w.heap.size + 2)) HX7.out (by omega) 4 (.slice (some ⟨w.heap.size + 7, 0, none⟩) 1 1)) (.cells #[.string (shortS s)] 9))
    have hF8 : Bk ((w7.setCell ⟨(w.heap.size + 2), 4, none⟩ (.slice (some ⟨w.heap.size + 7, 0, none⟩) 1 1)).alloc (.cells #[.string (shortS s)] 9)) (w.heap.size + 3) [.string ⟨#[115, 117, 98, 106, 101, 99, 116]⟩, .string ⟨#[116, 111]⟩, .string ⟨#[102, 114, 111, 109]⟩, .string ⟨#[120]⟩] 9 := (Bk.alloc (Bk.other (c := (w.heap.size + 2)) HF7.out (by omega) 4 (.slice (some ⟨w.heap.size + 7, 0, none⟩) 1 1)) (.cells #[.string (shortS s)] 9))
    have hN8 : Bk ((w7.setCell ⟨(w.heap.size + 2), 4, none⟩ (.slice (some ⟨w.heap.size + 7, 0, none⟩) 1 1)).alloc (.cells #[.string (shortS s)] 9)) (w.heap.size + 4) [.string (hdrN b)] 9 := (Bk.alloc (Bk.other (c := (w.heap.size + 2)) HN7.out (by omega) 4 (.slice (some ⟨w.heap.size + 7, 0, none⟩) 1 1)) (.cells #[.string (shortS s)] 9))
    have hE8 : Bk ((w7.setCell ⟨(w.heap.size + 2), 4, none⟩ (.slice (some ⟨w.heap.size + 7, 0, none⟩) 1 1)).alloc (.cells #[.string (shortS s)] 9)) (w.heap.size + 5) [.string ⟨#[102, 114, 111, 109]⟩, .string ⟨#[116, 111]⟩] 9 := (Bk.alloc (Bk.other (c := (w.heap.size + 2)) HE7.out (by omega) 4 (.slice (some ⟨w.heap.size + 7, 0, none⟩) 1 1)) (.cells #[.string (shortS s)] 9))
    have hM8 : Bk ((w7.setCell ⟨(w.heap.size + 2), 4, none⟩ (.slice (some ⟨w.heap.size + 7, 0, none⟩) 1 1)).alloc (.cells #[.string (shortS s)] 9)) (w.heap.size + 6) [.string (envN b)] 9 := (Bk.alloc (Bk.other (c := (w.heap.size + 2)) HM7.out (by omega) 4 (.slice (some ⟨w.heap.size + 7, 0, none⟩) 1 1)) (.cells #[.string (shortS s)] 9))
    have hK8 : Bk ((w7.setCell ⟨(w.heap.size + 2), 4, none⟩ (.slice (some ⟨w.heap.size + 7, 0, none⟩) 1 1)).alloc (.cells #[.string (shortS s)] 9)) (w.heap.size + 7) [.string (shortS s)] 9 := (bk_newN ((w7.setCell ⟨(w.heap.size + 2), 4, none⟩ (.slice (some ⟨w.heap.size + 7, 0, none⟩) 1 1))) (w.heap.size + 7) [.string (shortS s)] 9 (by first | omega | (simp; done) | (simp; omega)))
    have hb8 : Below w.heap.size w ((w7.setCell ⟨(w.heap.size + 2), 4, none⟩ (.slice (some ⟨w.heap.size + 7, 0, none⟩) 1 1)).alloc (.cells #[.string (shortS s)] 9)) := (bal (Below.setCell (p := ⟨(w.heap.size + 2), 4, none⟩) HB7.out (Nat.le_add_right _ _) (.slice (some ⟨w.heap.size + 7, 0, none⟩) 1 1)) _)
    have HT8 := Lib.hid hT8
    have HR8 := Lib.hid hR8
    have HX8 := Lib.hid hX8
    have HF8 := Lib.hid hF8
    have HN8 := Lib.hid hN8
    have HE8 := Lib.hid hE8
    have HM8 := Lib.hid hM8
    have HK8 := Lib.hid hK8
    have HB8 := Lib.hid hb8
    clear hT8 hR8 hX8 hF8 hN8 hE8 hM8 hK8 hb8 HT7 HR7 HX7 HF7 HN7 HE7 HM7 HB7
    generalize (w7.setCell ⟨(w.heap.size + 2), 4, none⟩ (.slice (some ⟨w.heap.size + 7, 0, none⟩) 1 1)).alloc (.cells #[.string (shortS s)] 9) = w8 at *
    clear x3 f4 y4
    have x1 := HX8.out.cell 1 _ rfl
    have HA2 := Lib.hid PA2
    by_cases hq : pickN a 2 = 1
    · have hq1 : ((pickN a 2 : Int) == 1) = true := by rw [hq]; rfl
      obtain ⟨i0, hi, hz0, hz1, hz2⟩ := info_parts info_string
      go_upto_region 31 with (go_at_call 13; (first | (with_reducible refine (PA3 _).mono ?_) | (with_reducible refine (PB4 _).mono ?_) | (with_reducible refine (PB3 _).mono ?_) | (with_reducible refine (PB2 _).mono ?_) | (with_reducible refine (PA2 _).mono ?_)); rintro e w' ⟨rfl, rfl⟩)
      clear x1
      have hrow := own_one (base := w.heap.size) HK8.out (by omega)
      have hfin : ∀ (g' cap : Nat) (w1 : World), w1.ownsRow w.heap.size 9 1 (.slice (some ⟨g', 0, none⟩) 2 cap) 2 [.string (shortS s), .string (shortS t)] → ((w8.alloc (.cells #[.string (shortS t)] 9)).drew).grownBy w1 (Value.ownBlock (.slice (some ⟨w.heap.size + 7, 0, none⟩) 1 1)) → w1.cell? ⟨w.heap.size + 2, 4, none⟩ = some (.slice (some ⟨w.heap.size + 7, 0, none⟩) 1 1) ∧ w1.frozen? ⟨w.heap.size + 2, 4, none⟩ = false ∧ Hid (Bk (w1.setCell ⟨w.heap.size + 2, 4, none⟩ (.slice (some ⟨g', 0, none⟩) 2 cap)) (w.heap.size + 2) [.int .i64 8, .int .i64 (1 + (pickN a 3 : Int)), .int .i64 (1 + (pickN b 3 : Int)), .slice (some ⟨w.heap.size + 6, 0, none⟩) 1 1, .slice (some ⟨g', 0, none⟩) 2 cap, .bool false, .int .i64 0, .slice none 0 0] 31 ∧ Bk (w1.setCell ⟨w.heap.size + 2, 4, none⟩ (.slice (some ⟨g', 0, none⟩) 2 cap)) (w.heap.size + 1) [.int .i64 0, .int .i64 0, .int .i64 0, .slice none 0 0, .slice none 0 0, .bool false, .int .i64 0, .slice none 0 0] 31 ∧ Bk (w1.setCell ⟨w.heap.size + 2, 4, none⟩ (.slice (some ⟨g', 0, none⟩) 2 cap)) (w.heap.size + 6) [.string (envN b)] 9 ∧ (∃ cs, Bk (w1.setCell ⟨w.heap.size + 2, 4, none⟩ (.slice (some ⟨g', 0, none⟩) 2 cap)) g' cs 9 ∧ cs.take 2 = [.string (shortS s), .string (shortS t)]) ∧ w.heap.size ≤ g' ∧ 2 ≤ cap ∧ Below w.heap.size w (w1.setCell ⟨w.heap.size + 2, 4, none⟩ (.slice (some ⟨g', 0, none⟩) 2 cap))) := fun g' cap w1 hown hgr => by
        have hT := (Bk.drew (Bk.alloc HT8.out (.cells #[.string (shortS t)] 9))).grown hgr (row_other hrow HT8.out (by decide))
        have hR := (Bk.drew (Bk.alloc HR8.out (.cells #[.string (shortS t)] 9))).grown hgr (row_other hrow HR8.out (by decide))
        have hN := (Bk.drew (Bk.alloc HM8.out (.cells #[.string (shortS t)] 9))).grown hgr (by simp [Value.ownBlock]; try omega)
        obtain ⟨hg1, hg2, cs, hcs, htk⟩ := own_bk hown
        have hne := bk_ne hT hcs (by decide)
        exact ⟨hT.cell 4 _ rfl, hT.frozen 4, Lib.hid ⟨hT.set 4 _, hR.other (by omega) 4 _, hN.other (by omega) 4 _, ⟨cs, hcs.other hne 4 _, htk⟩, hg1, hg2, (((HB8.out).alloc (by omega) _).drew.grown hgr (by simp; omega) (fun k e => own_base' hrow k e)).setCell (p := ⟨w.heap.size + 2, 4, none⟩) (Nat.le_add_right _ _) _⟩⟩
      have Hfin := Lib.hid hfin
      have Hrow := Lib.hid hrow
      clear hfin hrow
      have x4 := HT8.out.cell 4 _ rfl
      have u4 := HX8.out.cell 4 _ rfl
      have PT := Lib.hid ST
      have Hnw := Lib.hid (bk_newN w8 (w.heap.size + 8) [.string (shortS t)] 9 hs8)
      go_region_law (first
        | (go_simp; go_at_call 29; (first | (with_reducible refine (ST _).mono ?_) | (refine (ST _).mono ?_)); rintro e w' ⟨rfl, rfl⟩)
        | (refine step_append_lies _ (by rfl) _ _ _ (by rfl) w.heap.size 9 i0 _ 1 16 Tryd.underlying23 hi hz0 hz1 hz2 rfl (by omega) (.slice (some ⟨w.heap.size + 7, 0, none⟩) 1 1) 1 [.string (shortS s)] (by rfl) (Hrow.out.alloc _) ⟨w.heap.size + 8, 0, none⟩ 1 1 [.string (shortS t)] (by rfl) (by rfl) (World.news_of_block (cs := #[.string (shortS t)]) (t := 9) (fr := (0, 0)) Hnw.out) (by simp [Value.oneCell']) (by omega) (by unfold maxLen; omega) (by omega) (by simp; omega) _ (by rfl) ?_; intro g' cap w11 hown1 hgrow hat hglt; have fin := Hfin.out g' cap w11 hown1 hgrow; have k1 := fin.1; have k2 := fin.2.1; have Fin2 := fin.2.2; clear fin hown1 hgrow hat)
        | fail)
      all_goals (
        obtain ⟨hT9, hR9, hN9, ⟨cs9, hK9, htk⟩, hg9, hcap, hb9⟩ := Fin2.out
        have hne9 := (bk_ne hR9 hK9 (by decide))
        have HT9 := Lib.hid hT9
        have HR9 := Lib.hid hR9
        have HN9 := Lib.hid hN9
        have HK9 := Lib.hid hK9
        have HB9 := Lib.hid hb9
        clear hT9 hR9 hN9 hK9 hb9 Fin2 k1 k2 x4 u4
        generalize w11.setCell ⟨w.heap.size + 2, 4, none⟩ (.slice (some ⟨g', 0, none⟩) 2 cap) = w12 at *
        go_upto_region 37 with fail
        have x0 := HT9.out.cell 0 _ rfl
        have x1 := HT9.out.cell 1 _ rfl
        have x2 := HT9.out.cell 2 _ rfl
        have x3 := HT9.out.cell 3 _ rfl
        have x4 := HT9.out.cell 4 _ rfl
        have x5 := HT9.out.cell 5 _ rfl
        have x6 := HT9.out.cell 6 _ rfl
        have x7 := HT9.out.cell 7 _ rfl
        have f0 := HR9.out.frozen 0
        have y0 := HR9.out.cell 0 _ rfl
        have f1 := HR9.out.frozen 1
        have y1 := HR9.out.cell 1 _ rfl
        have f2 := HR9.out.frozen 2
        have y2 := HR9.out.cell 2 _ rfl
        have f3 := HR9.out.frozen 3
        have y3 := HR9.out.cell 3 _ rfl
        have f4 := HR9.out.frozen 4
        have y4 := HR9.out.cell 4 _ rfl
        have f5 := HR9.out.frozen 5
        have y5 := HR9.out.cell 5 _ rfl
        have f6 := HR9.out.frozen 6
        have y6 := HR9.out.cell 6 _ rfl
        have f7 := HR9.out.frozen 7
        have y7 := HR9.out.cell 7 _ rfl
        go_wp2_with fail
        have hbk := bk_eq (cs' := [.int .i64 8, .int .i64 (1 + (pickN a 3 : Int)), .int .i64 (1 + (pickN b 3 : Int)), .slice (some ⟨w.heap.size + 6, 0, none⟩) 1 1, .slice (some ⟨g', 0, none⟩) 2 cap, .bool false, .int .i64 0, .slice none 0 0]) (Bk.set (Bk.set (Bk.set (Bk.set (Bk.set (Bk.set (Bk.set (Bk.set HR9.out 0 _) 1 _) 2 _) 3 _) 4 _) 5 _) 6 _) 7 _) rfl
        refine bodyPost_ret (results_cell_row rfl _ _ (w.heap.size + 1) 31 #[.int .i64 8, .int .i64 (1 + (pickN a 3 : Int)), .int .i64 (1 + (pickN b 3 : Int)), .slice (some ⟨w.heap.size + 6, 0, none⟩) 1 1, .slice (some ⟨g', 0, none⟩) 2 cap, .bool false, .int .i64 0, .slice none 0 0] (0, 0) _ rfl hbk Tryd.underlying31 rfl (by kernel_rfl)) rfl ⟨[.int .i64 8, .int .i64 (1 + (pickN a 3 : Int)), .int .i64 (1 + (pickN b 3 : Int)), .slice (some ⟨w.heap.size + 6, 0, none⟩) 1 1, .slice (some ⟨g', 0, none⟩) 2 cap, .bool false, .int .i64 0, .slice none 0 0], rfl, fun W hN => ?_, ?_⟩
        · show TestV W (.mk 8 (1 + (pickN a 3 : Int)) (1 + (pickN b 3 : Int)) [envN b] (keysT a s t) false 0 []) _
          have hk : keysT a s t = [shortS s, shortS t] := by unfold keysT; rw [if_pos hq]
          rw [hk]
          unfold TestV
          have hKW := Bk.neu (Bk.other (Bk.other (Bk.other (Bk.other (Bk.other (Bk.other (Bk.other (Bk.other HK9.out hne9 0 _) hne9 1 _) hne9 2 _) hne9 3 _) hne9 4 _) hne9 5 _) hne9 6 _) hne9 7 _) hN hg9
          have q0 : cs9[0]? = some (.string (shortS s)) := by have := congrArg (fun l => l[0]?) htk; simpa [List.getElem?_take] using this
          have q1 : cs9[1]? = some (.string (shortS t)) := by have := congrArg (fun l => l[1]?) htk; simpa [List.getElem?_take] using this
          exact ⟨_, 1, _, cap, none, 0, rfl, txAt_one (Bk.neu (Bk.other (Bk.other (Bk.other (Bk.other (Bk.other (Bk.other (Bk.other (Bk.other HN9.out (by omega) 0 _) (by omega) 1 _) (by omega) 2 _) (by omega) 3 _) (by omega) 4 _) (by omega) 5 _) (by omega) 6 _) (by omega) 7 _) hN (by omega)), txAt_two (hKW.cell 0 _ q0) (hKW.cell 1 _ q1), by unfold TestsAt; trivial, by simp; omega⟩
        · exact (Below.setCell (Below.setCell (Below.setCell (Below.setCell (Below.setCell (Below.setCell (Below.setCell (Below.setCell HB9.out (Nat.le_add_right _ _) _) (Nat.le_add_right _ _) _) (Nat.le_add_right _ _) _) (Nat.le_add_right _ _) _) (Nat.le_add_right _ _) _) (Nat.le_add_right _ _) _) (Nat.le_add_right _ _) _) (Nat.le_add_right _ _) _))
    · have hq1 : ((pickN a 2 : Int) == 1) = false := by rw [beq_eq_false_iff_ne]; omega
      go_upto_region 37 with (go_at_call 13; (first | (with_reducible refine (PA3 _).mono ?_) | (with_reducible refine (PB4 _).mono ?_) | (with_reducible refine (PB3 _).mono ?_) | (with_reducible refine (PB2 _).mono ?_) | (with_reducible refine (PA2 _).mono ?_)); rintro e w' ⟨rfl, rfl⟩)
      clear x1
      have x0 := HT8.out.cell 0 _ rfl
      have x1 := HT8.out.cell 1 _ rfl
      have x2 := HT8.out.cell 2 _ rfl
      have x3 := HT8.out.cell 3 _ rfl
      have x4 := HT8.out.cell 4 _ rfl
      have x5 := HT8.out.cell 5 _ rfl
      have x6 := HT8.out.cell 6 _ rfl
      have x7 := HT8.out.cell 7 _ rfl
      have f0 := HR8.out.frozen 0
      have y0 := HR8.out.cell 0 _ rfl
      have f1 := HR8.out.frozen 1
      have y1 := HR8.out.cell 1 _ rfl
      have f2 := HR8.out.frozen 2
      have y2 := HR8.out.cell 2 _ rfl
      have f3 := HR8.out.frozen 3
      have y3 := HR8.out.cell 3 _ rfl
      have f4 := HR8.out.frozen 4
      have y4 := HR8.out.cell 4 _ rfl
      have f5 := HR8.out.frozen 5
      have y5 := HR8.out.cell 5 _ rfl
      have f6 := HR8.out.frozen 6
      have y6 := HR8.out.cell 6 _ rfl
      have f7 := HR8.out.frozen 7
      have y7 := HR8.out.cell 7 _ rfl
      go_wp2_with fail
      have hbk := bk_eq (cs' := [.int .i64 8, .int .i64 (1 + (pickN a 3 : Int)), .int .i64 (1 + (pickN b 3 : Int)), .slice (some ⟨w.heap.size + 6, 0, none⟩) 1 1, .slice (some ⟨w.heap.size + 7, 0, none⟩) 1 1, .bool false, .int .i64 0, .slice none 0 0]) (Bk.set (Bk.set (Bk.set (Bk.set (Bk.set (Bk.set (Bk.set (Bk.set HR8.out 0 _) 1 _) 2 _) 3 _) 4 _) 5 _) 6 _) 7 _) rfl
      refine bodyPost_ret (results_cell_row rfl _ _ (w.heap.size + 1) 31 #[.int .i64 8, .int .i64 (1 + (pickN a 3 : Int)), .int .i64 (1 + (pickN b 3 : Int)), .slice (some ⟨w.heap.size + 6, 0, none⟩) 1 1, .slice (some ⟨w.heap.size + 7, 0, none⟩) 1 1, .bool false, .int .i64 0, .slice none 0 0] (0, 0) _ rfl hbk Tryd.underlying31 rfl (by kernel_rfl)) rfl ⟨[.int .i64 8, .int .i64 (1 + (pickN a 3 : Int)), .int .i64 (1 + (pickN b 3 : Int)), .slice (some ⟨w.heap.size + 6, 0, none⟩) 1 1, .slice (some ⟨w.heap.size + 7, 0, none⟩) 1 1, .bool false, .int .i64 0, .slice none 0 0], rfl, fun W hN => ?_, ?_⟩
      · show TestV W (.mk 8 (1 + (pickN a 3 : Int)) (1 + (pickN b 3 : Int)) [envN b] (keysT a s t) false 0 []) _
        have hk : keysT a s t = [shortS s] := by unfold keysT; rw [if_neg hq]
        rw [hk]
        unfold TestV
        exact ⟨_, 1, _, 1, none, 0, rfl, txAt_one (Bk.neu (Bk.other (Bk.other (Bk.other (Bk.other (Bk.other (Bk.other (Bk.other (Bk.other HM8.out (by omega) 0 _) (by omega) 1 _) (by omega) 2 _) (by omega) 3 _) (by omega) 4 _) (by omega) 5 _) (by omega) 6 _) (by omega) 7 _) hN (by omega)), txAt_one (Bk.neu (Bk.other (Bk.other (Bk.other (Bk.other (Bk.other (Bk.other (Bk.other (Bk.other HK8.out (by omega) 0 _) (by omega) 1 _) (by omega) 2 _) (by omega) 3 _) (by omega) 4 _) (by omega) 5 _) (by omega) 6 _) (by omega) 7 _) hN (by omega)), by unfold TestsAt; trivial, by simp⟩
      · exact (Below.setCell (Below.setCell (Below.setCell (Below.setCell (Below.setCell (Below.setCell (Below.setCell (Below.setCell HB8.out (Nat.le_add_right _ _) _) (Nat.le_add_right _ _) _) (Nat.le_add_right _ _) _) (Nat.le_add_right _ _) _) (Nat.le_add_right _ _) _) (Nat.le_add_right _ _) _) (Nat.le_add_right _ _) _) (Nat.le_add_right _ _) _))
end Go.Proofs.YtgmnoemkdigafaaDoor
