/- The helper Command of the statements: kind 6. The helper Command of the statements: kind 7. The helper Command of the statements: kind 8. -/
import Derived.Test.YtgmnoemkdigafaaDoorZB1
import Derived.Test.YtgmnoemkdigafaaDoorZB12
import Derived.Laws.Rows
import Derived.Deep.RegionLaw
import Derived.Deep.AppendLies
import Derived.Deep.DeepCutAuto
import Derived.Deep.CutBlock
import Derived.RegionTactic
import Derived.BigRegion
namespace Go.Proofs.YtgmnoemkdigafaaDoor
open Go.RowKit
set_option linter.unusedVariables false

set_option maxRecDepth 100000 in
set_option maxHeartbeats 8000000 in
theorem cmd_6 (kk a b : Int) (s t : ByteArray) (inn : List Stk) (A : Option Addr) (c : Nat) (d : Int) (w : World) (hd0 : 0 ≤ d) (hd : d ≤ 1000) (hP12 : pickN kk 12 = 4) (hB : StkB kk a b s t inn.length c) (hA : StksAt w inn A) :
    Calls Tryd.prog 47 #[.agg #[.int .i64 kk, .int .i64 a, .int .i64 b, .string s, .string t, .slice A inn.length c], .int .i64 d] w fun e w' => ∃ tv, e = .returned (.agg (List.toArray tv)) ∧ (∀ W, New w.heap.size w' W → CmdV W (leafC 6 (.mk kk a b s t inn)) tv) ∧ Below w.heap.size w w' := by
  obtain ⟨wk, wa, wb, ws, wt, hc1, hc2⟩ := hB
  unfold maxLen at ws wt hc2
  have hX := Bk.new w [.int .i64 kk, .int .i64 a, .int .i64 b, .string s, .string t, .slice A inn.length c] 39
  have hbx : Below w.heap.size w (w.alloc (.cells #[.int .i64 kk, .int .i64 a, .int .i64 b, .string s, .string t, .slice A inn.length c] 39)) := bal (Below.refl _ _) _
  have HX := Lib.hid hX
  have Hbx := Lib.hid hbx
  clear hX hbx
  have P12 : ∀ W : World, Calls Tryd.prog 13 #[.int .i64 kk, .int .i64 12] W fun e w' => e = .returned (.int .i64 ((4 : Nat) : Int)) ∧ W = w' := fun W => by
    have h := picked_calls kk 12 W wk (by decide) (by decide)
    rw [hP12] at h
    exact h
  have PA := fun W : World => picked_calls a 3 W wa (by decide) (by decide)
  have lam := pickN_lt a 3 (by decide)
  go_enter Tryd.func47, Tryd.ntmps47
  go_upto_region 1 with fail
  have hR := Bk.new (w.alloc (.cells #[.int .i64 kk, .int .i64 a, .int .i64 b, .string s, .string t, .slice A inn.length c] 39)) [.int .i64 0, .slice none 0 0, .int .i64 0, .int .i64 0, .int .i64 0, .slice none 0 0, .slice none 0 0, .bool false, .int .i64 0, .slice none 0 0, .slice none 0 0, .slice none 0 0] 34
  have hX2 := HX.out.alloc (.cells #[.int .i64 0, .slice none 0 0, .int .i64 0, .int .i64 0, .int .i64 0, .slice none 0 0, .slice none 0 0, .bool false, .int .i64 0, .slice none 0 0, .slice none 0 0, .slice none 0 0] 34)
  have hb2 := bal Hbx.out (.cells #[.int .i64 0, .slice none 0 0, .int .i64 0, .int .i64 0, .int .i64 0, .slice none 0 0, .slice none 0 0, .bool false, .int .i64 0, .slice none 0 0, .slice none 0 0, .slice none 0 0] 34)
  have hs1 : (w.alloc (.cells #[.int .i64 kk, .int .i64 a, .int .i64 b, .string s, .string t, .slice A inn.length c] 39)).heap.size = w.heap.size + 1 := by simp
  rw [hs1] at hR
  have hs2 : ((w.alloc (.cells #[.int .i64 kk, .int .i64 a, .int .i64 b, .string s, .string t, .slice A inn.length c] 39)).alloc (.cells #[.int .i64 0, .slice none 0 0, .int .i64 0, .int .i64 0, .int .i64 0, .slice none 0 0, .slice none 0 0, .bool false, .int .i64 0, .slice none 0 0, .slice none 0 0, .slice none 0 0] 34)).heap.size = w.heap.size + 2 := by simp
  have HR := Lib.hid hR
  have HX2 := Lib.hid hX2
  have Hb2 := Lib.hid hb2
  clear hR hX2 hb2 hs1 HX Hbx
  generalize (w.alloc (.cells #[.int .i64 kk, .int .i64 a, .int .i64 b, .string s, .string t, .slice A inn.length c] 39)).alloc (.cells #[.int .i64 0, .slice none 0 0, .int .i64 0, .int .i64 0, .int .i64 0, .slice none 0 0, .slice none 0 0, .bool false, .int .i64 0, .slice none 0 0, .slice none 0 0, .slice none 0 0] 34) = w2 at *
  have x0 := HX2.out.cell 0 _ rfl
  go_upto_region 2 with (go_at_call 13; refine (P12 _).mono ?_; rintro e w' ⟨rfl, rfl⟩)
  clear P12 x0
  have hs3 : (w2.alloc (.cells #[.int .i64 3, .int .i64 2, .int .i64 5, .int .i64 2, .int .i64 6, .int .i64 2, .int .i64 4, .int .i64 8, .int .i64 9, .int .i64 7, .int .i64 10, .int .i64 2] 3)).heap.size = w.heap.size + 3 := by first | (simp; done) | (simp; omega)
  have hR3 : Bk (w2.alloc (.cells #[.int .i64 3, .int .i64 2, .int .i64 5, .int .i64 2, .int .i64 6, .int .i64 2, .int .i64 4, .int .i64 8, .int .i64 9, .int .i64 7, .int .i64 10, .int .i64 2] 3)) (w.heap.size + 1) [.int .i64 0, .slice none 0 0, .int .i64 0, .int .i64 0, .int .i64 0, .slice none 0 0, .slice none 0 0, .bool false, .int .i64 0, .slice none 0 0, .slice none 0 0, .slice none 0 0] 34 := (Bk.alloc HR.out (.cells #[.int .i64 3, .int .i64 2, .int .i64 5, .int .i64 2, .int .i64 6, .int .i64 2, .int .i64 4, .int .i64 8, .int .i64 9, .int .i64 7, .int .i64 10, .int .i64 2] 3))
  have hX3 : Bk (w2.alloc (.cells #[.int .i64 3, .int .i64 2, .int .i64 5, .int .i64 2, .int .i64 6, .int .i64 2, .int .i64 4, .int .i64 8, .int .i64 9, .int .i64 7, .int .i64 10, .int .i64 2] 3)) w.heap.size [.int .i64 kk, .int .i64 a, .int .i64 b, .string s, .string t, .slice A inn.length c] 39 := (Bk.alloc HX2.out (.cells #[.int .i64 3, .int .i64 2, .int .i64 5, .int .i64 2, .int .i64 6, .int .i64 2, .int .i64 4, .int .i64 8, .int .i64 9, .int .i64 7, .int .i64 10, .int .i64 2] 3))
  have hL3 : Bk (w2.alloc (.cells #[.int .i64 3, .int .i64 2, .int .i64 5, .int .i64 2, .int .i64 6, .int .i64 2, .int .i64 4, .int .i64 8, .int .i64 9, .int .i64 7, .int .i64 10, .int .i64 2] 3)) (w.heap.size + 2) [.int .i64 3, .int .i64 2, .int .i64 5, .int .i64 2, .int .i64 6, .int .i64 2, .int .i64 4, .int .i64 8, .int .i64 9, .int .i64 7, .int .i64 10, .int .i64 2] 3 := (bk_newN (w2) (w.heap.size + 2) [.int .i64 3, .int .i64 2, .int .i64 5, .int .i64 2, .int .i64 6, .int .i64 2, .int .i64 4, .int .i64 8, .int .i64 9, .int .i64 7, .int .i64 10, .int .i64 2] 3 (by first | omega | (simp; done) | (simp; omega)))
  have hb3 : Below w.heap.size w (w2.alloc (.cells #[.int .i64 3, .int .i64 2, .int .i64 5, .int .i64 2, .int .i64 6, .int .i64 2, .int .i64 4, .int .i64 8, .int .i64 9, .int .i64 7, .int .i64 10, .int .i64 2] 3)) := (bal Hb2.out _)
  have HR3 := Lib.hid hR3
  have HX3 := Lib.hid hX3
  have HL3 := Lib.hid hL3
  have HB3 := Lib.hid hb3
  clear hR3 hX3 hL3 hb3 HR HX2 Hb2
  generalize w2.alloc (.cells #[.int .i64 3, .int .i64 2, .int .i64 5, .int .i64 2, .int .i64 6, .int .i64 2, .int .i64 4, .int .i64 8, .int .i64 9, .int .i64 7, .int .i64 10, .int .i64 2] 3) = w3 at *
  go_upto_region 5 with fail
  have hs4 : (w3.alloc (.cells #[.int .i64 6, .slice none 0 0, .int .i64 0, .int .i64 0, .int .i64 0, .slice none 0 0, .slice none 0 0, .bool false, .int .i64 0, .slice none 0 0, .slice none 0 0, .slice none 0 0] 34)).heap.size = w.heap.size + 4 := by first | (simp; done) | (simp; omega)
  have hR4 : Bk (w3.alloc (.cells #[.int .i64 6, .slice none 0 0, .int .i64 0, .int .i64 0, .int .i64 0, .slice none 0 0, .slice none 0 0, .bool false, .int .i64 0, .slice none 0 0, .slice none 0 0, .slice none 0 0] 34)) (w.heap.size + 1) [.int .i64 0, .slice none 0 0, .int .i64 0, .int .i64 0, .int .i64 0, .slice none 0 0, .slice none 0 0, .bool false, .int .i64 0, .slice none 0 0, .slice none 0 0, .slice none 0 0] 34 := (Bk.alloc HR3.out (.cells #[.int .i64 6, .slice none 0 0, .int .i64 0, .int .i64 0, .int .i64 0, .slice none 0 0, .slice none 0 0, .bool false, .int .i64 0, .slice none 0 0, .slice none 0 0, .slice none 0 0] 34))
  have hX4 : Bk (w3.alloc (.cells #[.int .i64 6, .slice none 0 0, .int .i64 0, .int .i64 0, .int .i64 0, .slice none 0 0, .slice none 0 0, .bool false, .int .i64 0, .slice none 0 0, .slice none 0 0, .slice none 0 0] 34)) w.heap.size [.int .i64 kk, .int .i64 a, .int .i64 b, .string s, .string t, .slice A inn.length c] 39 := (Bk.alloc HX3.out (.cells #[.int .i64 6, .slice none 0 0, .int .i64 0, .int .i64 0, .int .i64 0, .slice none 0 0, .slice none 0 0, .bool false, .int .i64 0, .slice none 0 0, .slice none 0 0, .slice none 0 0] 34))
  have hL4 : Bk (w3.alloc (.cells #[.int .i64 6, .slice none 0 0, .int .i64 0, .int .i64 0, .int .i64 0, .slice none 0 0, .slice none 0 0, .bool false, .int .i64 0, .slice none 0 0, .slice none 0 0, .slice none 0 0] 34)) (w.heap.size + 2) [.int .i64 3, .int .i64 2, .int .i64 5, .int .i64 2, .int .i64 6, .int .i64 2, .int .i64 4, .int .i64 8, .int .i64 9, .int .i64 7, .int .i64 10, .int .i64 2] 3 := (Bk.alloc HL3.out (.cells #[.int .i64 6, .slice none 0 0, .int .i64 0, .int .i64 0, .int .i64 0, .slice none 0 0, .slice none 0 0, .bool false, .int .i64 0, .slice none 0 0, .slice none 0 0, .slice none 0 0] 34))
  have hT4 : Bk (w3.alloc (.cells #[.int .i64 6, .slice none 0 0, .int .i64 0, .int .i64 0, .int .i64 0, .slice none 0 0, .slice none 0 0, .bool false, .int .i64 0, .slice none 0 0, .slice none 0 0, .slice none 0 0] 34)) (w.heap.size + 3) [.int .i64 6, .slice none 0 0, .int .i64 0, .int .i64 0, .int .i64 0, .slice none 0 0, .slice none 0 0, .bool false, .int .i64 0, .slice none 0 0, .slice none 0 0, .slice none 0 0] 34 := (bk_newN (w3) (w.heap.size + 3) [.int .i64 6, .slice none 0 0, .int .i64 0, .int .i64 0, .int .i64 0, .slice none 0 0, .slice none 0 0, .bool false, .int .i64 0, .slice none 0 0, .slice none 0 0, .slice none 0 0] 34 (by first | omega | (simp; done) | (simp; omega)))
  have hb4 : Below w.heap.size w (w3.alloc (.cells #[.int .i64 6, .slice none 0 0, .int .i64 0, .int .i64 0, .int .i64 0, .slice none 0 0, .slice none 0 0, .bool false, .int .i64 0, .slice none 0 0, .slice none 0 0, .slice none 0 0] 34)) := (bal HB3.out _)
  have HR4 := Lib.hid hR4
  have HX4 := Lib.hid hX4
  have HL4 := Lib.hid hL4
  have HT4 := Lib.hid hT4
  have HB4 := Lib.hid hb4
  clear hR4 hX4 hL4 hT4 hb4 HR3 HX3 HL3 HB3
  generalize w3.alloc (.cells #[.int .i64 6, .slice none 0 0, .int .i64 0, .int .i64 0, .int .i64 0, .slice none 0 0, .slice none 0 0, .bool false, .int .i64 0, .slice none 0 0, .slice none 0 0, .slice none 0 0] 34) = w4 at *
  have x1 := (Bk.alloc HX4.out (.cells #[.string ⟨#[97, 64, 98, 46, 99]⟩, .string ⟨#[65, 110, 110, 32, 60, 97, 110, 110, 64, 120, 46, 121, 62]⟩, .string ⟨#[98, 64, 99]⟩] 9)).cell 1 _ rfl
  have z0 : ([.string ⟨#[97, 64, 98, 46, 99]⟩, .string ⟨#[65, 110, 110, 32, 60, 97, 110, 110, 64, 120, 46, 121, 62]⟩, .string ⟨#[98, 64, 99]⟩] : List Value)[pickN a 3]? = some (.string (redN a)) := getD_str [[97, 64, 98, 46, 99], [65, 110, 110, 32, 60, 97, 110, 110, 64, 120, 46, 121, 62], [98, 64, 99]] (pickN a 3) (by simp only [List.length_cons, List.length_nil]; omega)
  have f1 := (Bk.alloc (Bk.alloc HT4.out (.cells #[.string ⟨#[97, 64, 98, 46, 99]⟩, .string ⟨#[65, 110, 110, 32, 60, 97, 110, 110, 64, 120, 46, 121, 62]⟩, .string ⟨#[98, 64, 99]⟩] 9)) (.cells #[.string (redN a)] 9)).frozen 1
  have y1 := (Bk.alloc (Bk.alloc HT4.out (.cells #[.string ⟨#[97, 64, 98, 46, 99]⟩, .string ⟨#[65, 110, 110, 32, 60, 97, 110, 110, 64, 120, 46, 121, 62]⟩, .string ⟨#[98, 64, 99]⟩] 9)) (.cells #[.string (redN a)] 9)).cell 1 _ rfl
  go_upto_region 22 with (go_at_call 13; refine (PA _).mono ?_; rintro e w' ⟨rfl, rfl⟩)
  have hs5 : (((w4.setCell ⟨(w.heap.size + 3), 1, none⟩ (.slice (some ⟨w.heap.size + 5, 0, none⟩) 1 1)).alloc (.cells #[.string ⟨#[97, 64, 98, 46, 99]⟩, .string ⟨#[65, 110, 110, 32, 60, 97, 110, 110, 64, 120, 46, 121, 62]⟩, .string ⟨#[98, 64, 99]⟩] 9)).alloc (.cells #[.string (redN a)] 9)).heap.size = w.heap.size + 6 := by first | (simp; done) | (simp; omega)
  have hR5 : Bk (((w4.setCell ⟨(w.heap.size + 3), 1, none⟩ (.slice (some ⟨w.heap.size + 5, 0, none⟩) 1 1)).alloc (.cells #[.string ⟨#[97, 64, 98, 46, 99]⟩, .string ⟨#[65, 110, 110, 32, 60, 97, 110, 110, 64, 120, 46, 121, 62]⟩, .string ⟨#[98, 64, 99]⟩] 9)).alloc (.cells #[.string (redN a)] 9)) (w.heap.size + 1) [.int .i64 0, .slice none 0 0, .int .i64 0, .int .i64 0, .int .i64 0, .slice none 0 0, .slice none 0 0, .bool false, .int .i64 0, .slice none 0 0, .slice none 0 0, .slice none 0 0] 34 := (Bk.alloc (Bk.alloc (Bk.other (c := (w.heap.size + 3)) HR4.out (by omega) 1 (.slice (some ⟨w.heap.size + 5, 0, none⟩) 1 1)) (.cells #[.string ⟨#[97, 64, 98, 46, 99]⟩, .string ⟨#[65, 110, 110, 32, 60, 97, 110, 110, 64, 120, 46, 121, 62]⟩, .string ⟨#[98, 64, 99]⟩] 9)) (.cells #[.string (redN a)] 9))
  have hX5 : Bk (((w4.setCell ⟨(w.heap.size + 3), 1, none⟩ (.slice (some ⟨w.heap.size + 5, 0, none⟩) 1 1)).alloc (.cells #[.string ⟨#[97, 64, 98, 46, 99]⟩, .string ⟨#[65, 110, 110, 32, 60, 97, 110, 110, 64, 120, 46, 121, 62]⟩, .string ⟨#[98, 64, 99]⟩] 9)).alloc (.cells #[.string (redN a)] 9)) w.heap.size [.int .i64 kk, .int .i64 a, .int .i64 b, .string s, .string t, .slice A inn.length c] 39 := (Bk.alloc (Bk.alloc (Bk.other (c := (w.heap.size + 3)) HX4.out (by omega) 1 (.slice (some ⟨w.heap.size + 5, 0, none⟩) 1 1)) (.cells #[.string ⟨#[97, 64, 98, 46, 99]⟩, .string ⟨#[65, 110, 110, 32, 60, 97, 110, 110, 64, 120, 46, 121, 62]⟩, .string ⟨#[98, 64, 99]⟩] 9)) (.cells #[.string (redN a)] 9))
  have hL5 : Bk (((w4.setCell ⟨(w.heap.size + 3), 1, none⟩ (.slice (some ⟨w.heap.size + 5, 0, none⟩) 1 1)).alloc (.cells #[.string ⟨#[97, 64, 98, 46, 99]⟩, .string ⟨#[65, 110, 110, 32, 60, 97, 110, 110, 64, 120, 46, 121, 62]⟩, .string ⟨#[98, 64, 99]⟩] 9)).alloc (.cells #[.string (redN a)] 9)) (w.heap.size + 2) [.int .i64 3, .int .i64 2, .int .i64 5, .int .i64 2, .int .i64 6, .int .i64 2, .int .i64 4, .int .i64 8, .int .i64 9, .int .i64 7, .int .i64 10, .int .i64 2] 3 := (Bk.alloc (Bk.alloc (Bk.other (c := (w.heap.size + 3)) HL4.out (by omega) 1 (.slice (some ⟨w.heap.size + 5, 0, none⟩) 1 1)) (.cells #[.string ⟨#[97, 64, 98, 46, 99]⟩, .string ⟨#[65, 110, 110, 32, 60, 97, 110, 110, 64, 120, 46, 121, 62]⟩, .string ⟨#[98, 64, 99]⟩] 9)) (.cells #[.string (redN a)] 9))
  have hT5 : Bk (((w4.setCell ⟨(w.heap.size + 3), 1, none⟩ (.slice (some ⟨w.heap.size + 5, 0, none⟩) 1 1)).alloc (.cells #[.string ⟨#[97, 64, 98, 46, 99]⟩, .string ⟨#[65, 110, 110, 32, 60, 97, 110, 110, 64, 120, 46, 121, 62]⟩, .string ⟨#[98, 64, 99]⟩] 9)).alloc (.cells #[.string (redN a)] 9)) (w.heap.size + 3) [.int .i64 6, .slice (some ⟨w.heap.size + 5, 0, none⟩) 1 1, .int .i64 0, .int .i64 0, .int .i64 0, .slice none 0 0, .slice none 0 0, .bool false, .int .i64 0, .slice none 0 0, .slice none 0 0, .slice none 0 0] 34 := (Bk.alloc (Bk.alloc (Bk.set HT4.out 1 (.slice (some ⟨w.heap.size + 5, 0, none⟩) 1 1)) (.cells #[.string ⟨#[97, 64, 98, 46, 99]⟩, .string ⟨#[65, 110, 110, 32, 60, 97, 110, 110, 64, 120, 46, 121, 62]⟩, .string ⟨#[98, 64, 99]⟩] 9)) (.cells #[.string (redN a)] 9))
  have hF5 : Bk (((w4.setCell ⟨(w.heap.size + 3), 1, none⟩ (.slice (some ⟨w.heap.size + 5, 0, none⟩) 1 1)).alloc (.cells #[.string ⟨#[97, 64, 98, 46, 99]⟩, .string ⟨#[65, 110, 110, 32, 60, 97, 110, 110, 64, 120, 46, 121, 62]⟩, .string ⟨#[98, 64, 99]⟩] 9)).alloc (.cells #[.string (redN a)] 9)) (w.heap.size + 4) [.string ⟨#[97, 64, 98, 46, 99]⟩, .string ⟨#[65, 110, 110, 32, 60, 97, 110, 110, 64, 120, 46, 121, 62]⟩, .string ⟨#[98, 64, 99]⟩] 9 := (Bk.alloc (bk_newN ((w4.setCell ⟨(w.heap.size + 3), 1, none⟩ (.slice (some ⟨w.heap.size + 5, 0, none⟩) 1 1))) (w.heap.size + 4) [.string ⟨#[97, 64, 98, 46, 99]⟩, .string ⟨#[65, 110, 110, 32, 60, 97, 110, 110, 64, 120, 46, 121, 62]⟩, .string ⟨#[98, 64, 99]⟩] 9 (by first | omega | (simp; done) | (simp; omega))) (.cells #[.string (redN a)] 9))
  have hN5 : Bk (((w4.setCell ⟨(w.heap.size + 3), 1, none⟩ (.slice (some ⟨w.heap.size + 5, 0, none⟩) 1 1)).alloc (.cells #[.string ⟨#[97, 64, 98, 46, 99]⟩, .string ⟨#[65, 110, 110, 32, 60, 97, 110, 110, 64, 120, 46, 121, 62]⟩, .string ⟨#[98, 64, 99]⟩] 9)).alloc (.cells #[.string (redN a)] 9)) (w.heap.size + 5) [.string (redN a)] 9 := (bk_newN (((w4.setCell ⟨(w.heap.size + 3), 1, none⟩ (.slice (some ⟨w.heap.size + 5, 0, none⟩) 1 1)).alloc (.cells #[.string ⟨#[97, 64, 98, 46, 99]⟩, .string ⟨#[65, 110, 110, 32, 60, 97, 110, 110, 64, 120, 46, 121, 62]⟩, .string ⟨#[98, 64, 99]⟩] 9))) (w.heap.size + 5) [.string (redN a)] 9 (by first | omega | (simp; done) | (simp; omega)))
  have hb5 : Below w.heap.size w (((w4.setCell ⟨(w.heap.size + 3), 1, none⟩ (.slice (some ⟨w.heap.size + 5, 0, none⟩) 1 1)).alloc (.cells #[.string ⟨#[97, 64, 98, 46, 99]⟩, .string ⟨#[65, 110, 110, 32, 60, 97, 110, 110, 64, 120, 46, 121, 62]⟩, .string ⟨#[98, 64, 99]⟩] 9)).alloc (.cells #[.string (redN a)] 9)) := (bal (bal (Below.setCell (p := ⟨(w.heap.size + 3), 1, none⟩) HB4.out (Nat.le_add_right _ _) (.slice (some ⟨w.heap.size + 5, 0, none⟩) 1 1)) _) _)
  have HR5 := Lib.hid hR5
  have HX5 := Lib.hid hX5
  have HL5 := Lib.hid hL5
  have HT5 := Lib.hid hT5
  have HF5 := Lib.hid hF5
  have HN5 := Lib.hid hN5
  have HB5 := Lib.hid hb5
  clear hR5 hX5 hL5 hT5 hF5 hN5 hb5 HR4 HX4 HL4 HT4 HB4
  generalize ((w4.setCell ⟨(w.heap.size + 3), 1, none⟩ (.slice (some ⟨w.heap.size + 5, 0, none⟩) 1 1)).alloc (.cells #[.string ⟨#[97, 64, 98, 46, 99]⟩, .string ⟨#[65, 110, 110, 32, 60, 97, 110, 110, 64, 120, 46, 121, 62]⟩, .string ⟨#[98, 64, 99]⟩] 9)).alloc (.cells #[.string (redN a)] 9) = w5 at *
  clear x1 f1 y1 z0
  have x0 := HT5.out.cell 0 _ rfl
  have x1 := HT5.out.cell 1 _ rfl
  have x2 := HT5.out.cell 2 _ rfl
  have x3 := HT5.out.cell 3 _ rfl
  have x4 := HT5.out.cell 4 _ rfl
  have x5 := HT5.out.cell 5 _ rfl
  have x6 := HT5.out.cell 6 _ rfl
  have x7 := HT5.out.cell 7 _ rfl
  have x8 := HT5.out.cell 8 _ rfl
  have x9 := HT5.out.cell 9 _ rfl
  have x10 := HT5.out.cell 10 _ rfl
  have x11 := HT5.out.cell 11 _ rfl
  have f0 := HR5.out.frozen 0
  have y0 := HR5.out.cell 0 _ rfl
  have f1 := HR5.out.frozen 1
  have y1 := HR5.out.cell 1 _ rfl
  have f2 := HR5.out.frozen 2
  have y2 := HR5.out.cell 2 _ rfl
  have f3 := HR5.out.frozen 3
  have y3 := HR5.out.cell 3 _ rfl
  have f4 := HR5.out.frozen 4
  have y4 := HR5.out.cell 4 _ rfl
  have f5 := HR5.out.frozen 5
  have y5 := HR5.out.cell 5 _ rfl
  have f6 := HR5.out.frozen 6
  have y6 := HR5.out.cell 6 _ rfl
  have f7 := HR5.out.frozen 7
  have y7 := HR5.out.cell 7 _ rfl
  have f8 := HR5.out.frozen 8
  have y8 := HR5.out.cell 8 _ rfl
  have f9 := HR5.out.frozen 9
  have y9 := HR5.out.cell 9 _ rfl
  have f10 := HR5.out.frozen 10
  have y10 := HR5.out.cell 10 _ rfl
  have f11 := HR5.out.frozen 11
  have y11 := HR5.out.cell 11 _ rfl
  go_wp2_with fail
  have hbk := bk_eq (cs' := [.int .i64 6, .slice (some ⟨w.heap.size + 5, 0, none⟩) 1 1, .int .i64 0, .int .i64 0, .int .i64 0, .slice none 0 0, .slice none 0 0, .bool false, .int .i64 0, .slice none 0 0, .slice none 0 0, .slice none 0 0]) (Bk.set (Bk.set (Bk.set (Bk.set (Bk.set (Bk.set (Bk.set (Bk.set (Bk.set (Bk.set (Bk.set (Bk.set HR5.out 0 _) 1 _) 2 _) 3 _) 4 _) 5 _) 6 _) 7 _) 8 _) 9 _) 10 _) 11 _) rfl
  refine bodyPost_ret (results_cell_row rfl _ _ (w.heap.size + 1) 34 #[.int .i64 6, .slice (some ⟨w.heap.size + 5, 0, none⟩) 1 1, .int .i64 0, .int .i64 0, .int .i64 0, .slice none 0 0, .slice none 0 0, .bool false, .int .i64 0, .slice none 0 0, .slice none 0 0, .slice none 0 0] (0, 0) _ rfl hbk Tryd.underlying34 rfl (by kernel_rfl)) rfl ⟨[.int .i64 6, .slice (some ⟨w.heap.size + 5, 0, none⟩) 1 1, .int .i64 0, .int .i64 0, .int .i64 0, .slice none 0 0, .slice none 0 0, .bool false, .int .i64 0, .slice none 0 0, .slice none 0 0, .slice none 0 0], rfl, fun W hN => ?_, ?_⟩
  · exact cmdV_leaf (txs := [_]) (txAt_one (Bk.neu (Bk.other (Bk.other (Bk.other (Bk.other (Bk.other (Bk.other (Bk.other (Bk.other (Bk.other (Bk.other (Bk.other (Bk.other HN5.out (by omega) 0 _) (by omega) 1 _) (by omega) 2 _) (by omega) 3 _) (by omega) 4 _) (by omega) 5 _) (by omega) 6 _) (by omega) 7 _) (by omega) 8 _) (by omega) 9 _) (by omega) 10 _) (by omega) 11 _) hN (by omega))) rfl
  · exact (Below.setCell (Below.setCell (Below.setCell (Below.setCell (Below.setCell (Below.setCell (Below.setCell (Below.setCell (Below.setCell (Below.setCell (Below.setCell (Below.setCell HB5.out (Nat.le_add_right _ _) _) (Nat.le_add_right _ _) _) (Nat.le_add_right _ _) _) (Nat.le_add_right _ _) _) (Nat.le_add_right _ _) _) (Nat.le_add_right _ _) _) (Nat.le_add_right _ _) _) (Nat.le_add_right _ _) _) (Nat.le_add_right _ _) _) (Nat.le_add_right _ _) _) (Nat.le_add_right _ _) _) (Nat.le_add_right _ _) _)
end Go.Proofs.YtgmnoemkdigafaaDoor
namespace Go.Proofs.YtgmnoemkdigafaaDoor
open Go.RowKit
set_option linter.unusedVariables false

set_option maxRecDepth 100000 in
set_option maxHeartbeats 8000000 in
theorem cmd_7 (kk a b : Int) (s t : ByteArray) (inn : List Stk) (A : Option Addr) (c : Nat) (d : Int) (w : World) (hd0 : 0 ≤ d) (hd : d ≤ 1000) (hP12 : pickN kk 12 = 9) (hB : StkB kk a b s t inn.length c) (hA : StksAt w inn A) :
    Calls Tryd.prog 47 #[.agg #[.int .i64 kk, .int .i64 a, .int .i64 b, .string s, .string t, .slice A inn.length c], .int .i64 d] w fun e w' => ∃ tv, e = .returned (.agg (List.toArray tv)) ∧ (∀ W, New w.heap.size w' W → CmdV W (leafC 7 (.mk kk a b s t inn)) tv) ∧ Below w.heap.size w w' := by
  obtain ⟨wk, wa, wb, ws, wt, hc1, hc2⟩ := hB
  unfold maxLen at ws wt hc2
  have hX := Bk.new w [.int .i64 kk, .int .i64 a, .int .i64 b, .string s, .string t, .slice A inn.length c] 39
  have hbx : Below w.heap.size w (w.alloc (.cells #[.int .i64 kk, .int .i64 a, .int .i64 b, .string s, .string t, .slice A inn.length c] 39)) := bal (Below.refl _ _) _
  have HX := Lib.hid hX
  have Hbx := Lib.hid hbx
  clear hX hbx
  have P12 : ∀ W : World, Calls Tryd.prog 13 #[.int .i64 kk, .int .i64 12] W fun e w' => e = .returned (.int .i64 ((9 : Nat) : Int)) ∧ W = w' := fun W => by
    have h := picked_calls kk 12 W wk (by decide) (by decide)
    rw [hP12] at h
    exact h
  have SS := fun W : World => short_calls s (by omega) W
  go_enter Tryd.func47, Tryd.ntmps47
  go_upto_region 1 with fail
  have hR := Bk.new (w.alloc (.cells #[.int .i64 kk, .int .i64 a, .int .i64 b, .string s, .string t, .slice A inn.length c] 39)) [.int .i64 0, .slice none 0 0, .int .i64 0, .int .i64 0, .int .i64 0, .slice none 0 0, .slice none 0 0, .bool false, .int .i64 0, .slice none 0 0, .slice none 0 0, .slice none 0 0] 34
  have hX2 := HX.out.alloc (.cells #[.int .i64 0, .slice none 0 0, .int .i64 0, .int .i64 0, .int .i64 0, .slice none 0 0, .slice none 0 0, .bool false, .int .i64 0, .slice none 0 0, .slice none 0 0, .slice none 0 0] 34)
  have hb2 := bal Hbx.out (.cells #[.int .i64 0, .slice none 0 0, .int .i64 0, .int .i64 0, .int .i64 0, .slice none 0 0, .slice none 0 0, .bool false, .int .i64 0, .slice none 0 0, .slice none 0 0, .slice none 0 0] 34)
  have hs1 : (w.alloc (.cells #[.int .i64 kk, .int .i64 a, .int .i64 b, .string s, .string t, .slice A inn.length c] 39)).heap.size = w.heap.size + 1 := by simp
  rw [hs1] at hR
  have hs2 : ((w.alloc (.cells #[.int .i64 kk, .int .i64 a, .int .i64 b, .string s, .string t, .slice A inn.length c] 39)).alloc (.cells #[.int .i64 0, .slice none 0 0, .int .i64 0, .int .i64 0, .int .i64 0, .slice none 0 0, .slice none 0 0, .bool false, .int .i64 0, .slice none 0 0, .slice none 0 0, .slice none 0 0] 34)).heap.size = w.heap.size + 2 := by simp
  have HR := Lib.hid hR
  have HX2 := Lib.hid hX2
  have Hb2 := Lib.hid hb2
  clear hR hX2 hb2 hs1 HX Hbx
  generalize (w.alloc (.cells #[.int .i64 kk, .int .i64 a, .int .i64 b, .string s, .string t, .slice A inn.length c] 39)).alloc (.cells #[.int .i64 0, .slice none 0 0, .int .i64 0, .int .i64 0, .int .i64 0, .slice none 0 0, .slice none 0 0, .bool false, .int .i64 0, .slice none 0 0, .slice none 0 0, .slice none 0 0] 34) = w2 at *
  have x0 := HX2.out.cell 0 _ rfl
  go_upto_region 2 with (go_at_call 13; refine (P12 _).mono ?_; rintro e w' ⟨rfl, rfl⟩)
  clear P12 x0
  have hs3 : (w2.alloc (.cells #[.int .i64 3, .int .i64 2, .int .i64 5, .int .i64 2, .int .i64 6, .int .i64 2, .int .i64 4, .int .i64 8, .int .i64 9, .int .i64 7, .int .i64 10, .int .i64 2] 3)).heap.size = w.heap.size + 3 := by first | (simp; done) | (simp; omega)
  have hR3 : Bk (w2.alloc (.cells #[.int .i64 3, .int .i64 2, .int .i64 5, .int .i64 2, .int .i64 6, .int .i64 2, .int .i64 4, .int .i64 8, .int .i64 9, .int .i64 7, .int .i64 10, .int .i64 2] 3)) (w.heap.size + 1) [.int .i64 0, .slice none 0 0, .int .i64 0, .int .i64 0, .int .i64 0, .slice none 0 0, .slice none 0 0, .bool false, .int .i64 0, .slice none 0 0, .slice none 0 0, .slice none 0 0] 34 := (Bk.alloc HR.out (.cells #[.int .i64 3, .int .i64 2, .int .i64 5, .int .i64 2, .int .i64 6, .int .i64 2, .int .i64 4, .int .i64 8, .int .i64 9, .int .i64 7, .int .i64 10, .int .i64 2] 3))
  have hX3 : Bk (w2.alloc (.cells #[.int .i64 3, .int .i64 2, .int .i64 5, .int .i64 2, .int .i64 6, .int .i64 2, .int .i64 4, .int .i64 8, .int .i64 9, .int .i64 7, .int .i64 10, .int .i64 2] 3)) w.heap.size [.int .i64 kk, .int .i64 a, .int .i64 b, .string s, .string t, .slice A inn.length c] 39 := (Bk.alloc HX2.out (.cells #[.int .i64 3, .int .i64 2, .int .i64 5, .int .i64 2, .int .i64 6, .int .i64 2, .int .i64 4, .int .i64 8, .int .i64 9, .int .i64 7, .int .i64 10, .int .i64 2] 3))
  have hL3 : Bk (w2.alloc (.cells #[.int .i64 3, .int .i64 2, .int .i64 5, .int .i64 2, .int .i64 6, .int .i64 2, .int .i64 4, .int .i64 8, .int .i64 9, .int .i64 7, .int .i64 10, .int .i64 2] 3)) (w.heap.size + 2) [.int .i64 3, .int .i64 2, .int .i64 5, .int .i64 2, .int .i64 6, .int .i64 2, .int .i64 4, .int .i64 8, .int .i64 9, .int .i64 7, .int .i64 10, .int .i64 2] 3 := (bk_newN (w2) (w.heap.size + 2) [.int .i64 3, .int .i64 2, .int .i64 5, .int .i64 2, .int .i64 6, .int .i64 2, .int .i64 4, .int .i64 8, .int .i64 9, .int .i64 7, .int .i64 10, .int .i64 2] 3 (by first | omega | (simp; done) | (simp; omega)))
  have hb3 : Below w.heap.size w (w2.alloc (.cells #[.int .i64 3, .int .i64 2, .int .i64 5, .int .i64 2, .int .i64 6, .int .i64 2, .int .i64 4, .int .i64 8, .int .i64 9, .int .i64 7, .int .i64 10, .int .i64 2] 3)) := (bal Hb2.out _)
  have HR3 := Lib.hid hR3
  have HX3 := Lib.hid hX3
  have HL3 := Lib.hid hL3
  have HB3 := Lib.hid hb3
  clear hR3 hX3 hL3 hb3 HR HX2 Hb2
  generalize w2.alloc (.cells #[.int .i64 3, .int .i64 2, .int .i64 5, .int .i64 2, .int .i64 6, .int .i64 2, .int .i64 4, .int .i64 8, .int .i64 9, .int .i64 7, .int .i64 10, .int .i64 2] 3) = w3 at *
  go_upto_region 5 with fail
  have hs4 : (w3.alloc (.cells #[.int .i64 7, .slice none 0 0, .int .i64 0, .int .i64 0, .int .i64 0, .slice none 0 0, .slice none 0 0, .bool false, .int .i64 0, .slice none 0 0, .slice none 0 0, .slice none 0 0] 34)).heap.size = w.heap.size + 4 := by first | (simp; done) | (simp; omega)
  have hR4 : Bk (w3.alloc (.cells #[.int .i64 7, .slice none 0 0, .int .i64 0, .int .i64 0, .int .i64 0, .slice none 0 0, .slice none 0 0, .bool false, .int .i64 0, .slice none 0 0, .slice none 0 0, .slice none 0 0] 34)) (w.heap.size + 1) [.int .i64 0, .slice none 0 0, .int .i64 0, .int .i64 0, .int .i64 0, .slice none 0 0, .slice none 0 0, .bool false, .int .i64 0, .slice none 0 0, .slice none 0 0, .slice none 0 0] 34 := (Bk.alloc HR3.out (.cells #[.int .i64 7, .slice none 0 0, .int .i64 0, .int .i64 0, .int .i64 0, .slice none 0 0, .slice none 0 0, .bool false, .int .i64 0, .slice none 0 0, .slice none 0 0, .slice none 0 0] 34))
  have hX4 : Bk (w3.alloc (.cells #[.int .i64 7, .slice none 0 0, .int .i64 0, .int .i64 0, .int .i64 0, .slice none 0 0, .slice none 0 0, .bool false, .int .i64 0, .slice none 0 0, .slice none 0 0, .slice none 0 0] 34)) w.heap.size [.int .i64 kk, .int .i64 a, .int .i64 b, .string s, .string t, .slice A inn.length c] 39 := (Bk.alloc HX3.out (.cells #[.int .i64 7, .slice none 0 0, .int .i64 0, .int .i64 0, .int .i64 0, .slice none 0 0, .slice none 0 0, .bool false, .int .i64 0, .slice none 0 0, .slice none 0 0, .slice none 0 0] 34))
  have hL4 : Bk (w3.alloc (.cells #[.int .i64 7, .slice none 0 0, .int .i64 0, .int .i64 0, .int .i64 0, .slice none 0 0, .slice none 0 0, .bool false, .int .i64 0, .slice none 0 0, .slice none 0 0, .slice none 0 0] 34)) (w.heap.size + 2) [.int .i64 3, .int .i64 2, .int .i64 5, .int .i64 2, .int .i64 6, .int .i64 2, .int .i64 4, .int .i64 8, .int .i64 9, .int .i64 7, .int .i64 10, .int .i64 2] 3 := (Bk.alloc HL3.out (.cells #[.int .i64 7, .slice none 0 0, .int .i64 0, .int .i64 0, .int .i64 0, .slice none 0 0, .slice none 0 0, .bool false, .int .i64 0, .slice none 0 0, .slice none 0 0, .slice none 0 0] 34))
  have hT4 : Bk (w3.alloc (.cells #[.int .i64 7, .slice none 0 0, .int .i64 0, .int .i64 0, .int .i64 0, .slice none 0 0, .slice none 0 0, .bool false, .int .i64 0, .slice none 0 0, .slice none 0 0, .slice none 0 0] 34)) (w.heap.size + 3) [.int .i64 7, .slice none 0 0, .int .i64 0, .int .i64 0, .int .i64 0, .slice none 0 0, .slice none 0 0, .bool false, .int .i64 0, .slice none 0 0, .slice none 0 0, .slice none 0 0] 34 := (bk_newN (w3) (w.heap.size + 3) [.int .i64 7, .slice none 0 0, .int .i64 0, .int .i64 0, .int .i64 0, .slice none 0 0, .slice none 0 0, .bool false, .int .i64 0, .slice none 0 0, .slice none 0 0, .slice none 0 0] 34 (by first | omega | (simp; done) | (simp; omega)))
  have hb4 : Below w.heap.size w (w3.alloc (.cells #[.int .i64 7, .slice none 0 0, .int .i64 0, .int .i64 0, .int .i64 0, .slice none 0 0, .slice none 0 0, .bool false, .int .i64 0, .slice none 0 0, .slice none 0 0, .slice none 0 0] 34)) := (bal HB3.out _)
  have HR4 := Lib.hid hR4
  have HX4 := Lib.hid hX4
  have HL4 := Lib.hid hL4
  have HT4 := Lib.hid hT4
  have HB4 := Lib.hid hb4
  clear hR4 hX4 hL4 hT4 hb4 HR3 HX3 HL3 HB3
  generalize w3.alloc (.cells #[.int .i64 7, .slice none 0 0, .int .i64 0, .int .i64 0, .int .i64 0, .slice none 0 0, .slice none 0 0, .bool false, .int .i64 0, .slice none 0 0, .slice none 0 0, .slice none 0 0] 34) = w4 at *
  have x3 := HX4.out.cell 3 _ rfl
  have f1 := (Bk.alloc HT4.out (.cells #[.string (shortS s)] 9)).frozen 1
  have y1 := (Bk.alloc HT4.out (.cells #[.string (shortS s)] 9)).cell 1 _ rfl
  go_upto_region 22 with (go_at_call 29; refine (SS _).mono ?_; rintro e w' ⟨rfl, rfl⟩)
  have hs5 : ((w4.setCell ⟨(w.heap.size + 3), 1, none⟩ (.slice (some ⟨w.heap.size + 4, 0, none⟩) 1 1)).alloc (.cells #[.string (shortS s)] 9)).heap.size = w.heap.size + 5 := by first | (simp; done) | (simp; omega)
  have hR5 : Bk ((w4.setCell ⟨(w.heap.size + 3), 1, none⟩ (.slice (some ⟨w.heap.size + 4, 0, none⟩) 1 1)).alloc (.cells #[.string (shortS s)] 9)) (w.heap.size + 1) [.int .i64 0, .slice none 0 0, .int .i64 0, .int .i64 0, .int .i64 0, .slice none 0 0, .slice none 0 0, .bool false, .int .i64 0, .slice none 0 0, .slice none 0 0, .slice none 0 0] 34 := (Bk.alloc (Bk.other (c := (w.heap.size + 3)) HR4.out (by omega) 1 (.slice (some ⟨w.heap.size + 4, 0, none⟩) 1 1)) (.cells #[.string (shortS s)] 9))
  have hX5 : Bk ((w4.setCell ⟨(w.heap.size + 3), 1, none⟩ (.slice (some ⟨w.heap.size + 4, 0, none⟩) 1 1)).alloc (.cells #[.string (shortS s)] 9)) w.heap.size [.int .i64 kk, .int .i64 a, .int .i64 b, .string s, .string t, .slice A inn.length c] 39 := (Bk.alloc (Bk.other (c := (w.heap.size + 3)) HX4.out (by omega) 1 (.slice (some ⟨w.heap.size + 4, 0, none⟩) 1 1)) (.cells #[.string (shortS s)] 9))
  have hL5 : Bk ((w4.setCell ⟨(w.heap.size + 3), 1, none⟩ (.slice (some ⟨w.heap.size + 4, 0, none⟩) 1 1)).alloc (.cells #[.string (shortS s)] 9)) (w.heap.size + 2) [.int .i64 3, .int .i64 2, .int .i64 5, .int .i64 2, .int .i64 6, .int .i64 2, .int .i64 4, .int .i64 8, .int .i64 9, .int .i64 7, .int .i64 10, .int .i64 2] 3 := (Bk.alloc (Bk.other (c := (w.heap.size + 3)) HL4.out (by omega) 1 (.slice (some ⟨w.heap.size + 4, 0, none⟩) 1 1)) (.cells #[.string (shortS s)] 9))
  have hT5 : Bk ((w4.setCell ⟨(w.heap.size + 3), 1, none⟩ (.slice (some ⟨w.heap.size + 4, 0, none⟩) 1 1)).alloc (.cells #[.string (shortS s)] 9)) (w.heap.size + 3) [.int .i64 7, .slice (some ⟨w.heap.size + 4, 0, none⟩) 1 1, .int .i64 0, .int .i64 0, .int .i64 0, .slice none 0 0, .slice none 0 0, .bool false, .int .i64 0, .slice none 0 0, .slice none 0 0, .slice none 0 0] 34 := (Bk.alloc (Bk.set HT4.out 1 (.slice (some ⟨w.heap.size + 4, 0, none⟩) 1 1)) (.cells #[.string (shortS s)] 9))
  have hN5 : Bk ((w4.setCell ⟨(w.heap.size + 3), 1, none⟩ (.slice (some ⟨w.heap.size + 4, 0, none⟩) 1 1)).alloc (.cells #[.string (shortS s)] 9)) (w.heap.size + 4) [.string (shortS s)] 9 := (bk_newN ((w4.setCell ⟨(w.heap.size + 3), 1, none⟩ (.slice (some ⟨w.heap.size + 4, 0, none⟩) 1 1))) (w.heap.size + 4) [.string (shortS s)] 9 (by first | omega | (simp; done) | (simp; omega)))
  have hb5 : Below w.heap.size w ((w4.setCell ⟨(w.heap.size + 3), 1, none⟩ (.slice (some ⟨w.heap.size + 4, 0, none⟩) 1 1)).alloc (.cells #[.string (shortS s)] 9)) := (bal (Below.setCell (p := ⟨(w.heap.size + 3), 1, none⟩) HB4.out (Nat.le_add_right _ _) (.slice (some ⟨w.heap.size + 4, 0, none⟩) 1 1)) _)
  have HR5 := Lib.hid hR5
  have HX5 := Lib.hid hX5
  have HL5 := Lib.hid hL5
  have HT5 := Lib.hid hT5
  have HN5 := Lib.hid hN5
  have HB5 := Lib.hid hb5
  clear hR5 hX5 hL5 hT5 hN5 hb5 HR4 HX4 HL4 HT4 HB4
  generalize (w4.setCell ⟨(w.heap.size + 3), 1, none⟩ (.slice (some ⟨w.heap.size + 4, 0, none⟩) 1 1)).alloc (.cells #[.string (shortS s)] 9) = w5 at *
  clear x3 f1 y1
  have x0 := HT5.out.cell 0 _ rfl
  have x1 := HT5.out.cell 1 _ rfl
  have x2 := HT5.out.cell 2 _ rfl
  have x3 := HT5.out.cell 3 _ rfl
  have x4 := HT5.out.cell 4 _ rfl
  have x5 := HT5.out.cell 5 _ rfl
  have x6 := HT5.out.cell 6 _ rfl
  have x7 := HT5.out.cell 7 _ rfl
  have x8 := HT5.out.cell 8 _ rfl
  have x9 := HT5.out.cell 9 _ rfl
  have x10 := HT5.out.cell 10 _ rfl
  have x11 := HT5.out.cell 11 _ rfl
  have f0 := HR5.out.frozen 0
  have y0 := HR5.out.cell 0 _ rfl
  have f1 := HR5.out.frozen 1
  have y1 := HR5.out.cell 1 _ rfl
  have f2 := HR5.out.frozen 2
  have y2 := HR5.out.cell 2 _ rfl
  have f3 := HR5.out.frozen 3
  have y3 := HR5.out.cell 3 _ rfl
  have f4 := HR5.out.frozen 4
  have y4 := HR5.out.cell 4 _ rfl
  have f5 := HR5.out.frozen 5
  have y5 := HR5.out.cell 5 _ rfl
  have f6 := HR5.out.frozen 6
  have y6 := HR5.out.cell 6 _ rfl
  have f7 := HR5.out.frozen 7
  have y7 := HR5.out.cell 7 _ rfl
  have f8 := HR5.out.frozen 8
  have y8 := HR5.out.cell 8 _ rfl
  have f9 := HR5.out.frozen 9
  have y9 := HR5.out.cell 9 _ rfl
  have f10 := HR5.out.frozen 10
  have y10 := HR5.out.cell 10 _ rfl
  have f11 := HR5.out.frozen 11
  have y11 := HR5.out.cell 11 _ rfl
  go_wp2_with fail
  have hbk := bk_eq (cs' := [.int .i64 7, .slice (some ⟨w.heap.size + 4, 0, none⟩) 1 1, .int .i64 0, .int .i64 0, .int .i64 0, .slice none 0 0, .slice none 0 0, .bool false, .int .i64 0, .slice none 0 0, .slice none 0 0, .slice none 0 0]) (Bk.set (Bk.set (Bk.set (Bk.set (Bk.set (Bk.set (Bk.set (Bk.set (Bk.set (Bk.set (Bk.set (Bk.set HR5.out 0 _) 1 _) 2 _) 3 _) 4 _) 5 _) 6 _) 7 _) 8 _) 9 _) 10 _) 11 _) rfl
  refine bodyPost_ret (results_cell_row rfl _ _ (w.heap.size + 1) 34 #[.int .i64 7, .slice (some ⟨w.heap.size + 4, 0, none⟩) 1 1, .int .i64 0, .int .i64 0, .int .i64 0, .slice none 0 0, .slice none 0 0, .bool false, .int .i64 0, .slice none 0 0, .slice none 0 0, .slice none 0 0] (0, 0) _ rfl hbk Tryd.underlying34 rfl (by kernel_rfl)) rfl ⟨[.int .i64 7, .slice (some ⟨w.heap.size + 4, 0, none⟩) 1 1, .int .i64 0, .int .i64 0, .int .i64 0, .slice none 0 0, .slice none 0 0, .bool false, .int .i64 0, .slice none 0 0, .slice none 0 0, .slice none 0 0], rfl, fun W hN => ?_, ?_⟩
  · exact cmdV_leaf (txs := [_]) (txAt_one (Bk.neu (Bk.other (Bk.other (Bk.other (Bk.other (Bk.other (Bk.other (Bk.other (Bk.other (Bk.other (Bk.other (Bk.other (Bk.other HN5.out (by omega) 0 _) (by omega) 1 _) (by omega) 2 _) (by omega) 3 _) (by omega) 4 _) (by omega) 5 _) (by omega) 6 _) (by omega) 7 _) (by omega) 8 _) (by omega) 9 _) (by omega) 10 _) (by omega) 11 _) hN (by omega))) rfl
  · exact (Below.setCell (Below.setCell (Below.setCell (Below.setCell (Below.setCell (Below.setCell (Below.setCell (Below.setCell (Below.setCell (Below.setCell (Below.setCell (Below.setCell HB5.out (Nat.le_add_right _ _) _) (Nat.le_add_right _ _) _) (Nat.le_add_right _ _) _) (Nat.le_add_right _ _) _) (Nat.le_add_right _ _) _) (Nat.le_add_right _ _) _) (Nat.le_add_right _ _) _) (Nat.le_add_right _ _) _) (Nat.le_add_right _ _) _) (Nat.le_add_right _ _) _) (Nat.le_add_right _ _) _) (Nat.le_add_right _ _) _)
end Go.Proofs.YtgmnoemkdigafaaDoor
namespace Go.Proofs.YtgmnoemkdigafaaDoor
open Go.RowKit
set_option linter.unusedVariables false

set_option maxRecDepth 100000 in
set_option maxHeartbeats 8000000 in
theorem cmd_8 (kk a b : Int) (s t : ByteArray) (inn : List Stk) (A : Option Addr) (c : Nat) (d : Int) (w : World) (hd0 : 0 ≤ d) (hd : d ≤ 1000) (hP12 : pickN kk 12 = 7) (hB : StkB kk a b s t inn.length c) (hA : StksAt w inn A) :
    Calls Tryd.prog 47 #[.agg #[.int .i64 kk, .int .i64 a, .int .i64 b, .string s, .string t, .slice A inn.length c], .int .i64 d] w fun e w' => ∃ tv, e = .returned (.agg (List.toArray tv)) ∧ (∀ W, New w.heap.size w' W → CmdV W (leafC 8 (.mk kk a b s t inn)) tv) ∧ Below w.heap.size w w' := by
  obtain ⟨wk, wa, wb, ws, wt, hc1, hc2⟩ := hB
  unfold maxLen at ws wt hc2
  have hX := Bk.new w [.int .i64 kk, .int .i64 a, .int .i64 b, .string s, .string t, .slice A inn.length c] 39
  have hbx : Below w.heap.size w (w.alloc (.cells #[.int .i64 kk, .int .i64 a, .int .i64 b, .string s, .string t, .slice A inn.length c] 39)) := bal (Below.refl _ _) _
  have HX := Lib.hid hX
  have Hbx := Lib.hid hbx
  clear hX hbx
  have P12 : ∀ W : World, Calls Tryd.prog 13 #[.int .i64 kk, .int .i64 12] W fun e w' => e = .returned (.int .i64 ((7 : Nat) : Int)) ∧ W = w' := fun W => by
    have h := picked_calls kk 12 W wk (by decide) (by decide)
    rw [hP12] at h
    exact h
  have lam := pickN_lt a 3 (by decide)
  have hw1 : IntKind.i64.wrap 1 = 1 := by decide
  have hw2 : IntKind.i64.wrap 2 = 2 := by decide
  have hw3 : IntKind.i64.wrap 3 = 3 := by decide
  go_enter Tryd.func47, Tryd.ntmps47
  go_upto_region 1 with fail
  have hR := Bk.new (w.alloc (.cells #[.int .i64 kk, .int .i64 a, .int .i64 b, .string s, .string t, .slice A inn.length c] 39)) [.int .i64 0, .slice none 0 0, .int .i64 0, .int .i64 0, .int .i64 0, .slice none 0 0, .slice none 0 0, .bool false, .int .i64 0, .slice none 0 0, .slice none 0 0, .slice none 0 0] 34
  have hX2 := HX.out.alloc (.cells #[.int .i64 0, .slice none 0 0, .int .i64 0, .int .i64 0, .int .i64 0, .slice none 0 0, .slice none 0 0, .bool false, .int .i64 0, .slice none 0 0, .slice none 0 0, .slice none 0 0] 34)
  have hb2 := bal Hbx.out (.cells #[.int .i64 0, .slice none 0 0, .int .i64 0, .int .i64 0, .int .i64 0, .slice none 0 0, .slice none 0 0, .bool false, .int .i64 0, .slice none 0 0, .slice none 0 0, .slice none 0 0] 34)
  have hs1 : (w.alloc (.cells #[.int .i64 kk, .int .i64 a, .int .i64 b, .string s, .string t, .slice A inn.length c] 39)).heap.size = w.heap.size + 1 := by simp
  rw [hs1] at hR
  have hs2 : ((w.alloc (.cells #[.int .i64 kk, .int .i64 a, .int .i64 b, .string s, .string t, .slice A inn.length c] 39)).alloc (.cells #[.int .i64 0, .slice none 0 0, .int .i64 0, .int .i64 0, .int .i64 0, .slice none 0 0, .slice none 0 0, .bool false, .int .i64 0, .slice none 0 0, .slice none 0 0, .slice none 0 0] 34)).heap.size = w.heap.size + 2 := by simp
  have HR := Lib.hid hR
  have HX2 := Lib.hid hX2
  have Hb2 := Lib.hid hb2
  clear hR hX2 hb2 hs1 HX Hbx
  generalize (w.alloc (.cells #[.int .i64 kk, .int .i64 a, .int .i64 b, .string s, .string t, .slice A inn.length c] 39)).alloc (.cells #[.int .i64 0, .slice none 0 0, .int .i64 0, .int .i64 0, .int .i64 0, .slice none 0 0, .slice none 0 0, .bool false, .int .i64 0, .slice none 0 0, .slice none 0 0, .slice none 0 0] 34) = w2 at *
  have x0 := HX2.out.cell 0 _ rfl
  go_upto_region 2 with (go_at_call 13; refine (P12 _).mono ?_; rintro e w' ⟨rfl, rfl⟩)
  clear P12 x0
  have hs3 : (w2.alloc (.cells #[.int .i64 3, .int .i64 2, .int .i64 5, .int .i64 2, .int .i64 6, .int .i64 2, .int .i64 4, .int .i64 8, .int .i64 9, .int .i64 7, .int .i64 10, .int .i64 2] 3)).heap.size = w.heap.size + 3 := by first | (simp; done) | (simp; omega)
  have hR3 : Bk (w2.alloc (.cells #[.int .i64 3, .int .i64 2, .int .i64 5, .int .i64 2, .int .i64 6, .int .i64 2, .int .i64 4, .int .i64 8, .int .i64 9, .int .i64 7, .int .i64 10, .int .i64 2] 3)) (w.heap.size + 1) [.int .i64 0, .slice none 0 0, .int .i64 0, .int .i64 0, .int .i64 0, .slice none 0 0, .slice none 0 0, .bool false, .int .i64 0, .slice none 0 0, .slice none 0 0, .slice none 0 0] 34 := (Bk.alloc HR.out (.cells #[.int .i64 3, .int .i64 2, .int .i64 5, .int .i64 2, .int .i64 6, .int .i64 2, .int .i64 4, .int .i64 8, .int .i64 9, .int .i64 7, .int .i64 10, .int .i64 2] 3))
  have hX3 : Bk (w2.alloc (.cells #[.int .i64 3, .int .i64 2, .int .i64 5, .int .i64 2, .int .i64 6, .int .i64 2, .int .i64 4, .int .i64 8, .int .i64 9, .int .i64 7, .int .i64 10, .int .i64 2] 3)) w.heap.size [.int .i64 kk, .int .i64 a, .int .i64 b, .string s, .string t, .slice A inn.length c] 39 := (Bk.alloc HX2.out (.cells #[.int .i64 3, .int .i64 2, .int .i64 5, .int .i64 2, .int .i64 6, .int .i64 2, .int .i64 4, .int .i64 8, .int .i64 9, .int .i64 7, .int .i64 10, .int .i64 2] 3))
  have hL3 : Bk (w2.alloc (.cells #[.int .i64 3, .int .i64 2, .int .i64 5, .int .i64 2, .int .i64 6, .int .i64 2, .int .i64 4, .int .i64 8, .int .i64 9, .int .i64 7, .int .i64 10, .int .i64 2] 3)) (w.heap.size + 2) [.int .i64 3, .int .i64 2, .int .i64 5, .int .i64 2, .int .i64 6, .int .i64 2, .int .i64 4, .int .i64 8, .int .i64 9, .int .i64 7, .int .i64 10, .int .i64 2] 3 := (bk_newN (w2) (w.heap.size + 2) [.int .i64 3, .int .i64 2, .int .i64 5, .int .i64 2, .int .i64 6, .int .i64 2, .int .i64 4, .int .i64 8, .int .i64 9, .int .i64 7, .int .i64 10, .int .i64 2] 3 (by first | omega | (simp; done) | (simp; omega)))
  have hb3 : Below w.heap.size w (w2.alloc (.cells #[.int .i64 3, .int .i64 2, .int .i64 5, .int .i64 2, .int .i64 6, .int .i64 2, .int .i64 4, .int .i64 8, .int .i64 9, .int .i64 7, .int .i64 10, .int .i64 2] 3)) := (bal Hb2.out _)
  have HR3 := Lib.hid hR3
  have HX3 := Lib.hid hX3
  have HL3 := Lib.hid hL3
  have HB3 := Lib.hid hb3
  clear hR3 hX3 hL3 hb3 HR HX2 Hb2
  generalize w2.alloc (.cells #[.int .i64 3, .int .i64 2, .int .i64 5, .int .i64 2, .int .i64 6, .int .i64 2, .int .i64 4, .int .i64 8, .int .i64 9, .int .i64 7, .int .i64 10, .int .i64 2] 3) = w3 at *
  go_upto_region 5 with fail
  have hs4 : (w3.alloc (.cells #[.int .i64 8, .slice none 0 0, .int .i64 0, .int .i64 0, .int .i64 0, .slice none 0 0, .slice none 0 0, .bool false, .int .i64 0, .slice none 0 0, .slice none 0 0, .slice none 0 0] 34)).heap.size = w.heap.size + 4 := by first | (simp; done) | (simp; omega)
  have hR4 : Bk (w3.alloc (.cells #[.int .i64 8, .slice none 0 0, .int .i64 0, .int .i64 0, .int .i64 0, .slice none 0 0, .slice none 0 0, .bool false, .int .i64 0, .slice none 0 0, .slice none 0 0, .slice none 0 0] 34)) (w.heap.size + 1) [.int .i64 0, .slice none 0 0, .int .i64 0, .int .i64 0, .int .i64 0, .slice none 0 0, .slice none 0 0, .bool false, .int .i64 0, .slice none 0 0, .slice none 0 0, .slice none 0 0] 34 := (Bk.alloc HR3.out (.cells #[.int .i64 8, .slice none 0 0, .int .i64 0, .int .i64 0, .int .i64 0, .slice none 0 0, .slice none 0 0, .bool false, .int .i64 0, .slice none 0 0, .slice none 0 0, .slice none 0 0] 34))
  have hX4 : Bk (w3.alloc (.cells #[.int .i64 8, .slice none 0 0, .int .i64 0, .int .i64 0, .int .i64 0, .slice none 0 0, .slice none 0 0, .bool false, .int .i64 0, .slice none 0 0, .slice none 0 0, .slice none 0 0] 34)) w.heap.size [.int .i64 kk, .int .i64 a, .int .i64 b, .string s, .string t, .slice A inn.length c] 39 := (Bk.alloc HX3.out (.cells #[.int .i64 8, .slice none 0 0, .int .i64 0, .int .i64 0, .int .i64 0, .slice none 0 0, .slice none 0 0, .bool false, .int .i64 0, .slice none 0 0, .slice none 0 0, .slice none 0 0] 34))
  have hL4 : Bk (w3.alloc (.cells #[.int .i64 8, .slice none 0 0, .int .i64 0, .int .i64 0, .int .i64 0, .slice none 0 0, .slice none 0 0, .bool false, .int .i64 0, .slice none 0 0, .slice none 0 0, .slice none 0 0] 34)) (w.heap.size + 2) [.int .i64 3, .int .i64 2, .int .i64 5, .int .i64 2, .int .i64 6, .int .i64 2, .int .i64 4, .int .i64 8, .int .i64 9, .int .i64 7, .int .i64 10, .int .i64 2] 3 := (Bk.alloc HL3.out (.cells #[.int .i64 8, .slice none 0 0, .int .i64 0, .int .i64 0, .int .i64 0, .slice none 0 0, .slice none 0 0, .bool false, .int .i64 0, .slice none 0 0, .slice none 0 0, .slice none 0 0] 34))
  have hT4 : Bk (w3.alloc (.cells #[.int .i64 8, .slice none 0 0, .int .i64 0, .int .i64 0, .int .i64 0, .slice none 0 0, .slice none 0 0, .bool false, .int .i64 0, .slice none 0 0, .slice none 0 0, .slice none 0 0] 34)) (w.heap.size + 3) [.int .i64 8, .slice none 0 0, .int .i64 0, .int .i64 0, .int .i64 0, .slice none 0 0, .slice none 0 0, .bool false, .int .i64 0, .slice none 0 0, .slice none 0 0, .slice none 0 0] 34 := (bk_newN (w3) (w.heap.size + 3) [.int .i64 8, .slice none 0 0, .int .i64 0, .int .i64 0, .int .i64 0, .slice none 0 0, .slice none 0 0, .bool false, .int .i64 0, .slice none 0 0, .slice none 0 0, .slice none 0 0] 34 (by first | omega | (simp; done) | (simp; omega)))
  have hb4 : Below w.heap.size w (w3.alloc (.cells #[.int .i64 8, .slice none 0 0, .int .i64 0, .int .i64 0, .int .i64 0, .slice none 0 0, .slice none 0 0, .bool false, .int .i64 0, .slice none 0 0, .slice none 0 0, .slice none 0 0] 34)) := (bal HB3.out _)
  have HR4 := Lib.hid hR4
  have HX4 := Lib.hid hX4
  have HL4 := Lib.hid hL4
  have HT4 := Lib.hid hT4
  have HB4 := Lib.hid hb4
  clear hR4 hX4 hL4 hT4 hb4 HR3 HX3 HL3 HB3
  generalize w3.alloc (.cells #[.int .i64 8, .slice none 0 0, .int .i64 0, .int .i64 0, .int .i64 0, .slice none 0 0, .slice none 0 0, .bool false, .int .i64 0, .slice none 0 0, .slice none 0 0, .slice none 0 0] 34) = w4 at *
  have hu : pickN a 3 = 0 ∨ pickN a 3 = 1 ∨ pickN a 3 = 2 := by omega
  rcases hu with hPA | hPA | hPA
  · have PA : ∀ W : World, Calls Tryd.prog 13 #[.int .i64 a, .int .i64 3] W fun e w' => e = .returned (.int .i64 ((0 : Nat) : Int)) ∧ W = w' := fun W => by
      have h := picked_calls a 3 W wa (by decide) (by decide)
      rw [hPA] at h
      exact h
    have x1 := HX4.out.cell 1 _ rfl
    have f1 := (Bk.alloc HT4.out (.cells #[.string ⟨#[92, 83, 101, 101, 110]⟩, .string ⟨#[92, 68, 114, 97, 102, 116]⟩, .string ⟨#[92, 70, 108, 97, 103, 103, 101, 100]⟩] 9)).frozen 1
    have y1 := (Bk.alloc HT4.out (.cells #[.string ⟨#[92, 83, 101, 101, 110]⟩, .string ⟨#[92, 68, 114, 97, 102, 116]⟩, .string ⟨#[92, 70, 108, 97, 103, 103, 101, 100]⟩] 9)).cell 1 _ rfl
    go_upto_region 21 with fail
    go_region_held3 (fun W => W.cell? ⟨w.heap.size, 1, none⟩ = some (.int .i64 a)) (go_keep) (first
      | (go_at_call 13; with_reducible refine (PA _).mono ?_; rintro e w' ⟨rfl, rfl⟩))
    all_goals (
      clear x1 f1 y1
      have hs5 : (((w4.setCell ⟨(w.heap.size + 3), 1, none⟩ (.slice (some ⟨w.heap.size + 4, 0, none⟩) 1 3)).alloc (.cells #[.string ⟨#[92, 83, 101, 101, 110]⟩, .string ⟨#[92, 68, 114, 97, 102, 116]⟩, .string ⟨#[92, 70, 108, 97, 103, 103, 101, 100]⟩] 9)).drew).heap.size = w.heap.size + 5 := by first | (simp; done) | (simp; omega)
      have hR5 : Bk (((w4.setCell ⟨(w.heap.size + 3), 1, none⟩ (.slice (some ⟨w.heap.size + 4, 0, none⟩) 1 3)).alloc (.cells #[.string ⟨#[92, 83, 101, 101, 110]⟩, .string ⟨#[92, 68, 114, 97, 102, 116]⟩, .string ⟨#[92, 70, 108, 97, 103, 103, 101, 100]⟩] 9)).drew) (w.heap.size + 1) [.int .i64 0, .slice none 0 0, .int .i64 0, .int .i64 0, .int .i64 0, .slice none 0 0, .slice none 0 0, .bool false, .int .i64 0, .slice none 0 0, .slice none 0 0, .slice none 0 0] 34 := (Bk.drew (Bk.alloc (Bk.other (c := (w.heap.size + 3)) HR4.out (by omega) 1 (.slice (some ⟨w.heap.size + 4, 0, none⟩) 1 3)) (.cells #[.string ⟨#[92, 83, 101, 101, 110]⟩, .string ⟨#[92, 68, 114, 97, 102, 116]⟩, .string ⟨#[92, 70, 108, 97, 103, 103, 101, 100]⟩] 9)))
      have hX5 : Bk (((w4.setCell ⟨(w.heap.size + 3), 1, none⟩ (.slice (some ⟨w.heap.size + 4, 0, none⟩) 1 3)).alloc (.cells #[.string ⟨#[92, 83, 101, 101, 110]⟩, .string ⟨#[92, 68, 114, 97, 102, 116]⟩, .string ⟨#[92, 70, 108, 97, 103, 103, 101, 100]⟩] 9)).drew) w.heap.size [.int .i64 kk, .int .i64 a, .int .i64 b, .string s, .string t, .slice A inn.length c] 39 := (Bk.drew (Bk.alloc (Bk.other (c := (w.heap.size + 3)) HX4.out (by omega) 1 (.slice (some ⟨w.heap.size + 4, 0, none⟩) 1 3)) (.cells #[.string ⟨#[92, 83, 101, 101, 110]⟩, .string ⟨#[92, 68, 114, 97, 102, 116]⟩, .string ⟨#[92, 70, 108, 97, 103, 103, 101, 100]⟩] 9)))
      have hL5 : Bk (((w4.setCell ⟨(w.heap.size + 3), 1, none⟩ (.slice (some ⟨w.heap.size + 4, 0, none⟩) 1 3)).alloc (.cells #[.string ⟨#[92, 83, 101, 101, 110]⟩, .string ⟨#[92, 68, 114, 97, 102, 116]⟩, .string ⟨#[92, 70, 108, 97, 103, 103, 101, 100]⟩] 9)).drew) (w.heap.size + 2) [.int .i64 3, .int .i64 2, .int .i64 5, .int .i64 2, .int .i64 6, .int .i64 2, .int .i64 4, .int .i64 8, .int .i64 9, .int .i64 7, .int .i64 10, .int .i64 2] 3 := (Bk.drew (Bk.alloc (Bk.other (c := (w.heap.size + 3)) HL4.out (by omega) 1 (.slice (some ⟨w.heap.size + 4, 0, none⟩) 1 3)) (.cells #[.string ⟨#[92, 83, 101, 101, 110]⟩, .string ⟨#[92, 68, 114, 97, 102, 116]⟩, .string ⟨#[92, 70, 108, 97, 103, 103, 101, 100]⟩] 9)))
      have hT5 : Bk (((w4.setCell ⟨(w.heap.size + 3), 1, none⟩ (.slice (some ⟨w.heap.size + 4, 0, none⟩) 1 3)).alloc (.cells #[.string ⟨#[92, 83, 101, 101, 110]⟩, .string ⟨#[92, 68, 114, 97, 102, 116]⟩, .string ⟨#[92, 70, 108, 97, 103, 103, 101, 100]⟩] 9)).drew) (w.heap.size + 3) [.int .i64 8, .slice (some ⟨w.heap.size + 4, 0, none⟩) 1 3, .int .i64 0, .int .i64 0, .int .i64 0, .slice none 0 0, .slice none 0 0, .bool false, .int .i64 0, .slice none 0 0, .slice none 0 0, .slice none 0 0] 34 := (Bk.drew (Bk.alloc (Bk.set HT4.out 1 (.slice (some ⟨w.heap.size + 4, 0, none⟩) 1 3)) (.cells #[.string ⟨#[92, 83, 101, 101, 110]⟩, .string ⟨#[92, 68, 114, 97, 102, 116]⟩, .string ⟨#[92, 70, 108, 97, 103, 103, 101, 100]⟩] 9)))
      have hF5 : Bk (((w4.setCell ⟨(w.heap.size + 3), 1, none⟩ (.slice (some ⟨w.heap.size + 4, 0, none⟩) 1 3)).alloc (.cells #[.string ⟨#[92, 83, 101, 101, 110]⟩, .string ⟨#[92, 68, 114, 97, 102, 116]⟩, .string ⟨#[92, 70, 108, 97, 103, 103, 101, 100]⟩] 9)).drew) (w.heap.size + 4) [.string ⟨#[92, 83, 101, 101, 110]⟩, .string ⟨#[92, 68, 114, 97, 102, 116]⟩, .string ⟨#[92, 70, 108, 97, 103, 103, 101, 100]⟩] 9 := (Bk.drew (bk_newN ((w4.setCell ⟨(w.heap.size + 3), 1, none⟩ (.slice (some ⟨w.heap.size + 4, 0, none⟩) 1 3))) (w.heap.size + 4) [.string ⟨#[92, 83, 101, 101, 110]⟩, .string ⟨#[92, 68, 114, 97, 102, 116]⟩, .string ⟨#[92, 70, 108, 97, 103, 103, 101, 100]⟩] 9 (by first | omega | (simp; done) | (simp; omega))))
      have hb5 : Below w.heap.size w (((w4.setCell ⟨(w.heap.size + 3), 1, none⟩ (.slice (some ⟨w.heap.size + 4, 0, none⟩) 1 3)).alloc (.cells #[.string ⟨#[92, 83, 101, 101, 110]⟩, .string ⟨#[92, 68, 114, 97, 102, 116]⟩, .string ⟨#[92, 70, 108, 97, 103, 103, 101, 100]⟩] 9)).drew) := (Below.drew (bal (Below.setCell (p := ⟨(w.heap.size + 3), 1, none⟩) HB4.out (Nat.le_add_right _ _) (.slice (some ⟨w.heap.size + 4, 0, none⟩) 1 3)) _))
      have HR5 := Lib.hid hR5
      have HX5 := Lib.hid hX5
      have HL5 := Lib.hid hL5
      have HT5 := Lib.hid hT5
      have HF5 := Lib.hid hF5
      have HB5 := Lib.hid hb5
      clear hR5 hX5 hL5 hT5 hF5 hb5 HR4 HX4 HL4 HT4 HB4
      generalize ((w4.setCell ⟨(w.heap.size + 3), 1, none⟩ (.slice (some ⟨w.heap.size + 4, 0, none⟩) 1 3)).alloc (.cells #[.string ⟨#[92, 83, 101, 101, 110]⟩, .string ⟨#[92, 68, 114, 97, 102, 116]⟩, .string ⟨#[92, 70, 108, 97, 103, 103, 101, 100]⟩] 9)).drew = w5 at *
      have hfl : flgN a = mkS [92, 83, 101, 101, 110] := by unfold flgN; rw [hPA]; rfl
      go_upto_region 22 with fail
      have x0 := HT5.out.cell 0 _ rfl
      have x1 := HT5.out.cell 1 _ rfl
      have x2 := HT5.out.cell 2 _ rfl
      have x3 := HT5.out.cell 3 _ rfl
      have x4 := HT5.out.cell 4 _ rfl
      have x5 := HT5.out.cell 5 _ rfl
      have x6 := HT5.out.cell 6 _ rfl
      have x7 := HT5.out.cell 7 _ rfl
      have x8 := HT5.out.cell 8 _ rfl
      have x9 := HT5.out.cell 9 _ rfl
      have x10 := HT5.out.cell 10 _ rfl
      have x11 := HT5.out.cell 11 _ rfl
      have f0 := HR5.out.frozen 0
      have y0 := HR5.out.cell 0 _ rfl
      have f1 := HR5.out.frozen 1
      have y1 := HR5.out.cell 1 _ rfl
      have f2 := HR5.out.frozen 2
      have y2 := HR5.out.cell 2 _ rfl
      have f3 := HR5.out.frozen 3
      have y3 := HR5.out.cell 3 _ rfl
      have f4 := HR5.out.frozen 4
      have y4 := HR5.out.cell 4 _ rfl
      have f5 := HR5.out.frozen 5
      have y5 := HR5.out.cell 5 _ rfl
      have f6 := HR5.out.frozen 6
      have y6 := HR5.out.cell 6 _ rfl
      have f7 := HR5.out.frozen 7
      have y7 := HR5.out.cell 7 _ rfl
      have f8 := HR5.out.frozen 8
      have y8 := HR5.out.cell 8 _ rfl
      have f9 := HR5.out.frozen 9
      have y9 := HR5.out.cell 9 _ rfl
      have f10 := HR5.out.frozen 10
      have y10 := HR5.out.cell 10 _ rfl
      have f11 := HR5.out.frozen 11
      have y11 := HR5.out.cell 11 _ rfl
      go_wp2_with fail
      have hbk := bk_eq (cs' := [.int .i64 8, .slice (some ⟨w.heap.size + 4, 0, none⟩) 1 3, .int .i64 0, .int .i64 0, .int .i64 0, .slice none 0 0, .slice none 0 0, .bool false, .int .i64 0, .slice none 0 0, .slice none 0 0, .slice none 0 0]) (Bk.set (Bk.set (Bk.set (Bk.set (Bk.set (Bk.set (Bk.set (Bk.set (Bk.set (Bk.set (Bk.set (Bk.set HR5.out 0 _) 1 _) 2 _) 3 _) 4 _) 5 _) 6 _) 7 _) 8 _) 9 _) 10 _) 11 _) rfl
      refine bodyPost_ret (results_cell_row rfl _ _ (w.heap.size + 1) 34 #[.int .i64 8, .slice (some ⟨w.heap.size + 4, 0, none⟩) 1 3, .int .i64 0, .int .i64 0, .int .i64 0, .slice none 0 0, .slice none 0 0, .bool false, .int .i64 0, .slice none 0 0, .slice none 0 0, .slice none 0 0] (0, 0) _ rfl hbk Tryd.underlying34 rfl (by kernel_rfl)) rfl ⟨[.int .i64 8, .slice (some ⟨w.heap.size + 4, 0, none⟩) 1 3, .int .i64 0, .int .i64 0, .int .i64 0, .slice none 0 0, .slice none 0 0, .bool false, .int .i64 0, .slice none 0 0, .slice none 0 0, .slice none 0 0], rfl, fun W hN => ?_, ?_⟩
      · exact cmdV_leaf (txs := [flgN a]) (by rw [hfl]; exact txAt_at ((Bk.neu (Bk.other (Bk.other (Bk.other (Bk.other (Bk.other (Bk.other (Bk.other (Bk.other (Bk.other (Bk.other (Bk.other (Bk.other HF5.out (by omega) 0 _) (by omega) 1 _) (by omega) 2 _) (by omega) 3 _) (by omega) 4 _) (by omega) 5 _) (by omega) 6 _) (by omega) 7 _) (by omega) 8 _) (by omega) 9 _) (by omega) 10 _) (by omega) 11 _) hN (by omega)).cell 0 _ rfl)) rfl
      · exact (Below.setCell (Below.setCell (Below.setCell (Below.setCell (Below.setCell (Below.setCell (Below.setCell (Below.setCell (Below.setCell (Below.setCell (Below.setCell (Below.setCell HB5.out (Nat.le_add_right _ _) _) (Nat.le_add_right _ _) _) (Nat.le_add_right _ _) _) (Nat.le_add_right _ _) _) (Nat.le_add_right _ _) _) (Nat.le_add_right _ _) _) (Nat.le_add_right _ _) _) (Nat.le_add_right _ _) _) (Nat.le_add_right _ _) _) (Nat.le_add_right _ _) _) (Nat.le_add_right _ _) _) (Nat.le_add_right _ _) _))
  · have PA : ∀ W : World, Calls Tryd.prog 13 #[.int .i64 a, .int .i64 3] W fun e w' => e = .returned (.int .i64 ((1 : Nat) : Int)) ∧ W = w' := fun W => by
      have h := picked_calls a 3 W wa (by decide) (by decide)
      rw [hPA] at h
      exact h
    have x1 := HX4.out.cell 1 _ rfl
    have f1 := (Bk.alloc HT4.out (.cells #[.string ⟨#[92, 83, 101, 101, 110]⟩, .string ⟨#[92, 68, 114, 97, 102, 116]⟩, .string ⟨#[92, 70, 108, 97, 103, 103, 101, 100]⟩] 9)).frozen 1
    have y1 := (Bk.alloc HT4.out (.cells #[.string ⟨#[92, 83, 101, 101, 110]⟩, .string ⟨#[92, 68, 114, 97, 102, 116]⟩, .string ⟨#[92, 70, 108, 97, 103, 103, 101, 100]⟩] 9)).cell 1 _ rfl
    go_upto_region 21 with fail
    go_region_held3 (fun W => W.cell? ⟨w.heap.size, 1, none⟩ = some (.int .i64 a)) (go_keep) (first
      | (go_at_call 13; with_reducible refine (PA _).mono ?_; rintro e w' ⟨rfl, rfl⟩))
    all_goals (
      clear x1 f1 y1
      have hs5 : (((w4.setCell ⟨(w.heap.size + 3), 1, none⟩ (.slice (some ⟨w.heap.size + 4, 1, none⟩) 1 2)).alloc (.cells #[.string ⟨#[92, 83, 101, 101, 110]⟩, .string ⟨#[92, 68, 114, 97, 102, 116]⟩, .string ⟨#[92, 70, 108, 97, 103, 103, 101, 100]⟩] 9)).drew).heap.size = w.heap.size + 5 := by first | (simp; done) | (simp; omega)
      have hR5 : Bk (((w4.setCell ⟨(w.heap.size + 3), 1, none⟩ (.slice (some ⟨w.heap.size + 4, 1, none⟩) 1 2)).alloc (.cells #[.string ⟨#[92, 83, 101, 101, 110]⟩, .string ⟨#[92, 68, 114, 97, 102, 116]⟩, .string ⟨#[92, 70, 108, 97, 103, 103, 101, 100]⟩] 9)).drew) (w.heap.size + 1) [.int .i64 0, .slice none 0 0, .int .i64 0, .int .i64 0, .int .i64 0, .slice none 0 0, .slice none 0 0, .bool false, .int .i64 0, .slice none 0 0, .slice none 0 0, .slice none 0 0] 34 := (Bk.drew (Bk.alloc (Bk.other (c := (w.heap.size + 3)) HR4.out (by omega) 1 (.slice (some ⟨w.heap.size + 4, 1, none⟩) 1 2)) (.cells #[.string ⟨#[92, 83, 101, 101, 110]⟩, .string ⟨#[92, 68, 114, 97, 102, 116]⟩, .string ⟨#[92, 70, 108, 97, 103, 103, 101, 100]⟩] 9)))
      have hX5 : Bk (((w4.setCell ⟨(w.heap.size + 3), 1, none⟩ (.slice (some ⟨w.heap.size + 4, 1, none⟩) 1 2)).alloc (.cells #[.string ⟨#[92, 83, 101, 101, 110]⟩, .string ⟨#[92, 68, 114, 97, 102, 116]⟩, .string ⟨#[92, 70, 108, 97, 103, 103, 101, 100]⟩] 9)).drew) w.heap.size [.int .i64 kk, .int .i64 a, .int .i64 b, .string s, .string t, .slice A inn.length c] 39 := (Bk.drew (Bk.alloc (Bk.other (c := (w.heap.size + 3)) HX4.out (by omega) 1 (.slice (some ⟨w.heap.size + 4, 1, none⟩) 1 2)) (.cells #[.string ⟨#[92, 83, 101, 101, 110]⟩, .string ⟨#[92, 68, 114, 97, 102, 116]⟩, .string ⟨#[92, 70, 108, 97, 103, 103, 101, 100]⟩] 9)))
      have hL5 : Bk (((w4.setCell ⟨(w.heap.size + 3), 1, none⟩ (.slice (some ⟨w.heap.size + 4, 1, none⟩) 1 2)).alloc (.cells #[.string ⟨#[92, 83, 101, 101, 110]⟩, .string ⟨#[92, 68, 114, 97, 102, 116]⟩, .string ⟨#[92, 70, 108, 97, 103, 103, 101, 100]⟩] 9)).drew) (w.heap.size + 2) [.int .i64 3, .int .i64 2, .int .i64 5, .int .i64 2, .int .i64 6, .int .i64 2, .int .i64 4, .int .i64 8, .int .i64 9, .int .i64 7, .int .i64 10, .int .i64 2] 3 := (Bk.drew (Bk.alloc (Bk.other (c := (w.heap.size + 3)) HL4.out (by omega) 1 (.slice (some ⟨w.heap.size + 4, 1, none⟩) 1 2)) (.cells #[.string ⟨#[92, 83, 101, 101, 110]⟩, .string ⟨#[92, 68, 114, 97, 102, 116]⟩, .string ⟨#[92, 70, 108, 97, 103, 103, 101, 100]⟩] 9)))
      have hT5 : Bk (((w4.setCell ⟨(w.heap.size + 3), 1, none⟩ (.slice (some ⟨w.heap.size + 4, 1, none⟩) 1 2)).alloc (.cells #[.string ⟨#[92, 83, 101, 101, 110]⟩, .string ⟨#[92, 68, 114, 97, 102, 116]⟩, .string ⟨#[92, 70, 108, 97, 103, 103, 101, 100]⟩] 9)).drew) (w.heap.size + 3) [.int .i64 8, .slice (some ⟨w.heap.size + 4, 1, none⟩) 1 2, .int .i64 0, .int .i64 0, .int .i64 0, .slice none 0 0, .slice none 0 0, .bool false, .int .i64 0, .slice none 0 0, .slice none 0 0, .slice none 0 0] 34 := (Bk.drew (Bk.alloc (Bk.set HT4.out 1 (.slice (some ⟨w.heap.size + 4, 1, none⟩) 1 2)) (.cells #[.string ⟨#[92, 83, 101, 101, 110]⟩, .string ⟨#[92, 68, 114, 97, 102, 116]⟩, .string ⟨#[92, 70, 108, 97, 103, 103, 101, 100]⟩] 9)))
      have hF5 : Bk (((w4.setCell ⟨(w.heap.size + 3), 1, none⟩ (.slice (some ⟨w.heap.size + 4, 1, none⟩) 1 2)).alloc (.cells #[.string ⟨#[92, 83, 101, 101, 110]⟩, .string ⟨#[92, 68, 114, 97, 102, 116]⟩, .string ⟨#[92, 70, 108, 97, 103, 103, 101, 100]⟩] 9)).drew) (w.heap.size + 4) [.string ⟨#[92, 83, 101, 101, 110]⟩, .string ⟨#[92, 68, 114, 97, 102, 116]⟩, .string ⟨#[92, 70, 108, 97, 103, 103, 101, 100]⟩] 9 := (Bk.drew (bk_newN ((w4.setCell ⟨(w.heap.size + 3), 1, none⟩ (.slice (some ⟨w.heap.size + 4, 1, none⟩) 1 2))) (w.heap.size + 4) [.string ⟨#[92, 83, 101, 101, 110]⟩, .string ⟨#[92, 68, 114, 97, 102, 116]⟩, .string ⟨#[92, 70, 108, 97, 103, 103, 101, 100]⟩] 9 (by first | omega | (simp; done) | (simp; omega))))
      have hb5 : Below w.heap.size w (((w4.setCell ⟨(w.heap.size + 3), 1, none⟩ (.slice (some ⟨w.heap.size + 4, 1, none⟩) 1 2)).alloc (.cells #[.string ⟨#[92, 83, 101, 101, 110]⟩, .string ⟨#[92, 68, 114, 97, 102, 116]⟩, .string ⟨#[92, 70, 108, 97, 103, 103, 101, 100]⟩] 9)).drew) := (Below.drew (bal (Below.setCell (p := ⟨(w.heap.size + 3), 1, none⟩) HB4.out (Nat.le_add_right _ _) (.slice (some ⟨w.heap.size + 4, 1, none⟩) 1 2)) _))
      have HR5 := Lib.hid hR5
      have HX5 := Lib.hid hX5
      have HL5 := Lib.hid hL5
      have HT5 := Lib.hid hT5
      have HF5 := Lib.hid hF5
      have HB5 := Lib.hid hb5
      clear hR5 hX5 hL5 hT5 hF5 hb5 HR4 HX4 HL4 HT4 HB4
      generalize ((w4.setCell ⟨(w.heap.size + 3), 1, none⟩ (.slice (some ⟨w.heap.size + 4, 1, none⟩) 1 2)).alloc (.cells #[.string ⟨#[92, 83, 101, 101, 110]⟩, .string ⟨#[92, 68, 114, 97, 102, 116]⟩, .string ⟨#[92, 70, 108, 97, 103, 103, 101, 100]⟩] 9)).drew = w5 at *
      have hfl : flgN a = mkS [92, 68, 114, 97, 102, 116] := by unfold flgN; rw [hPA]; rfl
      go_upto_region 22 with fail
      have x0 := HT5.out.cell 0 _ rfl
      have x1 := HT5.out.cell 1 _ rfl
      have x2 := HT5.out.cell 2 _ rfl
      have x3 := HT5.out.cell 3 _ rfl
      have x4 := HT5.out.cell 4 _ rfl
      have x5 := HT5.out.cell 5 _ rfl
      have x6 := HT5.out.cell 6 _ rfl
      have x7 := HT5.out.cell 7 _ rfl
      have x8 := HT5.out.cell 8 _ rfl
      have x9 := HT5.out.cell 9 _ rfl
      have x10 := HT5.out.cell 10 _ rfl
      have x11 := HT5.out.cell 11 _ rfl
      have f0 := HR5.out.frozen 0
      have y0 := HR5.out.cell 0 _ rfl
      have f1 := HR5.out.frozen 1
      have y1 := HR5.out.cell 1 _ rfl
      have f2 := HR5.out.frozen 2
      have y2 := HR5.out.cell 2 _ rfl
      have f3 := HR5.out.frozen 3
      have y3 := HR5.out.cell 3 _ rfl
      have f4 := HR5.out.frozen 4
      have y4 := HR5.out.cell 4 _ rfl
      have f5 := HR5.out.frozen 5
      have y5 := HR5.out.cell 5 _ rfl
      have f6 := HR5.out.frozen 6
      have y6 := HR5.out.cell 6 _ rfl
      have f7 := HR5.out.frozen 7
      have y7 := HR5.out.cell 7 _ rfl
      have f8 := HR5.out.frozen 8
      have y8 := HR5.out.cell 8 _ rfl
      have f9 := HR5.out.frozen 9
      have y9 := HR5.out.cell 9 _ rfl
      have f10 := HR5.out.frozen 10
      have y10 := HR5.out.cell 10 _ rfl
      have f11 := HR5.out.frozen 11
      have y11 := HR5.out.cell 11 _ rfl
      go_wp2_with fail
      have hbk := bk_eq (cs' := [.int .i64 8, .slice (some ⟨w.heap.size + 4, 1, none⟩) 1 2, .int .i64 0, .int .i64 0, .int .i64 0, .slice none 0 0, .slice none 0 0, .bool false, .int .i64 0, .slice none 0 0, .slice none 0 0, .slice none 0 0]) (Bk.set (Bk.set (Bk.set (Bk.set (Bk.set (Bk.set (Bk.set (Bk.set (Bk.set (Bk.set (Bk.set (Bk.set HR5.out 0 _) 1 _) 2 _) 3 _) 4 _) 5 _) 6 _) 7 _) 8 _) 9 _) 10 _) 11 _) rfl
      refine bodyPost_ret (results_cell_row rfl _ _ (w.heap.size + 1) 34 #[.int .i64 8, .slice (some ⟨w.heap.size + 4, 1, none⟩) 1 2, .int .i64 0, .int .i64 0, .int .i64 0, .slice none 0 0, .slice none 0 0, .bool false, .int .i64 0, .slice none 0 0, .slice none 0 0, .slice none 0 0] (0, 0) _ rfl hbk Tryd.underlying34 rfl (by kernel_rfl)) rfl ⟨[.int .i64 8, .slice (some ⟨w.heap.size + 4, 1, none⟩) 1 2, .int .i64 0, .int .i64 0, .int .i64 0, .slice none 0 0, .slice none 0 0, .bool false, .int .i64 0, .slice none 0 0, .slice none 0 0, .slice none 0 0], rfl, fun W hN => ?_, ?_⟩
      · exact cmdV_leaf (txs := [flgN a]) (by rw [hfl]; exact txAt_at ((Bk.neu (Bk.other (Bk.other (Bk.other (Bk.other (Bk.other (Bk.other (Bk.other (Bk.other (Bk.other (Bk.other (Bk.other (Bk.other HF5.out (by omega) 0 _) (by omega) 1 _) (by omega) 2 _) (by omega) 3 _) (by omega) 4 _) (by omega) 5 _) (by omega) 6 _) (by omega) 7 _) (by omega) 8 _) (by omega) 9 _) (by omega) 10 _) (by omega) 11 _) hN (by omega)).cell 1 _ rfl)) rfl
      · exact (Below.setCell (Below.setCell (Below.setCell (Below.setCell (Below.setCell (Below.setCell (Below.setCell (Below.setCell (Below.setCell (Below.setCell (Below.setCell (Below.setCell HB5.out (Nat.le_add_right _ _) _) (Nat.le_add_right _ _) _) (Nat.le_add_right _ _) _) (Nat.le_add_right _ _) _) (Nat.le_add_right _ _) _) (Nat.le_add_right _ _) _) (Nat.le_add_right _ _) _) (Nat.le_add_right _ _) _) (Nat.le_add_right _ _) _) (Nat.le_add_right _ _) _) (Nat.le_add_right _ _) _) (Nat.le_add_right _ _) _))
  · have PA : ∀ W : World, Calls Tryd.prog 13 #[.int .i64 a, .int .i64 3] W fun e w' => e = .returned (.int .i64 ((2 : Nat) : Int)) ∧ W = w' := fun W => by
      have h := picked_calls a 3 W wa (by decide) (by decide)
      rw [hPA] at h
      exact h
    have x1 := HX4.out.cell 1 _ rfl
    have f1 := (Bk.alloc HT4.out (.cells #[.string ⟨#[92, 83, 101, 101, 110]⟩, .string ⟨#[92, 68, 114, 97, 102, 116]⟩, .string ⟨#[92, 70, 108, 97, 103, 103, 101, 100]⟩] 9)).frozen 1
    have y1 := (Bk.alloc HT4.out (.cells #[.string ⟨#[92, 83, 101, 101, 110]⟩, .string ⟨#[92, 68, 114, 97, 102, 116]⟩, .string ⟨#[92, 70, 108, 97, 103, 103, 101, 100]⟩] 9)).cell 1 _ rfl
    go_upto_region 21 with fail
    go_region_held3 (fun W => W.cell? ⟨w.heap.size, 1, none⟩ = some (.int .i64 a)) (go_keep) (first
      | (go_at_call 13; with_reducible refine (PA _).mono ?_; rintro e w' ⟨rfl, rfl⟩))
    all_goals (
      clear x1 f1 y1
      have hs5 : (((w4.setCell ⟨(w.heap.size + 3), 1, none⟩ (.slice (some ⟨w.heap.size + 4, 2, none⟩) 1 1)).alloc (.cells #[.string ⟨#[92, 83, 101, 101, 110]⟩, .string ⟨#[92, 68, 114, 97, 102, 116]⟩, .string ⟨#[92, 70, 108, 97, 103, 103, 101, 100]⟩] 9)).drew).heap.size = w.heap.size + 5 := by first | (simp; done) | (simp; omega)
      have hR5 : Bk (((w4.setCell ⟨(w.heap.size + 3), 1, none⟩ (.slice (some ⟨w.heap.size + 4, 2, none⟩) 1 1)).alloc (.cells #[.string ⟨#[92, 83, 101, 101, 110]⟩, .string ⟨#[92, 68, 114, 97, 102, 116]⟩, .string ⟨#[92, 70, 108, 97, 103, 103, 101, 100]⟩] 9)).drew) (w.heap.size + 1) [.int .i64 0, .slice none 0 0, .int .i64 0, .int .i64 0, .int .i64 0, .slice none 0 0, .slice none 0 0, .bool false, .int .i64 0, .slice none 0 0, .slice none 0 0, .slice none 0 0] 34 := (Bk.drew (Bk.alloc (Bk.other (c := (w.heap.size + 3)) HR4.out (by omega) 1 (.slice (some ⟨w.heap.size + 4, 2, none⟩) 1 1)) (.cells #[.string ⟨#[92, 83, 101, 101, 110]⟩, .string ⟨#[92, 68, 114, 97, 102, 116]⟩, .string ⟨#[92, 70, 108, 97, 103, 103, 101, 100]⟩] 9)))
      have hX5 : Bk (((w4.setCell ⟨(w.heap.size + 3), 1, none⟩ (.slice (some ⟨w.heap.size + 4, 2, none⟩) 1 1)).alloc (.cells #[.string ⟨#[92, 83, 101, 101, 110]⟩, .string ⟨#[92, 68, 114, 97, 102, 116]⟩, .string ⟨#[92, 70, 108, 97, 103, 103, 101, 100]⟩] 9)).drew) w.heap.size [.int .i64 kk, .int .i64 a, .int .i64 b, .string s, .string t, .slice A inn.length c] 39 := (Bk.drew (Bk.alloc (Bk.other (c := (w.heap.size + 3)) HX4.out (by omega) 1 (.slice (some ⟨w.heap.size + 4, 2, none⟩) 1 1)) (.cells #[.string ⟨#[92, 83, 101, 101, 110]⟩, .string ⟨#[92, 68, 114, 97, 102, 116]⟩, .string ⟨#[92, 70, 108, 97, 103, 103, 101, 100]⟩] 9)))
      have hL5 : Bk (((w4.setCell ⟨(w.heap.size + 3), 1, none⟩ (.slice (some ⟨w.heap.size + 4, 2, none⟩) 1 1)).alloc (.cells #[.string ⟨#[92, 83, 101, 101, 110]⟩, .string ⟨#[92, 68, 114, 97, 102, 116]⟩, .string ⟨#[92, 70, 108, 97, 103, 103, 101, 100]⟩] 9)).drew) (w.heap.size + 2) [.int .i64 3, .int .i64 2, .int .i64 5, .int .i64 2, .int .i64 6, .int .i64 2, .int .i64 4, .int .i64 8, .int .i64 9, .int .i64 7, .int .i64 10, .int .i64 2] 3 := (Bk.drew (Bk.alloc (Bk.other (c := (w.heap.size + 3)) HL4.out (by omega) 1 (.slice (some ⟨w.heap.size + 4, 2, none⟩) 1 1)) (.cells #[.string ⟨#[92, 83, 101, 101, 110]⟩, .string ⟨#[92, 68, 114, 97, 102, 116]⟩, .string ⟨#[92, 70, 108, 97, 103, 103, 101, 100]⟩] 9)))
      have hT5 : Bk (((w4.setCell ⟨(w.heap.size + 3), 1, none⟩ (.slice (some ⟨w.heap.size + 4, 2, none⟩) 1 1)).alloc (.cells #[.string ⟨#[92, 83, 101, 101, 110]⟩, .string ⟨#[92, 68, 114, 97, 102, 116]⟩, .string ⟨#[92, 70, 108, 97, 103, 103, 101, 100]⟩] 9)).drew) (w.heap.size + 3) [.int .i64 8, .slice (some ⟨w.heap.size + 4, 2, none⟩) 1 1, .int .i64 0, .int .i64 0, .int .i64 0, .slice none 0 0, .slice none 0 0, .bool false, .int .i64 0, .slice none 0 0, .slice none 0 0, .slice none 0 0] 34 := (Bk.drew (Bk.alloc (Bk.set HT4.out 1 (.slice (some ⟨w.heap.size + 4, 2, none⟩) 1 1)) (.cells #[.string ⟨#[92, 83, 101, 101, 110]⟩, .string ⟨#[92, 68, 114, 97, 102, 116]⟩, .string ⟨#[92, 70, 108, 97, 103, 103, 101, 100]⟩] 9)))
      have hF5 : Bk (((w4.setCell ⟨(w.heap.size + 3), 1, none⟩ (.slice (some ⟨w.heap.size + 4, 2, none⟩) 1 1)).alloc (.cells #[.string ⟨#[92, 83, 101, 101, 110]⟩, .string ⟨#[92, 68, 114, 97, 102, 116]⟩, .string ⟨#[92, 70, 108, 97, 103, 103, 101, 100]⟩] 9)).drew) (w.heap.size + 4) [.string ⟨#[92, 83, 101, 101, 110]⟩, .string ⟨#[92, 68, 114, 97, 102, 116]⟩, .string ⟨#[92, 70, 108, 97, 103, 103, 101, 100]⟩] 9 := (Bk.drew (bk_newN ((w4.setCell ⟨(w.heap.size + 3), 1, none⟩ (.slice (some ⟨w.heap.size + 4, 2, none⟩) 1 1))) (w.heap.size + 4) [.string ⟨#[92, 83, 101, 101, 110]⟩, .string ⟨#[92, 68, 114, 97, 102, 116]⟩, .string ⟨#[92, 70, 108, 97, 103, 103, 101, 100]⟩] 9 (by first | omega | (simp; done) | (simp; omega))))
      have hb5 : Below w.heap.size w (((w4.setCell ⟨(w.heap.size + 3), 1, none⟩ (.slice (some ⟨w.heap.size + 4, 2, none⟩) 1 1)).alloc (.cells #[.string ⟨#[92, 83, 101, 101, 110]⟩, .string ⟨#[92, 68, 114, 97, 102, 116]⟩, .string ⟨#[92, 70, 108, 97, 103, 103, 101, 100]⟩] 9)).drew) := (Below.drew (bal (Below.setCell (p := ⟨(w.heap.size + 3), 1, none⟩) HB4.out (Nat.le_add_right _ _) (.slice (some ⟨w.heap.size + 4, 2, none⟩) 1 1)) _))
      have HR5 := Lib.hid hR5
      have HX5 := Lib.hid hX5
      have HL5 := Lib.hid hL5
      have HT5 := Lib.hid hT5
      have HF5 := Lib.hid hF5
      have HB5 := Lib.hid hb5
      clear hR5 hX5 hL5 hT5 hF5 hb5 HR4 HX4 HL4 HT4 HB4
      generalize ((w4.setCell ⟨(w.heap.size + 3), 1, none⟩ (.slice (some ⟨w.heap.size + 4, 2, none⟩) 1 1)).alloc (.cells #[.string ⟨#[92, 83, 101, 101, 110]⟩, .string ⟨#[92, 68, 114, 97, 102, 116]⟩, .string ⟨#[92, 70, 108, 97, 103, 103, 101, 100]⟩] 9)).drew = w5 at *
      have hfl : flgN a = mkS [92, 70, 108, 97, 103, 103, 101, 100] := by unfold flgN; rw [hPA]; rfl
      go_upto_region 22 with fail
      have x0 := HT5.out.cell 0 _ rfl
      have x1 := HT5.out.cell 1 _ rfl
      have x2 := HT5.out.cell 2 _ rfl
      have x3 := HT5.out.cell 3 _ rfl
      have x4 := HT5.out.cell 4 _ rfl
      have x5 := HT5.out.cell 5 _ rfl
      have x6 := HT5.out.cell 6 _ rfl
      have x7 := HT5.out.cell 7 _ rfl
      have x8 := HT5.out.cell 8 _ rfl
      have x9 := HT5.out.cell 9 _ rfl
      have x10 := HT5.out.cell 10 _ rfl
      have x11 := HT5.out.cell 11 _ rfl
      have f0 := HR5.out.frozen 0
      have y0 := HR5.out.cell 0 _ rfl
      have f1 := HR5.out.frozen 1
      have y1 := HR5.out.cell 1 _ rfl
      have f2 := HR5.out.frozen 2
      have y2 := HR5.out.cell 2 _ rfl
      have f3 := HR5.out.frozen 3
      have y3 := HR5.out.cell 3 _ rfl
      have f4 := HR5.out.frozen 4
      have y4 := HR5.out.cell 4 _ rfl
      have f5 := HR5.out.frozen 5
      have y5 := HR5.out.cell 5 _ rfl
      have f6 := HR5.out.frozen 6
      have y6 := HR5.out.cell 6 _ rfl
      have f7 := HR5.out.frozen 7
      have y7 := HR5.out.cell 7 _ rfl
      have f8 := HR5.out.frozen 8
      have y8 := HR5.out.cell 8 _ rfl
      have f9 := HR5.out.frozen 9
      have y9 := HR5.out.cell 9 _ rfl
      have f10 := HR5.out.frozen 10
      have y10 := HR5.out.cell 10 _ rfl
      have f11 := HR5.out.frozen 11
      have y11 := HR5.out.cell 11 _ rfl
      go_wp2_with fail
      have hbk := bk_eq (cs' := [.int .i64 8, .slice (some ⟨w.heap.size + 4, 2, none⟩) 1 1, .int .i64 0, .int .i64 0, .int .i64 0, .slice none 0 0, .slice none 0 0, .bool false, .int .i64 0, .slice none 0 0, .slice none 0 0, .slice none 0 0]) (Bk.set (Bk.set (Bk.set (Bk.set (Bk.set (Bk.set (Bk.set (Bk.set (Bk.set (Bk.set (Bk.set (Bk.set HR5.out 0 _) 1 _) 2 _) 3 _) 4 _) 5 _) 6 _) 7 _) 8 _) 9 _) 10 _) 11 _) rfl
      refine bodyPost_ret (results_cell_row rfl _ _ (w.heap.size + 1) 34 #[.int .i64 8, .slice (some ⟨w.heap.size + 4, 2, none⟩) 1 1, .int .i64 0, .int .i64 0, .int .i64 0, .slice none 0 0, .slice none 0 0, .bool false, .int .i64 0, .slice none 0 0, .slice none 0 0, .slice none 0 0] (0, 0) _ rfl hbk Tryd.underlying34 rfl (by kernel_rfl)) rfl ⟨[.int .i64 8, .slice (some ⟨w.heap.size + 4, 2, none⟩) 1 1, .int .i64 0, .int .i64 0, .int .i64 0, .slice none 0 0, .slice none 0 0, .bool false, .int .i64 0, .slice none 0 0, .slice none 0 0, .slice none 0 0], rfl, fun W hN => ?_, ?_⟩
      · exact cmdV_leaf (txs := [flgN a]) (by rw [hfl]; exact txAt_at ((Bk.neu (Bk.other (Bk.other (Bk.other (Bk.other (Bk.other (Bk.other (Bk.other (Bk.other (Bk.other (Bk.other (Bk.other (Bk.other HF5.out (by omega) 0 _) (by omega) 1 _) (by omega) 2 _) (by omega) 3 _) (by omega) 4 _) (by omega) 5 _) (by omega) 6 _) (by omega) 7 _) (by omega) 8 _) (by omega) 9 _) (by omega) 10 _) (by omega) 11 _) hN (by omega)).cell 2 _ rfl)) rfl
      · exact (Below.setCell (Below.setCell (Below.setCell (Below.setCell (Below.setCell (Below.setCell (Below.setCell (Below.setCell (Below.setCell (Below.setCell (Below.setCell (Below.setCell HB5.out (Nat.le_add_right _ _) _) (Nat.le_add_right _ _) _) (Nat.le_add_right _ _) _) (Nat.le_add_right _ _) _) (Nat.le_add_right _ _) _) (Nat.le_add_right _ _) _) (Nat.le_add_right _ _) _) (Nat.le_add_right _ _) _) (Nat.le_add_right _ _) _) (Nat.le_add_right _ _) _) (Nat.le_add_right _ _) _) (Nat.le_add_right _ _) _))
end Go.Proofs.YtgmnoemkdigafaaDoor
