/- The helper Command of the statements: kind 9. The helper Command of the statements: kind 10. The helpers Command and Commands of the statements: the commands of sticks, n deep. The helper requires of the statements: the command that requires all. script.Show at commands whose parts may be. The helper Script of the statements: commands behind a require, as many as may be. Plain law: which scripts of sticks are allowed. -/
import Derived.Test.YtgmnoemkdigafaaDoorZB1
import Derived.Test.YtgmnoemkdigafaaDoorZB12
import Derived.Laws.Rows
import Derived.Deep.RegionLaw
import Derived.Deep.AppendLies
import Derived.Deep.DeepCutAuto
import Derived.Deep.CutBlock
import Derived.RegionTactic
import Derived.BigRegion
import Derived.Test.YtgmnoemkdigafaaDoorZB19
import Derived.Test.YtgmnoemkdigafaaDoorZB20
namespace Go.Proofs.YtgmnoemkdigafaaDoor
open Go.RowKit
set_option linter.unusedVariables false

set_option maxRecDepth 100000 in
set_option maxHeartbeats 8000000 in
theorem cmd_9 (kk a b : Int) (s t : ByteArray) (inn : List Stk) (A : Option Addr) (c : Nat) (d : Int) (w : World) (hd0 : 0 ≤ d) (hd : d ≤ 1000) (hP12 : pickN kk 12 = 8) (hB : StkB kk a b s t inn.length c) (hA : StksAt w inn A) :
    Calls Tryd.prog 47 #[.agg #[.int .i64 kk, .int .i64 a, .int .i64 b, .string s, .string t, .slice A inn.length c], .int .i64 d] w fun e w' => ∃ tv, e = .returned (.agg (List.toArray tv)) ∧ (∀ W, New w.heap.size w' W → CmdV W (leafC 9 (.mk kk a b s t inn)) tv) ∧ Below w.heap.size w w' := by
  obtain ⟨wk, wa, wb, ws, wt, hc1, hc2⟩ := hB
  unfold maxLen at ws wt hc2
  have hX := Bk.new w [.int .i64 kk, .int .i64 a, .int .i64 b, .string s, .string t, .slice A inn.length c] 39
  have hbx : Below w.heap.size w (w.alloc (.cells #[.int .i64 kk, .int .i64 a, .int .i64 b, .string s, .string t, .slice A inn.length c] 39)) := bal (Below.refl _ _) _
  have HX := Lib.hid hX
  have Hbx := Lib.hid hbx
  clear hX hbx
  have P12 : ∀ W : World, Calls Tryd.prog 13 #[.int .i64 kk, .int .i64 12] W fun e w' => e = .returned (.int .i64 ((8 : Nat) : Int)) ∧ W = w' := fun W => by
    have h := picked_calls kk 12 W wk (by decide) (by decide)
    rw [hP12] at h
    exact h
  have lam := pickN_lt a 3 (by decide)
  have hw1 : IntKind.i64.wrap 1 = 1 := by decide
  have hw2 : IntKind.i64.wrap 2 = 2 := by decide
  have hw3 : IntKind.i64.wrap 3 = 3 := by decide
  go_enter Tryd.func47, Tryd.ntmps47
  go_upto_region 1 with fail
  have hR := Bk.new (w.alloc (.cells #[.int .i64 kk, .int .i64 a, .int .i64 b, .string s, .string t, .slice A inn.length c] 39)) [.int .i64 0, .slice none 0 0, .int .i64 0, .int .i64 0, .int .i64 0, .slice none 0 0, .slice none 0 0, .bool false, .int .i64 0, .slice none 0 0, .slice none 0 0, .slice none 0 0] 34
  have hX2 := HX.out.alloc (.cells #[.int .i64 0, .slice none 0 0, .int .i64 0, .int .i64 0, .int .i64 0, .slice none 0 0, .slice none 0 0, .bool false, .int .i64 0, .slice none 0 0, .slice none 0 0, .slice none 0 0] 34)
  have hb2 := bal Hbx.out (.cells #[.int .i64 0, .slice none 0 0, .int .i64 0, .int .i64 0, .int .i64 0, .slice none 0 0, .slice none 0 0, .bool false, .int .i64 0, .slice none 0 0, .slice none 0 0, .slice none 0 0] 34)
  have hs1 : (w.alloc (.cells #[.int .i64 kk, .int .i64 a, .int .i64 b, .string s, .string t, .slice A inn.length c] 39)).heap.size = w.heap.size + 1 := by simp
  rw [hs1] at hR
  have hs2 : ((w.alloc (.cells #[.int .i64 kk, .int .i64 a, .int .i64 b, .string s, .string t, .slice A inn.length c] 39)).alloc (.cells #[.int .i64 0, .slice none 0 0, .int .i64 0, .int .i64 0, .int .i64 0, .slice none 0 0, .slice none 0 0, .bool false, .int .i64 0, .slice none 0 0, .slice none 0 0, .slice none 0 0] 34)).heap.size = w.heap.size + 2 := by simp
  have HR := Lib.hid hR
  have HX2 := Lib.hid hX2
  have Hb2 := Lib.hid hb2
  clear hR hX2 hb2 hs1 HX Hbx
  generalize (w.alloc (.cells #[.int .i64 kk, .int .i64 a, .int .i64 b, .string s, .string t, .slice A inn.length c] 39)).alloc (.cells #[.int .i64 0, .slice none 0 0, .int .i64 0, .int .i64 0, .int .i64 0, .slice none 0 0, .slice none 0 0, .bool false, .int .i64 0, .slice none 0 0, .slice none 0 0, .slice none 0 0] 34) = w2 at *
  have x0 := HX2.out.cell 0 _ rfl
  go_upto_region 2 with (go_at_call 13; refine (P12 _).mono ?_; rintro e w' ⟨rfl, rfl⟩)
  clear P12 x0
  have hs3 : (w2.alloc (.cells #[.int .i64 3, .int .i64 2, .int .i64 5, .int .i64 2, .int .i64 6, .int .i64 2, .int .i64 4, .int .i64 8, .int .i64 9, .int .i64 7, .int .i64 10, .int .i64 2] 3)).heap.size = w.heap.size + 3 := by first | (simp; done) | (simp; omega)
  have hR3 : Bk (w2.alloc (.cells #[.int .i64 3, .int .i64 2, .int .i64 5, .int .i64 2, .int .i64 6, .int .i64 2, .int .i64 4, .int .i64 8, .int .i64 9, .int .i64 7, .int .i64 10, .int .i64 2] 3)) (w.heap.size + 1) [.int .i64 0, .slice none 0 0, .int .i64 0, .int .i64 0, .int .i64 0, .slice none 0 0, .slice none 0 0, .bool false, .int .i64 0, .slice none 0 0, .slice none 0 0, .slice none 0 0] 34 := (Bk.alloc HR.out (.cells #[.int .i64 3, .int .i64 2, .int .i64 5, .int .i64 2, .int .i64 6, .int .i64 2, .int .i64 4, .int .i64 8, .int .i64 9, .int .i64 7, .int .i64 10, .int .i64 2] 3))
  have hX3 : Bk (w2.alloc (.cells #[.int .i64 3, .int .i64 2, .int .i64 5, .int .i64 2, .int .i64 6, .int .i64 2, .int .i64 4, .int .i64 8, .int .i64 9, .int .i64 7, .int .i64 10, .int .i64 2] 3)) w.heap.size [.int .i64 kk, .int .i64 a, .int .i64 b, .string s, .string t, .slice A inn.length c] 39 := (Bk.alloc HX2.out (.cells #[.int .i64 3, .int .i64 2, .int .i64 5, .int .i64 2, .int .i64 6, .int .i64 2, .int .i64 4, .int .i64 8, .int .i64 9, .int .i64 7, .int .i64 10, .int .i64 2] 3))
  have hL3 : Bk (w2.alloc (.cells #[.int .i64 3, .int .i64 2, .int .i64 5, .int .i64 2, .int .i64 6, .int .i64 2, .int .i64 4, .int .i64 8, .int .i64 9, .int .i64 7, .int .i64 10, .int .i64 2] 3)) (w.heap.size + 2) [.int .i64 3, .int .i64 2, .int .i64 5, .int .i64 2, .int .i64 6, .int .i64 2, .int .i64 4, .int .i64 8, .int .i64 9, .int .i64 7, .int .i64 10, .int .i64 2] 3 := (bk_newN (w2) (w.heap.size + 2) [.int .i64 3, .int .i64 2, .int .i64 5, .int .i64 2, .int .i64 6, .int .i64 2, .int .i64 4, .int .i64 8, .int .i64 9, .int .i64 7, .int .i64 10, .int .i64 2] 3 (by first | omega | (simp; done) | (simp; omega)))
  have hb3 : Below w.heap.size w (w2.alloc (.cells #[.int .i64 3, .int .i64 2, .int .i64 5, .int .i64 2, .int .i64 6, .int .i64 2, .int .i64 4, .int .i64 8, .int .i64 9, .int .i64 7, .int .i64 10, .int .i64 2] 3)) := (bal Hb2.out _)
  have HR3 := Lib.hid hR3
  have HX3 := Lib.hid hX3
  have HL3 := Lib.hid hL3
  have HB3 := Lib.hid hb3
  clear hR3 hX3 hL3 hb3 HR HX2 Hb2
  generalize w2.alloc (.cells #[.int .i64 3, .int .i64 2, .int .i64 5, .int .i64 2, .int .i64 6, .int .i64 2, .int .i64 4, .int .i64 8, .int .i64 9, .int .i64 7, .int .i64 10, .int .i64 2] 3) = w3 at *
  go_upto_region 5 with fail
  have hs4 : (w3.alloc (.cells #[.int .i64 9, .slice none 0 0, .int .i64 0, .int .i64 0, .int .i64 0, .slice none 0 0, .slice none 0 0, .bool false, .int .i64 0, .slice none 0 0, .slice none 0 0, .slice none 0 0] 34)).heap.size = w.heap.size + 4 := by first | (simp; done) | (simp; omega)
  have hR4 : Bk (w3.alloc (.cells #[.int .i64 9, .slice none 0 0, .int .i64 0, .int .i64 0, .int .i64 0, .slice none 0 0, .slice none 0 0, .bool false, .int .i64 0, .slice none 0 0, .slice none 0 0, .slice none 0 0] 34)) (w.heap.size + 1) [.int .i64 0, .slice none 0 0, .int .i64 0, .int .i64 0, .int .i64 0, .slice none 0 0, .slice none 0 0, .bool false, .int .i64 0, .slice none 0 0, .slice none 0 0, .slice none 0 0] 34 := (Bk.alloc HR3.out (.cells #[.int .i64 9, .slice none 0 0, .int .i64 0, .int .i64 0, .int .i64 0, .slice none 0 0, .slice none 0 0, .bool false, .int .i64 0, .slice none 0 0, .slice none 0 0, .slice none 0 0] 34))
  have hX4 : Bk (w3.alloc (.cells #[.int .i64 9, .slice none 0 0, .int .i64 0, .int .i64 0, .int .i64 0, .slice none 0 0, .slice none 0 0, .bool false, .int .i64 0, .slice none 0 0, .slice none 0 0, .slice none 0 0] 34)) w.heap.size [.int .i64 kk, .int .i64 a, .int .i64 b, .string s, .string t, .slice A inn.length c] 39 := (Bk.alloc HX3.out (.cells #[.int .i64 9, .slice none 0 0, .int .i64 0, .int .i64 0, .int .i64 0, .slice none 0 0, .slice none 0 0, .bool false, .int .i64 0, .slice none 0 0, .slice none 0 0, .slice none 0 0] 34))
  have hL4 : Bk (w3.alloc (.cells #[.int .i64 9, .slice none 0 0, .int .i64 0, .int .i64 0, .int .i64 0, .slice none 0 0, .slice none 0 0, .bool false, .int .i64 0, .slice none 0 0, .slice none 0 0, .slice none 0 0] 34)) (w.heap.size + 2) [.int .i64 3, .int .i64 2, .int .i64 5, .int .i64 2, .int .i64 6, .int .i64 2, .int .i64 4, .int .i64 8, .int .i64 9, .int .i64 7, .int .i64 10, .int .i64 2] 3 := (Bk.alloc HL3.out (.cells #[.int .i64 9, .slice none 0 0, .int .i64 0, .int .i64 0, .int .i64 0, .slice none 0 0, .slice none 0 0, .bool false, .int .i64 0, .slice none 0 0, .slice none 0 0, .slice none 0 0] 34))
  have hT4 : Bk (w3.alloc (.cells #[.int .i64 9, .slice none 0 0, .int .i64 0, .int .i64 0, .int .i64 0, .slice none 0 0, .slice none 0 0, .bool false, .int .i64 0, .slice none 0 0, .slice none 0 0, .slice none 0 0] 34)) (w.heap.size + 3) [.int .i64 9, .slice none 0 0, .int .i64 0, .int .i64 0, .int .i64 0, .slice none 0 0, .slice none 0 0, .bool false, .int .i64 0, .slice none 0 0, .slice none 0 0, .slice none 0 0] 34 := (bk_newN (w3) (w.heap.size + 3) [.int .i64 9, .slice none 0 0, .int .i64 0, .int .i64 0, .int .i64 0, .slice none 0 0, .slice none 0 0, .bool false, .int .i64 0, .slice none 0 0, .slice none 0 0, .slice none 0 0] 34 (by first | omega | (simp; done) | (simp; omega)))
  have hb4 : Below w.heap.size w (w3.alloc (.cells #[.int .i64 9, .slice none 0 0, .int .i64 0, .int .i64 0, .int .i64 0, .slice none 0 0, .slice none 0 0, .bool false, .int .i64 0, .slice none 0 0, .slice none 0 0, .slice none 0 0] 34)) := (bal HB3.out _)
  have HR4 := Lib.hid hR4
  have HX4 := Lib.hid hX4
  have HL4 := Lib.hid hL4
  have HT4 := Lib.hid hT4
  have HB4 := Lib.hid hb4
  clear hR4 hX4 hL4 hT4 hb4 HR3 HX3 HL3 HB3
  generalize w3.alloc (.cells #[.int .i64 9, .slice none 0 0, .int .i64 0, .int .i64 0, .int .i64 0, .slice none 0 0, .slice none 0 0, .bool false, .int .i64 0, .slice none 0 0, .slice none 0 0, .slice none 0 0] 34) = w4 at *
  have hu : pickN a 3 = 0 ∨ pickN a 3 = 1 ∨ pickN a 3 = 2 := by omega
  rcases hu with hPA | hPA | hPA
  · have PA : ∀ W : World, Calls Tryd.prog 13 #[.int .i64 a, .int .i64 3] W fun e w' => e = .returned (.int .i64 ((0 : Nat) : Int)) ∧ W = w' := fun W => by
      have h := picked_calls a 3 W wa (by decide) (by decide)
      rw [hPA] at h
      exact h
    have x1 := HX4.out.cell 1 _ rfl
    have f1 := (Bk.alloc HT4.out (.cells #[.string ⟨#[92, 83, 101, 101, 110]⟩, .string ⟨#[92, 68, 114, 97, 102, 116]⟩, .string ⟨#[92, 70, 108, 97, 103, 103, 101, 100]⟩] 9)).frozen 1
    have y1 := (Bk.alloc HT4.out (.cells #[.string ⟨#[92, 83, 101, 101, 110]⟩, .string ⟨#[92, 68, 114, 97, 102, 116]⟩, .string ⟨#[92, 70, 108, 97, 103, 103, 101, 100]⟩] 9)).cell 1 _ rfl
    go_upto_region 21 with fail
    go_region_held3 (fun W => W.cell? ⟨w.heap.size, 1, none⟩ = some (.int .i64 a)) (go_keep) (first
      | (go_at_call 13; with_reducible refine (PA _).mono ?_; rintro e w' ⟨rfl, rfl⟩))
    all_goals (
      clear x1 f1 y1
      have hs5 : (((w4.setCell ⟨(w.heap.size + 3), 1, none⟩ (.slice (some ⟨w.heap.size + 4, 0, none⟩) 1 3)).alloc (.cells #[.string ⟨#[92, 83, 101, 101, 110]⟩, .string ⟨#[92, 68, 114, 97, 102, 116]⟩, .string ⟨#[92, 70, 108, 97, 103, 103, 101, 100]⟩] 9)).drew).heap.size = w.heap.size + 5 := by first | (simp; done) | (simp; omega)
      have hR5 : Bk (((w4.setCell ⟨(w.heap.size + 3), 1, none⟩ (.slice (some ⟨w.heap.size + 4, 0, none⟩) 1 3)).alloc (.cells #[.string ⟨#[92, 83, 101, 101, 110]⟩, .string ⟨#[92, 68, 114, 97, 102, 116]⟩, .string ⟨#[92, 70, 108, 97, 103, 103, 101, 100]⟩] 9)).drew) (w.heap.size + 1) [.int .i64 0, .slice none 0 0, .int .i64 0, .int .i64 0, .int .i64 0, .slice none 0 0, .slice none 0 0, .bool false, .int .i64 0, .slice none 0 0, .slice none 0 0, .slice none 0 0] 34 := (Bk.drew (Bk.alloc (Bk.other (c := (w.heap.size + 3)) HR4.out (by omega) 1 (.slice (some ⟨w.heap.size + 4, 0, none⟩) 1 3)) (.cells #[.string ⟨#[92, 83, 101, 101, 110]⟩, .string ⟨#[92, 68, 114, 97, 102, 116]⟩, .string ⟨#[92, 70, 108, 97, 103, 103, 101, 100]⟩] 9)))
      have hX5 : Bk (((w4.setCell ⟨(w.heap.size + 3), 1, none⟩ (.slice (some ⟨w.heap.size + 4, 0, none⟩) 1 3)).alloc (.cells #[.string ⟨#[92, 83, 101, 101, 110]⟩, .string ⟨#[92, 68, 114, 97, 102, 116]⟩, .string ⟨#[92, 70, 108, 97, 103, 103, 101, 100]⟩] 9)).drew) w.heap.size [.int .i64 kk, .int .i64 a, .int .i64 b, .string s, .string t, .slice A inn.length c] 39 := (Bk.drew (Bk.alloc (Bk.other (c := (w.heap.size + 3)) HX4.out (by omega) 1 (.slice (some ⟨w.heap.size + 4, 0, none⟩) 1 3)) (.cells #[.string ⟨#[92, 83, 101, 101, 110]⟩, .string ⟨#[92, 68, 114, 97, 102, 116]⟩, .string ⟨#[92, 70, 108, 97, 103, 103, 101, 100]⟩] 9)))
      have hL5 : Bk (((w4.setCell ⟨(w.heap.size + 3), 1, none⟩ (.slice (some ⟨w.heap.size + 4, 0, none⟩) 1 3)).alloc (.cells #[.string ⟨#[92, 83, 101, 101, 110]⟩, .string ⟨#[92, 68, 114, 97, 102, 116]⟩, .string ⟨#[92, 70, 108, 97, 103, 103, 101, 100]⟩] 9)).drew) (w.heap.size + 2) [.int .i64 3, .int .i64 2, .int .i64 5, .int .i64 2, .int .i64 6, .int .i64 2, .int .i64 4, .int .i64 8, .int .i64 9, .int .i64 7, .int .i64 10, .int .i64 2] 3 := (Bk.drew (Bk.alloc (Bk.other (c := (w.heap.size + 3)) HL4.out (by omega) 1 (.slice (some ⟨w.heap.size + 4, 0, none⟩) 1 3)) (.cells #[.string ⟨#[92, 83, 101, 101, 110]⟩, .string ⟨#[92, 68, 114, 97, 102, 116]⟩, .string ⟨#[92, 70, 108, 97, 103, 103, 101, 100]⟩] 9)))
      have hT5 : Bk (((w4.setCell ⟨(w.heap.size + 3), 1, none⟩ (.slice (some ⟨w.heap.size + 4, 0, none⟩) 1 3)).alloc (.cells #[.string ⟨#[92, 83, 101, 101, 110]⟩, .string ⟨#[92, 68, 114, 97, 102, 116]⟩, .string ⟨#[92, 70, 108, 97, 103, 103, 101, 100]⟩] 9)).drew) (w.heap.size + 3) [.int .i64 9, .slice (some ⟨w.heap.size + 4, 0, none⟩) 1 3, .int .i64 0, .int .i64 0, .int .i64 0, .slice none 0 0, .slice none 0 0, .bool false, .int .i64 0, .slice none 0 0, .slice none 0 0, .slice none 0 0] 34 := (Bk.drew (Bk.alloc (Bk.set HT4.out 1 (.slice (some ⟨w.heap.size + 4, 0, none⟩) 1 3)) (.cells #[.string ⟨#[92, 83, 101, 101, 110]⟩, .string ⟨#[92, 68, 114, 97, 102, 116]⟩, .string ⟨#[92, 70, 108, 97, 103, 103, 101, 100]⟩] 9)))
      have hF5 : Bk (((w4.setCell ⟨(w.heap.size + 3), 1, none⟩ (.slice (some ⟨w.heap.size + 4, 0, none⟩) 1 3)).alloc (.cells #[.string ⟨#[92, 83, 101, 101, 110]⟩, .string ⟨#[92, 68, 114, 97, 102, 116]⟩, .string ⟨#[92, 70, 108, 97, 103, 103, 101, 100]⟩] 9)).drew) (w.heap.size + 4) [.string ⟨#[92, 83, 101, 101, 110]⟩, .string ⟨#[92, 68, 114, 97, 102, 116]⟩, .string ⟨#[92, 70, 108, 97, 103, 103, 101, 100]⟩] 9 := (Bk.drew (bk_newN ((w4.setCell ⟨(w.heap.size + 3), 1, none⟩ (.slice (some ⟨w.heap.size + 4, 0, none⟩) 1 3))) (w.heap.size + 4) [.string ⟨#[92, 83, 101, 101, 110]⟩, .string ⟨#[92, 68, 114, 97, 102, 116]⟩, .string ⟨#[92, 70, 108, 97, 103, 103, 101, 100]⟩] 9 (by first | omega | (simp; done) | (simp; omega))))
      have hb5 : Below w.heap.size w (((w4.setCell ⟨(w.heap.size + 3), 1, none⟩ (.slice (some ⟨w.heap.size + 4, 0, none⟩) 1 3)).alloc (.cells #[.string ⟨#[92, 83, 101, 101, 110]⟩, .string ⟨#[92, 68, 114, 97, 102, 116]⟩, .string ⟨#[92, 70, 108, 97, 103, 103, 101, 100]⟩] 9)).drew) := (Below.drew (bal (Below.setCell (p := ⟨(w.heap.size + 3), 1, none⟩) HB4.out (Nat.le_add_right _ _) (.slice (some ⟨w.heap.size + 4, 0, none⟩) 1 3)) _))
      have HR5 := Lib.hid hR5
      have HX5 := Lib.hid hX5
      have HL5 := Lib.hid hL5
      have HT5 := Lib.hid hT5
      have HF5 := Lib.hid hF5
      have HB5 := Lib.hid hb5
      clear hR5 hX5 hL5 hT5 hF5 hb5 HR4 HX4 HL4 HT4 HB4
      generalize ((w4.setCell ⟨(w.heap.size + 3), 1, none⟩ (.slice (some ⟨w.heap.size + 4, 0, none⟩) 1 3)).alloc (.cells #[.string ⟨#[92, 83, 101, 101, 110]⟩, .string ⟨#[92, 68, 114, 97, 102, 116]⟩, .string ⟨#[92, 70, 108, 97, 103, 103, 101, 100]⟩] 9)).drew = w5 at *
      have hfl : flgN a = mkS [92, 83, 101, 101, 110] := by unfold flgN; rw [hPA]; rfl
      go_upto_region 22 with fail
      have x0 := HT5.out.cell 0 _ rfl
      have x1 := HT5.out.cell 1 _ rfl
      have x2 := HT5.out.cell 2 _ rfl
      have x3 := HT5.out.cell 3 _ rfl
      have x4 := HT5.out.cell 4 _ rfl
      have x5 := HT5.out.cell 5 _ rfl
      have x6 := HT5.out.cell 6 _ rfl
      have x7 := HT5.out.cell 7 _ rfl
      have x8 := HT5.out.cell 8 _ rfl
      have x9 := HT5.out.cell 9 _ rfl
      have x10 := HT5.out.cell 10 _ rfl
      have x11 := HT5.out.cell 11 _ rfl
      have f0 := HR5.out.frozen 0
      have y0 := HR5.out.cell 0 _ rfl
      have f1 := HR5.out.frozen 1
      have y1 := HR5.out.cell 1 _ rfl
      have f2 := HR5.out.frozen 2
      have y2 := HR5.out.cell 2 _ rfl
      have f3 := HR5.out.frozen 3
      have y3 := HR5.out.cell 3 _ rfl
      have f4 := HR5.out.frozen 4
      have y4 := HR5.out.cell 4 _ rfl
      have f5 := HR5.out.frozen 5
      have y5 := HR5.out.cell 5 _ rfl
      have f6 := HR5.out.frozen 6
      have y6 := HR5.out.cell 6 _ rfl
      have f7 := HR5.out.frozen 7
      have y7 := HR5.out.cell 7 _ rfl
      have f8 := HR5.out.frozen 8
      have y8 := HR5.out.cell 8 _ rfl
      have f9 := HR5.out.frozen 9
      have y9 := HR5.out.cell 9 _ rfl
      have f10 := HR5.out.frozen 10
      have y10 := HR5.out.cell 10 _ rfl
      have f11 := HR5.out.frozen 11
      have y11 := HR5.out.cell 11 _ rfl
      go_wp2_with fail
      have hbk := bk_eq (cs' := [.int .i64 9, .slice (some ⟨w.heap.size + 4, 0, none⟩) 1 3, .int .i64 0, .int .i64 0, .int .i64 0, .slice none 0 0, .slice none 0 0, .bool false, .int .i64 0, .slice none 0 0, .slice none 0 0, .slice none 0 0]) (Bk.set (Bk.set (Bk.set (Bk.set (Bk.set (Bk.set (Bk.set (Bk.set (Bk.set (Bk.set (Bk.set (Bk.set HR5.out 0 _) 1 _) 2 _) 3 _) 4 _) 5 _) 6 _) 7 _) 8 _) 9 _) 10 _) 11 _) rfl
      refine bodyPost_ret (results_cell_row rfl _ _ (w.heap.size + 1) 34 #[.int .i64 9, .slice (some ⟨w.heap.size + 4, 0, none⟩) 1 3, .int .i64 0, .int .i64 0, .int .i64 0, .slice none 0 0, .slice none 0 0, .bool false, .int .i64 0, .slice none 0 0, .slice none 0 0, .slice none 0 0] (0, 0) _ rfl hbk Tryd.underlying34 rfl (by kernel_rfl)) rfl ⟨[.int .i64 9, .slice (some ⟨w.heap.size + 4, 0, none⟩) 1 3, .int .i64 0, .int .i64 0, .int .i64 0, .slice none 0 0, .slice none 0 0, .bool false, .int .i64 0, .slice none 0 0, .slice none 0 0, .slice none 0 0], rfl, fun W hN => ?_, ?_⟩
      · exact cmdV_leaf (txs := [flgN a]) (by rw [hfl]; exact txAt_at ((Bk.neu (Bk.other (Bk.other (Bk.other (Bk.other (Bk.other (Bk.other (Bk.other (Bk.other (Bk.other (Bk.other (Bk.other (Bk.other HF5.out (by omega) 0 _) (by omega) 1 _) (by omega) 2 _) (by omega) 3 _) (by omega) 4 _) (by omega) 5 _) (by omega) 6 _) (by omega) 7 _) (by omega) 8 _) (by omega) 9 _) (by omega) 10 _) (by omega) 11 _) hN (by omega)).cell 0 _ rfl)) rfl
      · exact (Below.setCell (Below.setCell (Below.setCell (Below.setCell (Below.setCell (Below.setCell (Below.setCell (Below.setCell (Below.setCell (Below.setCell (Below.setCell (Below.setCell HB5.out (Nat.le_add_right _ _) _) (Nat.le_add_right _ _) _) (Nat.le_add_right _ _) _) (Nat.le_add_right _ _) _) (Nat.le_add_right _ _) _) (Nat.le_add_right _ _) _) (Nat.le_add_right _ _) _) (Nat.le_add_right _ _) _) (Nat.le_add_right _ _) _) (Nat.le_add_right _ _) _) (Nat.le_add_right _ _) _) (Nat.le_add_right _ _) _))
  · have PA : ∀ W : World, Calls Tryd.prog 13 #[.int .i64 a, .int .i64 3] W fun e w' => e = .returned (.int .i64 ((1 : Nat) : Int)) ∧ W = w' := fun W => by
      have h := picked_calls a 3 W wa (by decide) (by decide)
      rw [hPA] at h
      exact h
    have x1 := HX4.out.cell 1 _ rfl
    have f1 := (Bk.alloc HT4.out (.cells #[.string ⟨#[92, 83, 101, 101, 110]⟩, .string ⟨#[92, 68, 114, 97, 102, 116]⟩, .string ⟨#[92, 70, 108, 97, 103, 103, 101, 100]⟩] 9)).frozen 1
    have y1 := (Bk.alloc HT4.out (.cells #[.string ⟨#[92, 83, 101, 101, 110]⟩, .string ⟨#[92, 68, 114, 97, 102, 116]⟩, .string ⟨#[92, 70, 108, 97, 103, 103, 101, 100]⟩] 9)).cell 1 _ rfl
    go_upto_region 21 with fail
    go_region_held3 (fun W => W.cell? ⟨w.heap.size, 1, none⟩ = some (.int .i64 a)) (go_keep) (first
      | (go_at_call 13; with_reducible refine (PA _).mono ?_; rintro e w' ⟨rfl, rfl⟩))
    all_goals (
      clear x1 f1 y1
      have hs5 : (((w4.setCell ⟨(w.heap.size + 3), 1, none⟩ (.slice (some ⟨w.heap.size + 4, 1, none⟩) 1 2)).alloc (.cells #[.string ⟨#[92, 83, 101, 101, 110]⟩, .string ⟨#[92, 68, 114, 97, 102, 116]⟩, .string ⟨#[92, 70, 108, 97, 103, 103, 101, 100]⟩] 9)).drew).heap.size = w.heap.size + 5 := by first | (simp; done) | (simp; omega)
      have hR5 : Bk (((w4.setCell ⟨(w.heap.size + 3), 1, none⟩ (.slice (some ⟨w.heap.size + 4, 1, none⟩) 1 2)).alloc (.cells #[.string ⟨#[92, 83, 101, 101, 110]⟩, .string ⟨#[92, 68, 114, 97, 102, 116]⟩, .string ⟨#[92, 70, 108, 97, 103, 103, 101, 100]⟩] 9)).drew) (w.heap.size + 1) [.int .i64 0, .slice none 0 0, .int .i64 0, .int .i64 0, .int .i64 0, .slice none 0 0, .slice none 0 0, .bool false, .int .i64 0, .slice none 0 0, .slice none 0 0, .slice none 0 0] 34 := (Bk.drew (Bk.alloc (Bk.other (c := (w.heap.size + 3)) HR4.out (by omega) 1 (.slice (some ⟨w.heap.size + 4, 1, none⟩) 1 2)) (.cells #[.string ⟨#[92, 83, 101, 101, 110]⟩, .string ⟨#[92, 68, 114, 97, 102, 116]⟩, .string ⟨#[92, 70, 108, 97, 103, 103, 101, 100]⟩] 9)))
      have hX5 : Bk (((w4.setCell ⟨(w.heap.size + 3), 1, none⟩ (.slice (some ⟨w.heap.size + 4, 1, none⟩) 1 2)).alloc (.cells #[.string ⟨#[92, 83, 101, 101, 110]⟩, .string ⟨#[92, 68, 114, 97, 102, 116]⟩, .string ⟨#[92, 70, 108, 97, 103, 103, 101, 100]⟩] 9)).drew) w.heap.size [.int .i64 kk, .int .i64 a, .int .i64 b, .string s, .string t, .slice A inn.length c] 39 := (Bk.drew (Bk.alloc (Bk.other (c := (w.heap.size + 3)) HX4.out (by omega) 1 (.slice (some ⟨w.heap.size + 4, 1, none⟩) 1 2)) (.cells #[.string ⟨#[92, 83, 101, 101, 110]⟩, .string ⟨#[92, 68, 114, 97, 102, 116]⟩, .string ⟨#[92, 70, 108, 97, 103, 103, 101, 100]⟩] 9)))
      have hL5 : Bk (((w4.setCell ⟨(w.heap.size + 3), 1, none⟩ (.slice (some ⟨w.heap.size + 4, 1, none⟩) 1 2)).alloc (.cells #[.string ⟨#[92, 83, 101, 101, 110]⟩, .string ⟨#[92, 68, 114, 97, 102, 116]⟩, .string ⟨#[92, 70, 108, 97, 103, 103, 101, 100]⟩] 9)).drew) (w.heap.size + 2) [.int .i64 3, .int .i64 2, .int .i64 5, .int .i64 2, .int .i64 6, .int .i64 2, .int .i64 4, .int .i64 8, .int .i64 9, .int .i64 7, .int .i64 10, .int .i64 2] 3 := (Bk.drew (Bk.alloc (Bk.other (c := (w.heap.size + 3)) HL4.out (by omega) 1 (.slice (some ⟨w.heap.size + 4, 1, none⟩) 1 2)) (.cells #[.string ⟨#[92, 83, 101, 101, 110]⟩, .string ⟨#[92, 68, 114, 97, 102, 116]⟩, .string ⟨#[92, 70, 108, 97, 103, 103, 101, 100]⟩] 9)))
      have hT5 : Bk (((w4.setCell ⟨(w.heap.size + 3), 1, none⟩ (.slice (some ⟨w.heap.size + 4, 1, none⟩) 1 2)).alloc (.cells #[.string ⟨#[92, 83, 101, 101, 110]⟩, .string ⟨#[92, 68, 114, 97, 102, 116]⟩, .string ⟨#[92, 70, 108, 97, 103, 103, 101, 100]⟩] 9)).drew) (w.heap.size + 3) [.int .i64 9, .slice (some ⟨w.heap.size + 4, 1, none⟩) 1 2, .int .i64 0, .int .i64 0, .int .i64 0, .slice none 0 0, .slice none 0 0, .bool false, .int .i64 0, .slice none 0 0, .slice none 0 0, .slice none 0 0] 34 := (Bk.drew (Bk.alloc (Bk.set HT4.out 1 (.slice (some ⟨w.heap.size + 4, 1, none⟩) 1 2)) (.cells #[.string ⟨#[92, 83, 101, 101, 110]⟩, .string ⟨#[92, 68, 114, 97, 102, 116]⟩, .string ⟨#[92, 70, 108, 97, 103, 103, 101, 100]⟩] 9)))
      have hF5 : Bk (((w4.setCell ⟨(w.heap.size + 3), 1, none⟩ (.slice (some ⟨w.heap.size + 4, 1, none⟩) 1 2)).alloc (.cells #[.string ⟨#[92, 83, 101, 101, 110]⟩, .string ⟨#[92, 68, 114, 97, 102, 116]⟩, .string ⟨#[92, 70, 108, 97, 103, 103, 101, 100]⟩] 9)).drew) (w.heap.size + 4) [.string ⟨#[92, 83, 101, 101, 110]⟩, .string ⟨#[92, 68, 114, 97, 102, 116]⟩, .string ⟨#[92, 70, 108, 97, 103, 103, 101, 100]⟩] 9 := (Bk.drew (bk_newN ((w4.setCell ⟨(w.heap.size + 3), 1, none⟩ (.slice (some ⟨w.heap.size + 4, 1, none⟩) 1 2))) (w.heap.size + 4) [.string ⟨#[92, 83, 101, 101, 110]⟩, .string ⟨#[92, 68, 114, 97, 102, 116]⟩, .string ⟨#[92, 70, 108, 97, 103, 103, 101, 100]⟩] 9 (by first | omega | (simp; done) | (simp; omega))))
      have hb5 : Below w.heap.size w (((w4.setCell ⟨(w.heap.size + 3), 1, none⟩ (.slice (some ⟨w.heap.size + 4, 1, none⟩) 1 2)).alloc (.cells #[.string ⟨#[92, 83, 101, 101, 110]⟩, .string ⟨#[92, 68, 114, 97, 102, 116]⟩, .string ⟨#[92, 70, 108, 97, 103, 103, 101, 100]⟩] 9)).drew) := (Below.drew (bal (Below.setCell (p := ⟨(w.heap.size + 3), 1, none⟩) HB4.out (Nat.le_add_right _ _) (.slice (some ⟨w.heap.size + 4, 1, none⟩) 1 2)) _))
      have HR5 := Lib.hid hR5
      have HX5 := Lib.hid hX5
      have HL5 := Lib.hid hL5
      have HT5 := Lib.hid hT5
      have HF5 := Lib.hid hF5
      have HB5 := Lib.hid hb5
      clear hR5 hX5 hL5 hT5 hF5 hb5 HR4 HX4 HL4 HT4 HB4
      generalize ((w4.setCell ⟨(w.heap.size + 3), 1, none⟩ (.slice (some ⟨w.heap.size + 4, 1, none⟩) 1 2)).alloc (.cells #[.string ⟨#[92, 83, 101, 101, 110]⟩, .string ⟨#[92, 68, 114, 97, 102, 116]⟩, .string ⟨#[92, 70, 108, 97, 103, 103, 101, 100]⟩] 9)).drew = w5 at *
      have hfl : flgN a = mkS [92, 68, 114, 97, 102, 116] := by unfold flgN; rw [hPA]; rfl
      go_upto_region 22 with fail
      have x0 := HT5.out.cell 0 _ rfl
      have x1 := HT5.out.cell 1 _ rfl
      have x2 := HT5.out.cell 2 _ rfl
      have x3 := HT5.out.cell 3 _ rfl
      have x4 := HT5.out.cell 4 _ rfl
      have x5 := HT5.out.cell 5 _ rfl
      have x6 := HT5.out.cell 6 _ rfl
      have x7 := HT5.out.cell 7 _ rfl
      have x8 := HT5.out.cell 8 _ rfl
      have x9 := HT5.out.cell 9 _ rfl
      have x10 := HT5.out.cell 10 _ rfl
      have x11 := HT5.out.cell 11 _ rfl
      have f0 := HR5.out.frozen 0
      have y0 := HR5.out.cell 0 _ rfl
      have f1 := HR5.out.frozen 1
      have y1 := HR5.out.cell 1 _ rfl
      have f2 := HR5.out.frozen 2
      have y2 := HR5.out.cell 2 _ rfl
      have f3 := HR5.out.frozen 3
      have y3 := HR5.out.cell 3 _ rfl
      have f4 := HR5.out.frozen 4
      have y4 := HR5.out.cell 4 _ rfl
      have f5 := HR5.out.frozen 5
      have y5 := HR5.out.cell 5 _ rfl
      have f6 := HR5.out.frozen 6
      have y6 := HR5.out.cell 6 _ rfl
      have f7 := HR5.out.frozen 7
      have y7 := HR5.out.cell 7 _ rfl
      have f8 := HR5.out.frozen 8
      have y8 := HR5.out.cell 8 _ rfl
      have f9 := HR5.out.frozen 9
      have y9 := HR5.out.cell 9 _ rfl
      have f10 := HR5.out.frozen 10
      have y10 := HR5.out.cell 10 _ rfl
      have f11 := HR5.out.frozen 11
      have y11 := HR5.out.cell 11 _ rfl
      go_wp2_with fail
      have hbk := bk_eq (cs' := [.int .i64 9, .slice (some ⟨w.heap.size + 4, 1, none⟩) 1 2, .int .i64 0, .int .i64 0, .int .i64 0, .slice none 0 0, .slice none 0 0, .bool false, .int .i64 0, .slice none 0 0, .slice none 0 0, .slice none 0 0]) (Bk.set (Bk.set (Bk.set (Bk.set (Bk.set (Bk.set (Bk.set (Bk.set (Bk.set (Bk.set (Bk.set (Bk.set HR5.out 0 _) 1 _) 2 _) 3 _) 4 _) 5 _) 6 _) 7 _) 8 _) 9 _) 10 _) 11 _) rfl
      refine bodyPost_ret (results_cell_row rfl _ _ (w.heap.size + 1) 34 #[.int .i64 9, .slice (some ⟨w.heap.size + 4, 1, none⟩) 1 2, .int .i64 0, .int .i64 0, .int .i64 0, .slice none 0 0, .slice none 0 0, .bool false, .int .i64 0, .slice none 0 0, .slice none 0 0, .slice none 0 0] (0, 0) _ rfl hbk Tryd.underlying34 rfl (by kernel_rfl)) rfl ⟨[.int .i64 9, .slice (some ⟨w.heap.size + 4, 1, none⟩) 1 2, .int .i64 0, .int .i64 0, .int .i64 0, .slice none 0 0, .slice none 0 0, .bool false, .int .i64 0, .slice none 0 0, .slice none 0 0, .slice none 0 0], rfl, fun W hN => ?_, ?_⟩
      · exact cmdV_leaf (txs := [flgN a]) (by rw [hfl]; exact txAt_at ((Bk.neu (Bk.other (Bk.other (Bk.other (Bk.other (Bk.other (Bk.other (Bk.other (Bk.other (Bk.other (Bk.other (Bk.other (Bk.other HF5.out (by omega) 0 _) (by omega) 1 _) (by omega) 2 _) (by omega) 3 _) (by omega) 4 _) (by omega) 5 _) (by omega) 6 _) (by omega) 7 _) (by omega) 8 _) (by omega) 9 _) (by omega) 10 _) (by omega) 11 _) hN (by omega)).cell 1 _ rfl)) rfl
      · exact (Below.setCell (Below.setCell (Below.setCell (Below.setCell (Below.setCell (Below.setCell (Below.setCell (Below.setCell (Below.setCell (Below.setCell (Below.setCell (Below.setCell HB5.out (Nat.le_add_right _ _) _) (Nat.le_add_right _ _) _) (Nat.le_add_right _ _) _) (Nat.le_add_right _ _) _) (Nat.le_add_right _ _) _) (Nat.le_add_right _ _) _) (Nat.le_add_right _ _) _) (Nat.le_add_right _ _) _) (Nat.le_add_right _ _) _) (Nat.le_add_right _ _) _) (Nat.le_add_right _ _) _) (Nat.le_add_right _ _) _))
  · have PA : ∀ W : World, Calls Tryd.prog 13 #[.int .i64 a, .int .i64 3] W fun e w' => e = .returned (.int .i64 ((2 : Nat) : Int)) ∧ W = w' := fun W => by
      have h := picked_calls a 3 W wa (by decide) (by decide)
      rw [hPA] at h
      exact h
    have x1 := HX4.out.cell 1 _ rfl
    have f1 := (Bk.alloc HT4.out (.cells #[.string ⟨#[92, 83, 101, 101, 110]⟩, .string ⟨#[92, 68, 114, 97, 102, 116]⟩, .string ⟨#[92, 70, 108, 97, 103, 103, 101, 100]⟩] 9)).frozen 1
    have y1 := (Bk.alloc HT4.out (.cells #[.string ⟨#[92, 83, 101, 101, 110]⟩, .string ⟨#[92, 68, 114, 97, 102, 116]⟩, .string ⟨#[92, 70, 108, 97, 103, 103, 101, 100]⟩] 9)).cell 1 _ rfl
    go_upto_region 21 with fail
    go_region_held3 (fun W => W.cell? ⟨w.heap.size, 1, none⟩ = some (.int .i64 a)) (go_keep) (first
      | (go_at_call 13; with_reducible refine (PA _).mono ?_; rintro e w' ⟨rfl, rfl⟩))
    all_goals (
      clear x1 f1 y1
      have hs5 : (((w4.setCell ⟨(w.heap.size + 3), 1, none⟩ (.slice (some ⟨w.heap.size + 4, 2, none⟩) 1 1)).alloc (.cells #[.string ⟨#[92, 83, 101, 101, 110]⟩, .string ⟨#[92, 68, 114, 97, 102, 116]⟩, .string ⟨#[92, 70, 108, 97, 103, 103, 101, 100]⟩] 9)).drew).heap.size = w.heap.size + 5 := by first | (simp; done) | (simp; omega)
      have hR5 : Bk (((w4.setCell ⟨(w.heap.size + 3), 1, none⟩ (.slice (some ⟨w.heap.size + 4, 2, none⟩) 1 1)).alloc (.cells #[.string ⟨#[92, 83, 101, 101, 110]⟩, .string ⟨#[92, 68, 114, 97, 102, 116]⟩, .string ⟨#[92, 70, 108, 97, 103, 103, 101, 100]⟩] 9)).drew) (w.heap.size + 1) [.int .i64 0, .slice none 0 0, .int .i64 0, .int .i64 0, .int .i64 0, .slice none 0 0, .slice none 0 0, .bool false, .int .i64 0, .slice none 0 0, .slice none 0 0, .slice none 0 0] 34 := (Bk.drew (Bk.alloc (Bk.other (c := (w.heap.size + 3)) HR4.out (by omega) 1 (.slice (some ⟨w.heap.size + 4, 2, none⟩) 1 1)) (.cells #[.string ⟨#[92, 83, 101, 101, 110]⟩, .string ⟨#[92, 68, 114, 97, 102, 116]⟩, .string ⟨#[92, 70, 108, 97, 103, 103, 101, 100]⟩] 9)))
      have hX5 : Bk (((w4.setCell ⟨(w.heap.size + 3), 1, none⟩ (.slice (some ⟨w.heap.size + 4, 2, none⟩) 1 1)).alloc (.cells #[.string ⟨#[92, 83, 101, 101, 110]⟩, .string ⟨#[92, 68, 114, 97, 102, 116]⟩, .string ⟨#[92, 70, 108, 97, 103, 103, 101, 100]⟩] 9)).drew) w.heap.size [.int .i64 kk, .int .i64 a, .int .i64 b, .string s, .string t, .slice A inn.length c] 39 := (Bk.drew (Bk.alloc (Bk.other (c := (w.heap.size + 3)) HX4.out (by omega) 1 (.slice (some ⟨w.heap.size + 4, 2, none⟩) 1 1)) (.cells #[.string ⟨#[92, 83, 101, 101, 110]⟩, .string ⟨#[92, 68, 114, 97, 102, 116]⟩, .string ⟨#[92, 70, 108, 97, 103, 103, 101, 100]⟩] 9)))
      have hL5 : Bk (((w4.setCell ⟨(w.heap.size + 3), 1, none⟩ (.slice (some ⟨w.heap.size + 4, 2, none⟩) 1 1)).alloc (.cells #[.string ⟨#[92, 83, 101, 101, 110]⟩, .string ⟨#[92, 68, 114, 97, 102, 116]⟩, .string ⟨#[92, 70, 108, 97, 103, 103, 101, 100]⟩] 9)).drew) (w.heap.size + 2) [.int .i64 3, .int .i64 2, .int .i64 5, .int .i64 2, .int .i64 6, .int .i64 2, .int .i64 4, .int .i64 8, .int .i64 9, .int .i64 7, .int .i64 10, .int .i64 2] 3 := (Bk.drew (Bk.alloc (Bk.other (c := (w.heap.size + 3)) HL4.out (by omega) 1 (.slice (some ⟨w.heap.size + 4, 2, none⟩) 1 1)) (.cells #[.string ⟨#[92, 83, 101, 101, 110]⟩, .string ⟨#[92, 68, 114, 97, 102, 116]⟩, .string ⟨#[92, 70, 108, 97, 103, 103, 101, 100]⟩] 9)))
      have hT5 : Bk (((w4.setCell ⟨(w.heap.size + 3), 1, none⟩ (.slice (some ⟨w.heap.size + 4, 2, none⟩) 1 1)).alloc (.cells #[.string ⟨#[92, 83, 101, 101, 110]⟩, .string ⟨#[92, 68, 114, 97, 102, 116]⟩, .string ⟨#[92, 70, 108, 97, 103, 103, 101, 100]⟩] 9)).drew) (w.heap.size + 3) [.int .i64 9, .slice (some ⟨w.heap.size + 4, 2, none⟩) 1 1, .int .i64 0, .int .i64 0, .int .i64 0, .slice none 0 0, .slice none 0 0, .bool false, .int .i64 0, .slice none 0 0, .slice none 0 0, .slice none 0 0] 34 := (Bk.drew (Bk.alloc (Bk.set HT4.out 1 (.slice (some ⟨w.heap.size + 4, 2, none⟩) 1 1)) (.cells #[.string ⟨#[92, 83, 101, 101, 110]⟩, .string ⟨#[92, 68, 114, 97, 102, 116]⟩, .string ⟨#[92, 70, 108, 97, 103, 103, 101, 100]⟩] 9)))
      have hF5 : Bk (((w4.setCell ⟨(w.heap.size + 3), 1, none⟩ (.slice (some ⟨w.heap.size + 4, 2, none⟩) 1 1)).alloc (.cells #[.string ⟨#[92, 83, 101, 101, 110]⟩, .string ⟨#[92, 68, 114, 97, 102, 116]⟩, .string ⟨#[92, 70, 108, 97, 103, 103, 101, 100]⟩] 9)).drew) (w.heap.size + 4) [.string ⟨#[92, 83, 101, 101, 110]⟩, .string ⟨#[92, 68, 114, 97, 102, 116]⟩, .string ⟨#[92, 70, 108, 97, 103, 103, 101, 100]⟩] 9 := (Bk.drew (bk_newN ((w4.setCell ⟨(w.heap.size + 3), 1, none⟩ (.slice (some ⟨w.heap.size + 4, 2, none⟩) 1 1))) (w.heap.size + 4) [.string ⟨#[92, 83, 101, 101, 110]⟩, .string ⟨#[92, 68, 114, 97, 102, 116]⟩, .string ⟨#[92, 70, 108, 97, 103, 103, 101, 100]⟩] 9 (by first | omega | (simp; done) | (simp; omega))))
      have hb5 : Below w.heap.size w (((w4.setCell ⟨(w.heap.size + 3), 1, none⟩ (.slice (some ⟨w.heap.size + 4, 2, none⟩) 1 1)).alloc (.cells #[.string ⟨#[92, 83, 101, 101, 110]⟩, .string ⟨#[92, 68, 114, 97, 102, 116]⟩, .string ⟨#[92, 70, 108, 97, 103, 103, 101, 100]⟩] 9)).drew) := (Below.drew (bal (Below.setCell (p := ⟨(w.heap.size + 3), 1, none⟩) HB4.out (Nat.le_add_right _ _) (.slice (some ⟨w.heap.size + 4, 2, none⟩) 1 1)) _))
      have HR5 := Lib.hid hR5
      have HX5 := Lib.hid hX5
      have HL5 := Lib.hid hL5
      have HT5 := Lib.hid hT5
      have HF5 := Lib.hid hF5
      have HB5 := Lib.hid hb5
      clear hR5 hX5 hL5 hT5 hF5 hb5 HR4 HX4 HL4 HT4 HB4
      generalize ((w4.setCell ⟨(w.heap.size + 3), 1, none⟩ (.slice (some ⟨w.heap.size + 4, 2, none⟩) 1 1)).alloc (.cells #[.string ⟨#[92, 83, 101, 101, 110]⟩, .string ⟨#[92, 68, 114, 97, 102, 116]⟩, .string ⟨#[92, 70, 108, 97, 103, 103, 101, 100]⟩] 9)).drew = w5 at *
      have hfl : flgN a = mkS [92, 70, 108, 97, 103, 103, 101, 100] := by unfold flgN; rw [hPA]; rfl
      go_upto_region 22 with fail
      have x0 := HT5.out.cell 0 _ rfl
      have x1 := HT5.out.cell 1 _ rfl
      have x2 := HT5.out.cell 2 _ rfl
      have x3 := HT5.out.cell 3 _ rfl
      have x4 := HT5.out.cell 4 _ rfl
      have x5 := HT5.out.cell 5 _ rfl
      have x6 := HT5.out.cell 6 _ rfl
      have x7 := HT5.out.cell 7 _ rfl
      have x8 := HT5.out.cell 8 _ rfl
      have x9 := HT5.out.cell 9 _ rfl
      have x10 := HT5.out.cell 10 _ rfl
      have x11 := HT5.out.cell 11 _ rfl
      have f0 := HR5.out.frozen 0
      have y0 := HR5.out.cell 0 _ rfl
      have f1 := HR5.out.frozen 1
      have y1 := HR5.out.cell 1 _ rfl
      have f2 := HR5.out.frozen 2
      have y2 := HR5.out.cell 2 _ rfl
      have f3 := HR5.out.frozen 3
      have y3 := HR5.out.cell 3 _ rfl
      have f4 := HR5.out.frozen 4
      have y4 := HR5.out.cell 4 _ rfl
      have f5 := HR5.out.frozen 5
      have y5 := HR5.out.cell 5 _ rfl
      have f6 := HR5.out.frozen 6
      have y6 := HR5.out.cell 6 _ rfl
      have f7 := HR5.out.frozen 7
      have y7 := HR5.out.cell 7 _ rfl
      have f8 := HR5.out.frozen 8
      have y8 := HR5.out.cell 8 _ rfl
      have f9 := HR5.out.frozen 9
      have y9 := HR5.out.cell 9 _ rfl
      have f10 := HR5.out.frozen 10
      have y10 := HR5.out.cell 10 _ rfl
      have f11 := HR5.out.frozen 11
      have y11 := HR5.out.cell 11 _ rfl
      go_wp2_with fail
      have hbk := bk_eq (cs' := [.int .i64 9, .slice (some ⟨w.heap.size + 4, 2, none⟩) 1 1, .int .i64 0, .int .i64 0, .int .i64 0, .slice none 0 0, .slice none 0 0, .bool false, .int .i64 0, .slice none 0 0, .slice none 0 0, .slice none 0 0]) (Bk.set (Bk.set (Bk.set (Bk.set (Bk.set (Bk.set (Bk.set (Bk.set (Bk.set (Bk.set (Bk.set (Bk.set HR5.out 0 _) 1 _) 2 _) 3 _) 4 _) 5 _) 6 _) 7 _) 8 _) 9 _) 10 _) 11 _) rfl
      refine bodyPost_ret (results_cell_row rfl _ _ (w.heap.size + 1) 34 #[.int .i64 9, .slice (some ⟨w.heap.size + 4, 2, none⟩) 1 1, .int .i64 0, .int .i64 0, .int .i64 0, .slice none 0 0, .slice none 0 0, .bool false, .int .i64 0, .slice none 0 0, .slice none 0 0, .slice none 0 0] (0, 0) _ rfl hbk Tryd.underlying34 rfl (by kernel_rfl)) rfl ⟨[.int .i64 9, .slice (some ⟨w.heap.size + 4, 2, none⟩) 1 1, .int .i64 0, .int .i64 0, .int .i64 0, .slice none 0 0, .slice none 0 0, .bool false, .int .i64 0, .slice none 0 0, .slice none 0 0, .slice none 0 0], rfl, fun W hN => ?_, ?_⟩
      · exact cmdV_leaf (txs := [flgN a]) (by rw [hfl]; exact txAt_at ((Bk.neu (Bk.other (Bk.other (Bk.other (Bk.other (Bk.other (Bk.other (Bk.other (Bk.other (Bk.other (Bk.other (Bk.other (Bk.other HF5.out (by omega) 0 _) (by omega) 1 _) (by omega) 2 _) (by omega) 3 _) (by omega) 4 _) (by omega) 5 _) (by omega) 6 _) (by omega) 7 _) (by omega) 8 _) (by omega) 9 _) (by omega) 10 _) (by omega) 11 _) hN (by omega)).cell 2 _ rfl)) rfl
      · exact (Below.setCell (Below.setCell (Below.setCell (Below.setCell (Below.setCell (Below.setCell (Below.setCell (Below.setCell (Below.setCell (Below.setCell (Below.setCell (Below.setCell HB5.out (Nat.le_add_right _ _) _) (Nat.le_add_right _ _) _) (Nat.le_add_right _ _) _) (Nat.le_add_right _ _) _) (Nat.le_add_right _ _) _) (Nat.le_add_right _ _) _) (Nat.le_add_right _ _) _) (Nat.le_add_right _ _) _) (Nat.le_add_right _ _) _) (Nat.le_add_right _ _) _) (Nat.le_add_right _ _) _) (Nat.le_add_right _ _) _))
end Go.Proofs.YtgmnoemkdigafaaDoor
namespace Go.Proofs.YtgmnoemkdigafaaDoor
open Go.RowKit
set_option linter.unusedVariables false

set_option maxRecDepth 100000 in
set_option maxHeartbeats 8000000 in
theorem cmd_10 (kk a b : Int) (s t : ByteArray) (inn : List Stk) (A : Option Addr) (c : Nat) (d : Int) (w : World) (hd0 : 0 ≤ d) (hd : d ≤ 1000) (hP12 : pickN kk 12 = 10) (hB : StkB kk a b s t inn.length c) (hA : StksAt w inn A) :
    Calls Tryd.prog 47 #[.agg #[.int .i64 kk, .int .i64 a, .int .i64 b, .string s, .string t, .slice A inn.length c], .int .i64 d] w fun e w' => ∃ tv, e = .returned (.agg (List.toArray tv)) ∧ (∀ W, New w.heap.size w' W → CmdV W (leafC 10 (.mk kk a b s t inn)) tv) ∧ Below w.heap.size w w' := by
  obtain ⟨wk, wa, wb, ws, wt, hc1, hc2⟩ := hB
  unfold maxLen at ws wt hc2
  have hX := Bk.new w [.int .i64 kk, .int .i64 a, .int .i64 b, .string s, .string t, .slice A inn.length c] 39
  have hbx : Below w.heap.size w (w.alloc (.cells #[.int .i64 kk, .int .i64 a, .int .i64 b, .string s, .string t, .slice A inn.length c] 39)) := bal (Below.refl _ _) _
  have HX := Lib.hid hX
  have Hbx := Lib.hid hbx
  clear hX hbx
  have P12 : ∀ W : World, Calls Tryd.prog 13 #[.int .i64 kk, .int .i64 12] W fun e w' => e = .returned (.int .i64 ((10 : Nat) : Int)) ∧ W = w' := fun W => by
    have h := picked_calls kk 12 W wk (by decide) (by decide)
    rw [hP12] at h
    exact h
  go_enter Tryd.func47, Tryd.ntmps47
  go_upto_region 1 with fail
  have hR := Bk.new (w.alloc (.cells #[.int .i64 kk, .int .i64 a, .int .i64 b, .string s, .string t, .slice A inn.length c] 39)) [.int .i64 0, .slice none 0 0, .int .i64 0, .int .i64 0, .int .i64 0, .slice none 0 0, .slice none 0 0, .bool false, .int .i64 0, .slice none 0 0, .slice none 0 0, .slice none 0 0] 34
  have hX2 := HX.out.alloc (.cells #[.int .i64 0, .slice none 0 0, .int .i64 0, .int .i64 0, .int .i64 0, .slice none 0 0, .slice none 0 0, .bool false, .int .i64 0, .slice none 0 0, .slice none 0 0, .slice none 0 0] 34)
  have hb2 := bal Hbx.out (.cells #[.int .i64 0, .slice none 0 0, .int .i64 0, .int .i64 0, .int .i64 0, .slice none 0 0, .slice none 0 0, .bool false, .int .i64 0, .slice none 0 0, .slice none 0 0, .slice none 0 0] 34)
  have hs1 : (w.alloc (.cells #[.int .i64 kk, .int .i64 a, .int .i64 b, .string s, .string t, .slice A inn.length c] 39)).heap.size = w.heap.size + 1 := by simp
  rw [hs1] at hR
  have hs2 : ((w.alloc (.cells #[.int .i64 kk, .int .i64 a, .int .i64 b, .string s, .string t, .slice A inn.length c] 39)).alloc (.cells #[.int .i64 0, .slice none 0 0, .int .i64 0, .int .i64 0, .int .i64 0, .slice none 0 0, .slice none 0 0, .bool false, .int .i64 0, .slice none 0 0, .slice none 0 0, .slice none 0 0] 34)).heap.size = w.heap.size + 2 := by simp
  have HR := Lib.hid hR
  have HX2 := Lib.hid hX2
  have Hb2 := Lib.hid hb2
  clear hR hX2 hb2 hs1 HX Hbx
  generalize (w.alloc (.cells #[.int .i64 kk, .int .i64 a, .int .i64 b, .string s, .string t, .slice A inn.length c] 39)).alloc (.cells #[.int .i64 0, .slice none 0 0, .int .i64 0, .int .i64 0, .int .i64 0, .slice none 0 0, .slice none 0 0, .bool false, .int .i64 0, .slice none 0 0, .slice none 0 0, .slice none 0 0] 34) = w2 at *
  have x0 := HX2.out.cell 0 _ rfl
  go_upto_region 2 with (go_at_call 13; refine (P12 _).mono ?_; rintro e w' ⟨rfl, rfl⟩)
  clear P12 x0
  have hs3 : (w2.alloc (.cells #[.int .i64 3, .int .i64 2, .int .i64 5, .int .i64 2, .int .i64 6, .int .i64 2, .int .i64 4, .int .i64 8, .int .i64 9, .int .i64 7, .int .i64 10, .int .i64 2] 3)).heap.size = w.heap.size + 3 := by first | (simp; done) | (simp; omega)
  have hR3 : Bk (w2.alloc (.cells #[.int .i64 3, .int .i64 2, .int .i64 5, .int .i64 2, .int .i64 6, .int .i64 2, .int .i64 4, .int .i64 8, .int .i64 9, .int .i64 7, .int .i64 10, .int .i64 2] 3)) (w.heap.size + 1) [.int .i64 0, .slice none 0 0, .int .i64 0, .int .i64 0, .int .i64 0, .slice none 0 0, .slice none 0 0, .bool false, .int .i64 0, .slice none 0 0, .slice none 0 0, .slice none 0 0] 34 := (Bk.alloc HR.out (.cells #[.int .i64 3, .int .i64 2, .int .i64 5, .int .i64 2, .int .i64 6, .int .i64 2, .int .i64 4, .int .i64 8, .int .i64 9, .int .i64 7, .int .i64 10, .int .i64 2] 3))
  have hX3 : Bk (w2.alloc (.cells #[.int .i64 3, .int .i64 2, .int .i64 5, .int .i64 2, .int .i64 6, .int .i64 2, .int .i64 4, .int .i64 8, .int .i64 9, .int .i64 7, .int .i64 10, .int .i64 2] 3)) w.heap.size [.int .i64 kk, .int .i64 a, .int .i64 b, .string s, .string t, .slice A inn.length c] 39 := (Bk.alloc HX2.out (.cells #[.int .i64 3, .int .i64 2, .int .i64 5, .int .i64 2, .int .i64 6, .int .i64 2, .int .i64 4, .int .i64 8, .int .i64 9, .int .i64 7, .int .i64 10, .int .i64 2] 3))
  have hL3 : Bk (w2.alloc (.cells #[.int .i64 3, .int .i64 2, .int .i64 5, .int .i64 2, .int .i64 6, .int .i64 2, .int .i64 4, .int .i64 8, .int .i64 9, .int .i64 7, .int .i64 10, .int .i64 2] 3)) (w.heap.size + 2) [.int .i64 3, .int .i64 2, .int .i64 5, .int .i64 2, .int .i64 6, .int .i64 2, .int .i64 4, .int .i64 8, .int .i64 9, .int .i64 7, .int .i64 10, .int .i64 2] 3 := (bk_newN (w2) (w.heap.size + 2) [.int .i64 3, .int .i64 2, .int .i64 5, .int .i64 2, .int .i64 6, .int .i64 2, .int .i64 4, .int .i64 8, .int .i64 9, .int .i64 7, .int .i64 10, .int .i64 2] 3 (by first | omega | (simp; done) | (simp; omega)))
  have hb3 : Below w.heap.size w (w2.alloc (.cells #[.int .i64 3, .int .i64 2, .int .i64 5, .int .i64 2, .int .i64 6, .int .i64 2, .int .i64 4, .int .i64 8, .int .i64 9, .int .i64 7, .int .i64 10, .int .i64 2] 3)) := (bal Hb2.out _)
  have HR3 := Lib.hid hR3
  have HX3 := Lib.hid hX3
  have HL3 := Lib.hid hL3
  have HB3 := Lib.hid hb3
  clear hR3 hX3 hL3 hb3 HR HX2 Hb2
  generalize w2.alloc (.cells #[.int .i64 3, .int .i64 2, .int .i64 5, .int .i64 2, .int .i64 6, .int .i64 2, .int .i64 4, .int .i64 8, .int .i64 9, .int .i64 7, .int .i64 10, .int .i64 2] 3) = w3 at *
  go_upto_region 5 with fail
  have hs4 : (w3.alloc (.cells #[.int .i64 10, .slice none 0 0, .int .i64 0, .int .i64 0, .int .i64 0, .slice none 0 0, .slice none 0 0, .bool false, .int .i64 0, .slice none 0 0, .slice none 0 0, .slice none 0 0] 34)).heap.size = w.heap.size + 4 := by first | (simp; done) | (simp; omega)
  have hR4 : Bk (w3.alloc (.cells #[.int .i64 10, .slice none 0 0, .int .i64 0, .int .i64 0, .int .i64 0, .slice none 0 0, .slice none 0 0, .bool false, .int .i64 0, .slice none 0 0, .slice none 0 0, .slice none 0 0] 34)) (w.heap.size + 1) [.int .i64 0, .slice none 0 0, .int .i64 0, .int .i64 0, .int .i64 0, .slice none 0 0, .slice none 0 0, .bool false, .int .i64 0, .slice none 0 0, .slice none 0 0, .slice none 0 0] 34 := (Bk.alloc HR3.out (.cells #[.int .i64 10, .slice none 0 0, .int .i64 0, .int .i64 0, .int .i64 0, .slice none 0 0, .slice none 0 0, .bool false, .int .i64 0, .slice none 0 0, .slice none 0 0, .slice none 0 0] 34))
  have hX4 : Bk (w3.alloc (.cells #[.int .i64 10, .slice none 0 0, .int .i64 0, .int .i64 0, .int .i64 0, .slice none 0 0, .slice none 0 0, .bool false, .int .i64 0, .slice none 0 0, .slice none 0 0, .slice none 0 0] 34)) w.heap.size [.int .i64 kk, .int .i64 a, .int .i64 b, .string s, .string t, .slice A inn.length c] 39 := (Bk.alloc HX3.out (.cells #[.int .i64 10, .slice none 0 0, .int .i64 0, .int .i64 0, .int .i64 0, .slice none 0 0, .slice none 0 0, .bool false, .int .i64 0, .slice none 0 0, .slice none 0 0, .slice none 0 0] 34))
  have hL4 : Bk (w3.alloc (.cells #[.int .i64 10, .slice none 0 0, .int .i64 0, .int .i64 0, .int .i64 0, .slice none 0 0, .slice none 0 0, .bool false, .int .i64 0, .slice none 0 0, .slice none 0 0, .slice none 0 0] 34)) (w.heap.size + 2) [.int .i64 3, .int .i64 2, .int .i64 5, .int .i64 2, .int .i64 6, .int .i64 2, .int .i64 4, .int .i64 8, .int .i64 9, .int .i64 7, .int .i64 10, .int .i64 2] 3 := (Bk.alloc HL3.out (.cells #[.int .i64 10, .slice none 0 0, .int .i64 0, .int .i64 0, .int .i64 0, .slice none 0 0, .slice none 0 0, .bool false, .int .i64 0, .slice none 0 0, .slice none 0 0, .slice none 0 0] 34))
  have hT4 : Bk (w3.alloc (.cells #[.int .i64 10, .slice none 0 0, .int .i64 0, .int .i64 0, .int .i64 0, .slice none 0 0, .slice none 0 0, .bool false, .int .i64 0, .slice none 0 0, .slice none 0 0, .slice none 0 0] 34)) (w.heap.size + 3) [.int .i64 10, .slice none 0 0, .int .i64 0, .int .i64 0, .int .i64 0, .slice none 0 0, .slice none 0 0, .bool false, .int .i64 0, .slice none 0 0, .slice none 0 0, .slice none 0 0] 34 := (bk_newN (w3) (w.heap.size + 3) [.int .i64 10, .slice none 0 0, .int .i64 0, .int .i64 0, .int .i64 0, .slice none 0 0, .slice none 0 0, .bool false, .int .i64 0, .slice none 0 0, .slice none 0 0, .slice none 0 0] 34 (by first | omega | (simp; done) | (simp; omega)))
  have hb4 : Below w.heap.size w (w3.alloc (.cells #[.int .i64 10, .slice none 0 0, .int .i64 0, .int .i64 0, .int .i64 0, .slice none 0 0, .slice none 0 0, .bool false, .int .i64 0, .slice none 0 0, .slice none 0 0, .slice none 0 0] 34)) := (bal HB3.out _)
  have HR4 := Lib.hid hR4
  have HX4 := Lib.hid hX4
  have HL4 := Lib.hid hL4
  have HT4 := Lib.hid hT4
  have HB4 := Lib.hid hb4
  clear hR4 hX4 hL4 hT4 hb4 HR3 HX3 HL3 HB3
  generalize w3.alloc (.cells #[.int .i64 10, .slice none 0 0, .int .i64 0, .int .i64 0, .int .i64 0, .slice none 0 0, .slice none 0 0, .bool false, .int .i64 0, .slice none 0 0, .slice none 0 0, .slice none 0 0] 34) = w4 at *
  have x0 := HT4.out.cell 0 _ rfl
  have x1 := HT4.out.cell 1 _ rfl
  have x2 := HT4.out.cell 2 _ rfl
  have x3 := HT4.out.cell 3 _ rfl
  have x4 := HT4.out.cell 4 _ rfl
  have x5 := HT4.out.cell 5 _ rfl
  have x6 := HT4.out.cell 6 _ rfl
  have x7 := HT4.out.cell 7 _ rfl
  have x8 := HT4.out.cell 8 _ rfl
  have x9 := HT4.out.cell 9 _ rfl
  have x10 := HT4.out.cell 10 _ rfl
  have x11 := HT4.out.cell 11 _ rfl
  have f0 := HR4.out.frozen 0
  have y0 := HR4.out.cell 0 _ rfl
  have f1 := HR4.out.frozen 1
  have y1 := HR4.out.cell 1 _ rfl
  have f2 := HR4.out.frozen 2
  have y2 := HR4.out.cell 2 _ rfl
  have f3 := HR4.out.frozen 3
  have y3 := HR4.out.cell 3 _ rfl
  have f4 := HR4.out.frozen 4
  have y4 := HR4.out.cell 4 _ rfl
  have f5 := HR4.out.frozen 5
  have y5 := HR4.out.cell 5 _ rfl
  have f6 := HR4.out.frozen 6
  have y6 := HR4.out.cell 6 _ rfl
  have f7 := HR4.out.frozen 7
  have y7 := HR4.out.cell 7 _ rfl
  have f8 := HR4.out.frozen 8
  have y8 := HR4.out.cell 8 _ rfl
  have f9 := HR4.out.frozen 9
  have y9 := HR4.out.cell 9 _ rfl
  have f10 := HR4.out.frozen 10
  have y10 := HR4.out.cell 10 _ rfl
  have f11 := HR4.out.frozen 11
  have y11 := HR4.out.cell 11 _ rfl
  go_wp2_with fail
  have hbk := bk_eq (cs' := [.int .i64 10, .slice none 0 0, .int .i64 0, .int .i64 0, .int .i64 0, .slice none 0 0, .slice none 0 0, .bool false, .int .i64 0, .slice none 0 0, .slice none 0 0, .slice none 0 0]) (Bk.set (Bk.set (Bk.set (Bk.set (Bk.set (Bk.set (Bk.set (Bk.set (Bk.set (Bk.set (Bk.set (Bk.set HR4.out 0 _) 1 _) 2 _) 3 _) 4 _) 5 _) 6 _) 7 _) 8 _) 9 _) 10 _) 11 _) rfl
  refine bodyPost_ret (results_cell_row rfl _ _ (w.heap.size + 1) 34 #[.int .i64 10, .slice none 0 0, .int .i64 0, .int .i64 0, .int .i64 0, .slice none 0 0, .slice none 0 0, .bool false, .int .i64 0, .slice none 0 0, .slice none 0 0, .slice none 0 0] (0, 0) _ rfl hbk Tryd.underlying34 rfl (by kernel_rfl)) rfl ⟨[.int .i64 10, .slice none 0 0, .int .i64 0, .int .i64 0, .int .i64 0, .slice none 0 0, .slice none 0 0, .bool false, .int .i64 0, .slice none 0 0, .slice none 0 0, .slice none 0 0], rfl, fun W hN => ?_, ?_⟩
  · exact cmdV_leaf (txs := []) (.inl rfl) rfl
  · exact (Below.setCell (Below.setCell (Below.setCell (Below.setCell (Below.setCell (Below.setCell (Below.setCell (Below.setCell (Below.setCell (Below.setCell (Below.setCell (Below.setCell HB4.out (Nat.le_add_right _ _) _) (Nat.le_add_right _ _) _) (Nat.le_add_right _ _) _) (Nat.le_add_right _ _) _) (Nat.le_add_right _ _) _) (Nat.le_add_right _ _) _) (Nat.le_add_right _ _) _) (Nat.le_add_right _ _) _) (Nat.le_add_right _ _) _) (Nat.le_add_right _ _) _) (Nat.le_add_right _ _) _) (Nat.le_add_right _ _) _)
end Go.Proofs.YtgmnoemkdigafaaDoor
namespace Go.Proofs.YtgmnoemkdigafaaDoor
open Go.RowKit
set_option linter.unusedVariables false

theorem stkSz_inn {kk a b : Int} {s t : ByteArray} {inn : List Stk} (h : StkSz (.mk kk a b s t inn)) : inn.length ≤ 140737488351232 ∧ ∀ s ∈ inn, StkSz s := by
  unfold StkSz at h; exact h
theorem cmdN_leaf {n : Nat} {kk a b : Int} {s t : ByteArray} {inn : List Stk} (v : Nat) (K : Int) (hp : pickN kk 12 = v) (hk : kindsC.getD v 0 = K) (h2 : K ≠ 2) : cmdN n (.mk kk a b s t inn) = leafC K (.mk kk a b s t inn) := by
  have e : (Stk.mk kk a b s t inn).kc = K := by show kindsC.getD (pickN kk 12) 0 = K; rw [hp, hk]
  cases n with
  | zero => unfold cmdN; rw [e, if_neg h2]
  | succ n => unfold cmdN; rw [e, if_neg h2]
theorem cmdn_calls : ∀ (n : Nat) (x : Stk) (d : Int) (vs : List Value) (w : World), 0 ≤ d → d + n = 2 → StkSz x → StkV w x vs →
    Calls Tryd.prog 47 #[.agg vs.toArray, .int .i64 d] w (CmdA (cmdN n x) w) := by
  intro n
  induction n with
  | zero =>
    intro x d vs w hd0 hd hsz hv
    obtain ⟨kk, a, b, s, t, inn⟩ := x
    unfold StkV at hv
    obtain ⟨A, c, rfl, hA, hB⟩ := hv
    have hp := pickN_lt kk 12 (by decide)
    have hd1 : d ≤ 1000 := by omega
    have hd2 : 2 ≤ d := by omega
    have hif : ∀ v : Nat, pickN kk 12 = v → kindsC.getD v 0 = 2 → cmdN 0 (.mk kk a b s t inn) = leafC 3 (.mk kk a b s t inn) := fun v h1 h2 => by
      have e : (Stk.mk kk a b s t inn).kc = 2 := by show kindsC.getD (pickN kk 12) 0 = 2; rw [h1, h2]
      unfold cmdN; rw [e, if_pos rfl]
    rcases (show pickN kk 12 = 0 ∨ pickN kk 12 = 1 ∨ pickN kk 12 = 2 ∨ pickN kk 12 = 3 ∨ pickN kk 12 = 4 ∨ pickN kk 12 = 5 ∨ pickN kk 12 = 6 ∨ pickN kk 12 = 7 ∨ pickN kk 12 = 8 ∨ pickN kk 12 = 9 ∨ pickN kk 12 = 10 ∨ pickN kk 12 = 11 by omega) with h | h | h | h | h | h | h | h | h | h | h | h
    · exact cmdA_of (cmd_3 kk a b s t inn A c d w hd0 hd1 h hB hA) (cmdN_leaf 0 3 h rfl (by decide))
    · exact cmdA_of (cmd_h 1 (by decide) kk a b s t inn A c d w hd0 hd1 hd2 h hB hA) (hif 1 h rfl)
    · exact cmdA_of (cmd_5 kk a b s t inn A c d w hd0 hd1 h hB hA) (cmdN_leaf 2 5 h rfl (by decide))
    · exact cmdA_of (cmd_h 3 (by decide) kk a b s t inn A c d w hd0 hd1 hd2 h hB hA) (hif 3 h rfl)
    · exact cmdA_of (cmd_6 kk a b s t inn A c d w hd0 hd1 h hB hA) (cmdN_leaf 4 6 h rfl (by decide))
    · exact cmdA_of (cmd_h 5 (by decide) kk a b s t inn A c d w hd0 hd1 hd2 h hB hA) (hif 5 h rfl)
    · exact cmdA_of (cmd_4 kk a b s t inn A c d w hd0 hd1 h hB hA) (cmdN_leaf 6 4 h rfl (by decide))
    · exact cmdA_of (cmd_8 kk a b s t inn A c d w hd0 hd1 h hB hA) (cmdN_leaf 7 8 h rfl (by decide))
    · exact cmdA_of (cmd_9 kk a b s t inn A c d w hd0 hd1 h hB hA) (cmdN_leaf 8 9 h rfl (by decide))
    · exact cmdA_of (cmd_7 kk a b s t inn A c d w hd0 hd1 h hB hA) (cmdN_leaf 9 7 h rfl (by decide))
    · exact cmdA_of (cmd_10 kk a b s t inn A c d w hd0 hd1 h hB hA) (cmdN_leaf 10 10 h rfl (by decide))
    · exact cmdA_of (cmd_h 11 (by decide) kk a b s t inn A c d w hd0 hd1 hd2 h hB hA) (hif 11 h rfl)
  | succ n ih =>
    intro x d vs w hd0 hd hsz hv
    obtain ⟨kk, a, b, s, t, inn⟩ := x
    obtain ⟨hi1, hi2⟩ := stkSz_inn hsz
    unfold StkV at hv
    obtain ⟨A, c, rfl, hA, hB⟩ := hv
    have hp := pickN_lt kk 12 (by decide)
    have hd1 : d ≤ 1000 := by omega
    have hd2 : d < 2 := by omega
    have hcfl : ∀ l, (cmdsN n l).length ≤ 4 := fun l => by unfold cmdsN; rw [List.length_map, List.length_take]; omega
    have ihc : ∀ (l : List Stk) (A : Option Addr) (c : Nat) (W : World), (∀ s ∈ l, s ∈ inn) → StksAt W l A → l.length ≤ 140737488351232 → Calls Tryd.prog 31 #[.slice A l.length c, .int .i64 (d + 1)] W (CmdsA (cmdsN n l) W) := fun l A c W hm hl hn =>
      commands_of (cmdN n) (d + 1) l (fun y hy vs W hv => ih y (d + 1) vs W (by omega) (by omega) (hi2 y (hm y hy)) hv) A c W hl (by omega)
    have hif : ∀ v : Nat, pickN kk 12 = v → kindsC.getD v 0 = 2 → cmdN (n + 1) (.mk kk a b s t inn) = .mk 2 [] (testN 2 (Stk.mk kk a b s t inn).tst) (cmdsN n (inn.take ((inn.length + 1) / 2))) (cmdsN n (inn.drop ((inn.length + 1) / 2))) := fun v h1 h2 => by
      have e : (Stk.mk kk a b s t inn).kc = 2 := by show kindsC.getD (pickN kk 12) 0 = 2; rw [h1, h2]
      rw [cmdN, e, if_pos rfl]; rfl
    rcases (show pickN kk 12 = 0 ∨ pickN kk 12 = 1 ∨ pickN kk 12 = 2 ∨ pickN kk 12 = 3 ∨ pickN kk 12 = 4 ∨ pickN kk 12 = 5 ∨ pickN kk 12 = 6 ∨ pickN kk 12 = 7 ∨ pickN kk 12 = 8 ∨ pickN kk 12 = 9 ∨ pickN kk 12 = 10 ∨ pickN kk 12 = 11 by omega) with h | h | h | h | h | h | h | h | h | h | h | h
    · exact cmdA_of (cmd_3 kk a b s t inn A c d w hd0 hd1 h hB hA) (cmdN_leaf 0 3 h rfl (by decide))
    · exact cmdA_of (cmd_i 1 (by decide) kk a b s t inn A c d w hd0 hd1 hd2 hi1 (cmdsN n) hcfl ihc h hB hA) (hif 1 h rfl)
    · exact cmdA_of (cmd_5 kk a b s t inn A c d w hd0 hd1 h hB hA) (cmdN_leaf 2 5 h rfl (by decide))
    · exact cmdA_of (cmd_i 3 (by decide) kk a b s t inn A c d w hd0 hd1 hd2 hi1 (cmdsN n) hcfl ihc h hB hA) (hif 3 h rfl)
    · exact cmdA_of (cmd_6 kk a b s t inn A c d w hd0 hd1 h hB hA) (cmdN_leaf 4 6 h rfl (by decide))
    · exact cmdA_of (cmd_i 5 (by decide) kk a b s t inn A c d w hd0 hd1 hd2 hi1 (cmdsN n) hcfl ihc h hB hA) (hif 5 h rfl)
    · exact cmdA_of (cmd_4 kk a b s t inn A c d w hd0 hd1 h hB hA) (cmdN_leaf 6 4 h rfl (by decide))
    · exact cmdA_of (cmd_8 kk a b s t inn A c d w hd0 hd1 h hB hA) (cmdN_leaf 7 8 h rfl (by decide))
    · exact cmdA_of (cmd_9 kk a b s t inn A c d w hd0 hd1 h hB hA) (cmdN_leaf 8 9 h rfl (by decide))
    · exact cmdA_of (cmd_7 kk a b s t inn A c d w hd0 hd1 h hB hA) (cmdN_leaf 9 7 h rfl (by decide))
    · exact cmdA_of (cmd_10 kk a b s t inn A c d w hd0 hd1 h hB hA) (cmdN_leaf 10 10 h rfl (by decide))
    · exact cmdA_of (cmd_i 11 (by decide) kk a b s t inn A c d w hd0 hd1 hd2 hi1 (cmdsN n) hcfl ihc h hB hA) (hif 11 h rfl)
theorem commandsn_calls (n : Nat) (l : List Stk) (d : Int) (A : Option Addr) (c : Nat) (w : World) (hd0 : 0 ≤ d) (hd : d + n = 2) (hsz : ∀ s ∈ l, StkSz s) (hA : StksAt w l A) (hl : l.length ≤ 9223372036854775807) :
    Calls Tryd.prog 31 #[.slice A l.length c, .int .i64 d] w (CmdsA (cmdsN n l) w) :=
  commands_of (cmdN n) d l (fun y hy vs W hv => cmdn_calls n y d vs W hd0 hd (hsz y hy) hv) A c w hA hl
end Go.Proofs.YtgmnoemkdigafaaDoor
namespace Go.Proofs.YtgmnoemkdigafaaDoor
open Go.RowKit
set_option linter.unusedVariables false

theorem txAt_list {W : World} {q : Nat} {l : List ByteArray} {t : TypeId} (h : Bk W q (l.map fun s => .string s) t) : TxAt W (some ⟨q, 0, none⟩) l :=
  .inr ⟨q, 0, rfl, fun j s hj => by
    rw [Nat.zero_add]
    refine h.cell j _ ?_
    rw [List.getElem?_map, hj]; rfl⟩
theorem cmdV_req {W : World} {q : Nat} (h : Bk W q [.string ⟨#[102, 105, 108, 101, 105, 110, 116, 111]⟩, .string ⟨#[114, 101, 106, 101, 99, 116]⟩, .string ⟨#[101, 110, 118, 101, 108, 111, 112, 101]⟩, .string ⟨#[105, 109, 97, 112, 52, 102, 108, 97, 103, 115]⟩] 9) : CmdV W reqC [.int .i64 1, .slice (some ⟨q, 0, none⟩) 4 4, .int .i64 0, .int .i64 0, .int .i64 0, .slice none 0 0, .slice none 0 0, .bool false, .int .i64 0, .slice none 0 0, .slice none 0 0, .slice none 0 0] := by
  unfold reqC CmdV
  refine ⟨some ⟨q, 0, none⟩, 4, [.int .i64 0, .int .i64 0, .int .i64 0, .slice none 0 0, .slice none 0 0, .bool false, .int .i64 0, .slice none 0 0], none, 0, none, 0, rfl, txAt_list (l := [_, _, _, _]) h, ?_, by unfold CmdsAt; trivial, by unfold CmdsAt; trivial, by simp⟩
  unfold zeroT TestV
  exact ⟨none, 0, none, 0, none, 0, rfl, .inl rfl, .inl rfl, by unfold TestsAt; trivial, by simp⟩
set_option maxRecDepth 100000 in
set_option maxHeartbeats 8000000 in
theorem requires_calls (w : World) : Calls Tryd.prog 21 #[] w fun e w' => ∃ q, e = .returned (.agg #[.int .i64 1, .slice (some ⟨q, 0, none⟩) 4 4, .int .i64 0, .int .i64 0, .int .i64 0, .slice none 0 0, .slice none 0 0, .bool false, .int .i64 0, .slice none 0 0, .slice none 0 0, .slice none 0 0]) ∧ Hid (∀ W, New w.heap.size w' W → CmdV W reqC [.int .i64 1, .slice (some ⟨q, 0, none⟩) 4 4, .int .i64 0, .int .i64 0, .int .i64 0, .slice none 0 0, .slice none 0 0, .bool false, .int .i64 0, .slice none 0 0, .slice none 0 0, .slice none 0 0]) ∧ Below w.heap.size w w' := by
  have hR := Bk.new w [.int .i64 0, .slice none 0 0, .int .i64 0, .int .i64 0, .int .i64 0, .slice none 0 0, .slice none 0 0, .bool false, .int .i64 0, .slice none 0 0, .slice none 0 0, .slice none 0 0] 34
  have hb := bal (Below.refl _ w) (.cells #[.int .i64 0, .slice none 0 0, .int .i64 0, .int .i64 0, .int .i64 0, .slice none 0 0, .slice none 0 0, .bool false, .int .i64 0, .slice none 0 0, .slice none 0 0, .slice none 0 0] 34)
  have hs : (w.alloc (.cells #[.int .i64 0, .slice none 0 0, .int .i64 0, .int .i64 0, .int .i64 0, .slice none 0 0, .slice none 0 0, .bool false, .int .i64 0, .slice none 0 0, .slice none 0 0, .slice none 0 0] 34)).heap.size = w.heap.size + 1 := by simp
  have HR0 := Lib.hid hR
  have Hb0 := Lib.hid hb
  clear hR hb
  go_enter Tryd.func21, Tryd.ntmps21
  go_upto_region 1 with fail
  generalize w.alloc (.cells #[.int .i64 0, .slice none 0 0, .int .i64 0, .int .i64 0, .int .i64 0, .slice none 0 0, .slice none 0 0, .bool false, .int .i64 0, .slice none 0 0, .slice none 0 0, .slice none 0 0] 34) = w1 at *
  have f0 := HR0.out.frozen 0
  have y0 := HR0.out.cell 0 _ rfl
  have f1 := HR0.out.frozen 1
  have y1 := HR0.out.cell 1 _ rfl
  have f2 := HR0.out.frozen 2
  have y2 := HR0.out.cell 2 _ rfl
  have f3 := HR0.out.frozen 3
  have y3 := HR0.out.cell 3 _ rfl
  have f4 := HR0.out.frozen 4
  have y4 := HR0.out.cell 4 _ rfl
  have f5 := HR0.out.frozen 5
  have y5 := HR0.out.cell 5 _ rfl
  have f6 := HR0.out.frozen 6
  have y6 := HR0.out.cell 6 _ rfl
  have f7 := HR0.out.frozen 7
  have y7 := HR0.out.cell 7 _ rfl
  have f8 := HR0.out.frozen 8
  have y8 := HR0.out.cell 8 _ rfl
  have f9 := HR0.out.frozen 9
  have y9 := HR0.out.cell 9 _ rfl
  have f10 := HR0.out.frozen 10
  have y10 := HR0.out.cell 10 _ rfl
  have f11 := HR0.out.frozen 11
  have y11 := HR0.out.cell 11 _ rfl
  go_wp2_with fail
  have hbk := bk_eq (cs' := [.int .i64 1, .slice (some ⟨w.heap.size + 1, 0, none⟩) 4 4, .int .i64 0, .int .i64 0, .int .i64 0, .slice none 0 0, .slice none 0 0, .bool false, .int .i64 0, .slice none 0 0, .slice none 0 0, .slice none 0 0]) (Bk.alloc (Bk.set (Bk.set (Bk.set (Bk.set (Bk.set (Bk.set (Bk.set (Bk.set (Bk.set (Bk.set (Bk.set (Bk.set HR0.out 0 _) 1 _) 2 _) 3 _) 4 _) 5 _) 6 _) 7 _) 8 _) 9 _) 10 _) 11 _) (.cells #[.string ⟨#[102, 105, 108, 101, 105, 110, 116, 111]⟩, .string ⟨#[114, 101, 106, 101, 99, 116]⟩, .string ⟨#[101, 110, 118, 101, 108, 111, 112, 101]⟩, .string ⟨#[105, 109, 97, 112, 52, 102, 108, 97, 103, 115]⟩] 9)) rfl
  refine bodyPost_ret (results_cell_row rfl _ _ w.heap.size 34 #[.int .i64 1, .slice (some ⟨w.heap.size + 1, 0, none⟩) 4 4, .int .i64 0, .int .i64 0, .int .i64 0, .slice none 0 0, .slice none 0 0, .bool false, .int .i64 0, .slice none 0 0, .slice none 0 0, .slice none 0 0] (0, 0) _ rfl hbk Tryd.underlying34 rfl (by kernel_rfl)) rfl ⟨w.heap.size + 1, rfl, Lib.hid (fun W hN => cmdV_req (Bk.neu (bk_newN _ (w.heap.size + 1) [.string ⟨#[102, 105, 108, 101, 105, 110, 116, 111]⟩, .string ⟨#[114, 101, 106, 101, 99, 116]⟩, .string ⟨#[101, 110, 118, 101, 108, 111, 112, 101]⟩, .string ⟨#[105, 109, 97, 112, 52, 102, 108, 97, 103, 115]⟩] 9 (by simpa using hs)) hN (by omega))), bal (Below.setCell (Below.setCell (Below.setCell (Below.setCell (Below.setCell (Below.setCell (Below.setCell (Below.setCell (Below.setCell (Below.setCell (Below.setCell (Below.setCell Hb0.out (Nat.le_refl _) _) (Nat.le_refl _) _) (Nat.le_refl _) _) (Nat.le_refl _) _) (Nat.le_refl _) _) (Nat.le_refl _) _) (Nat.le_refl _) _) (Nat.le_refl _) _) (Nat.le_refl _) _) (Nat.le_refl _) _) (Nat.le_refl _) _) (Nat.le_refl _) _) (.cells #[.string ⟨#[102, 105, 108, 101, 105, 110, 116, 111]⟩, .string ⟨#[114, 101, 106, 101, 99, 116]⟩, .string ⟨#[101, 110, 118, 101, 108, 111, 112, 101]⟩, .string ⟨#[105, 109, 97, 112, 52, 102, 108, 97, 103, 115]⟩] 9)⟩
end Go.Proofs.YtgmnoemkdigafaaDoor
namespace Go.Proofs.YtgmnoemkdigafaaDoor
open Go.RowKit
set_option linter.unusedVariables false

/-- What Show answers. -/
def showA (cs : List Cmd) (B : Nat) (e : Ending) (w' : World) : Prop :=
  if chkS cs = 0 then ∃ A c, e = .returned (.tuple #[.slice A (cmdsTk cs).length c, .int .i64 0]) ∧ w'.ownsRow B 45 3 (.slice A (cmdsTk cs).length c) (cmdsTk cs).length (tokCells (cmdsTk cs)) else e = .returned (.tuple #[.slice none 0 0, .int .i64 (chkS cs)])
set_option maxRecDepth 100000 in
set_option maxHeartbeats 8000000 in
theorem Show_calls (cs : List Cmd) (hok : okCs cs) (A : Option Addr) (cp : Nat) (w : World) (hta : CmdsAt w cs A) (htab : TabsAt w) (hln : cs.length ≤ 1000000) (hlen : (cmdsTk cs).length ≤ 700000) :
    Calls Tryd.prog 17 #[.slice A cs.length cp] w fun e w' => showA cs w.heap.size e w' ∧ Below w.heap.size w w' := by
  have hc := Check_calls cs hok A cp w hta htab hln hlen
  have hih : ∀ (B b : Nat), w.heap.size ≤ B → ∀ c ∈ cs, ∀ (l : List Tok) (vs : List Value) (W : World), CmdV w c vs → Below w.heap.size w W → Wr B W b l → l.length + (cmdTk c).length ≤ 800000 → Calls Tryd.prog 28 #[.pointer (some ⟨b, 0, none⟩), .agg vs.toArray] W fun e W' => e = .returned (.tuple #[]) ∧ Wr B W' b (l ++ cmdTk c) ∧ Tw B W W' := fun B b hB c hc l vs W h1 h2 h3 h4 => wcommand_calls c (okCs_mem cs c hok hc) B b l vs w W h1 htab hB h2 h3 h4
  generalize hq : chkS cs = q at *
  have Hq := Lib.hid hq
  have Hc := Lib.hid hc
  have Hih := Lib.hid hih
  have Hta := Lib.hid hta
  have Hlen := Lib.hid hlen
  clear hq hc hih hta hlen htab hok
  go_enter Tryd.func17, Tryd.ntmps17
  go_wp2_with fail
  refine Hc.out.mono ?_
  rintro e w1 ⟨rfl, hb1⟩
  have Hb1 := Lib.hid hb1
  clear hb1 Hc
  by_cases hq0 : q = 0
  · subst hq0
    have hB := Hb1.out.size
    have hW := Bk.new w1 [.slice none 0 0] 68
    have hs1 : WSt w1.heap.size w w1 (w1.alloc (.cells #[.slice none 0 0] 68)) w1.heap.size [] :=
      ⟨⟨Nat.le_refl _, .slice none 0 0, hW, World.ownsRow_nil _ _ _ _⟩, ⟨(bal (Below.refl _ w1) _).mono (Nat.le_refl _), fun q cs t hb _ _ => hb.alloc _⟩, btr Hb1.out (bal (Below.refl _ _) _)⟩
    have Hs1 := Lib.hid hs1
    clear hs1 hW
    go_upto_region 5 with fail
    generalize w1.alloc (.cells #[.slice none 0 0] 68) = w2 at *
    go_wp2_with fail
    go_loopw [17] (fun i wr => ∃ j : Nat, j ≤ cs.length ∧ i = .int .i64 j ∧ Hid (WSt w1.heap.size w w1 wr w1.heap.size (cmdsTk (cs.take j)))) (fun i _ => cs.length - (intOf i).toNat)
    case atStart => exact ⟨0, Nat.zero_le _, rfl, Lib.hid (by simpa [cmdsTk] using Hs1.out)⟩
    case round =>
      obtain ⟨j, hj, rfl, Hj⟩ := hrel
      by_cases hlt : j < cs.length
      · have hj0 : (0 : Int) ≤ (j : Int) := by omega
        have hjn : (j : Int) < (cs.length : Int) := by omega
        obtain ⟨bb, off, s, k, Ax, nx, cx, k2, m, p, lm, o, An, Ak, At, nn, cn, nk, ck, nt, ct, Ah, nh, ch, Ae, ne, ce, rfl, hmem, hgt, hdr, hki, huv, c0, c1, c2, c3, c4, c5, c6, c7, c8, c9, c10, c11⟩ := cmdsAt_round Hj.out.old Hta.out hlt
        have htk := cmdsTk_take_succ hgt
        have hln2 := cmdsTk_take_le cs (j + 1)
        have hl0 := Hlen.out
        rw [htk, List.length_append] at hln2
        have hlj : (cmdsTk (cs.take j)).length + (cmdTk s).length ≤ 800000 := by omega
        have Htk := Lib.hid htk
        have hih := fun (l : List Tok) (W : World) (h2 : Below w.heap.size w W) (h3 : Wr w1.heap.size W w1.heap.size l) h4 => Hih.out w1.heap.size w1.heap.size hB s hmem l _ W huv h2 h3 h4
        generalize cmdsTk (cs.take j) = lj at *
        have Hi := Lib.hid hih
        have Hlj := Lib.hid hlj
        have hN := Bk.new wr [.int .i64 k, .slice Ax nx cx, .int .i64 k2, .int .i64 m, .int .i64 p, .slice An nn cn, .slice Ak nk ck, .bool o, .int .i64 lm, .slice At nt ct, .slice Ah nh ch, .slice Ae ne ce] 34
        have hS1 := Hj.out.alloc (.cells #[.int .i64 k, .slice Ax nx cx, .int .i64 k2, .int .i64 m, .int .i64 p, .slice An nn cn, .slice Ak nk ck, .bool o, .int .i64 lm, .slice At nt ct, .slice Ah nh ch, .slice Ae ne ce] 34)
        have HN := Lib.hid hN
        have HS0 := Lib.hid hS1
        clear hih hN hS1 hmem hgt hdr huv hki htk hln2 hl0 hlj
        go_upto_region 8 with fail
        generalize wr.alloc (.cells #[.int .i64 k, .slice Ax nx cx, .int .i64 k2, .int .i64 m, .int .i64 p, .slice An nn cn, .slice Ak nk ck, .bool o, .int .i64 lm, .slice At nt ct, .slice Ah nh ch, .slice Ae ne ce] 34) = w5 at *
        clear c0 c1 c2 c3 c4 c5 c6 c7 c8 c9 c10 c11
        have c0 := HN.out.cell 0 _ rfl
        have c1 := HN.out.cell 1 _ rfl
        have c2 := HN.out.cell 2 _ rfl
        have c3 := HN.out.cell 3 _ rfl
        have c4 := HN.out.cell 4 _ rfl
        have c5 := HN.out.cell 5 _ rfl
        have c6 := HN.out.cell 6 _ rfl
        have c7 := HN.out.cell 7 _ rfl
        have c8 := HN.out.cell 8 _ rfl
        have c9 := HN.out.cell 9 _ rfl
        have c10 := HN.out.cell 10 _ rfl
        have c11 := HN.out.cell 11 _ rfl
        have hi5 := Hi.out lj w5 HS0.out.old HS0.out.wr Hlj.out
        have Hi5 := Lib.hid hi5
        clear hi5 Hi
        go_wp2_with fail
        refine Hi5.out.mono ?_
        rintro e w6 ⟨rfl, hw6, ht6⟩
        have HS6 := Lib.hid (HS0.out.put hB hw6 ht6)
        clear hw6 ht6 c0 c1 c2 c3 c4 c5 c6 c7 c8 c9 c10 c11 HN Hi5
        go_wp2_with fail
        go_roundw
        case rel => exact ⟨j + 1, by omega, by go_num, Lib.hid (by rw [Htk.out]; exact HS6.out)⟩
        case measure => simp [intOf]; omega
      · obtain rfl : j = cs.length := by omega
        have hS := Hj.out
        rw [List.take_length] at hS
        obtain ⟨_, v, hv1, hv2⟩ := hS.wr
        obtain ⟨A2, c2, rfl⟩ := own_sl hv2
        have x0 := hv1.cell 0 _ rfl
        have Hold := Lib.hid hS.old
        have Hv2 := Lib.hid hv2
        clear hS hv1 hv2 hlt
        go_wp2_with fail
        refine bodyPost_ret (results_tmp2 rfl _ _ _) rfl ⟨?_, Hold.out⟩
        unfold showA
        rw [Hq.out, if_pos rfl]
        exact ⟨A2, c2, rfl, row_base hB Hv2.out⟩
  · have hqb : (q != 0) = true := by simpa using hq0
    go_wp2_with fail
    refine bodyPost_ret (results_tmp2 rfl _ _ _) rfl ⟨?_, Hb1.out⟩
    unfold showA
    rw [Hq.out, if_neg hq0]
    rfl
end Go.Proofs.YtgmnoemkdigafaaDoor
namespace Go.Proofs.YtgmnoemkdigafaaDoor
open Go.RowKit
set_option linter.unusedVariables false

def okS (cs : List Cmd) : Bool := decide (chkS cs = 0)
def fullN (l : List Stk) : List Cmd := reqC :: cmdsN 2 l
/-- The script of sticks. -/
def scriptN (l : List Stk) : List Cmd := shrinkN okS (fullN l).length (fullN l)
theorem fullN_len (l : List Stk) : 1 ≤ (fullN l).length ∧ (fullN l).length ≤ 5 := by
  unfold fullN cmdsN
  rw [List.length_cons, List.length_map, List.length_take]; omega
theorem okCs_full (l : List Stk) : okCs (fullN l) := okCs_of _ fun c hc => by
  unfold fullN at hc
  rcases List.mem_cons.1 hc with rfl | hc
  · exact okC_req
  · unfold cmdsN at hc
    obtain ⟨x, _, rfl⟩ := List.mem_map.1 hc
    exact okC_cmdN 2 x
theorem okCs_take (l : List Cmd) (j : Nat) (h : okCs l) : okCs (l.take j) := okCs_of _ fun c hc => okCs_mem l c h (List.mem_of_mem_take hc)
theorem full_toks (l : List Stk) : (cmdsTk (fullN l)).length ≤ 600000 := by
  unfold fullN
  rw [cmdsTk, List.length_append]
  have h1 := cmdsNTk_le 2 l
  have h2 : (cmdTk reqC).length ≤ 100 := by decide
  have h3 : 4 * maxC 2 ≤ 500000 := by decide
  omega
theorem cmdsAt_take {w : World} : ∀ (l : List Cmd) (A : Option Addr) (n : Nat), CmdsAt w l A → CmdsAt w (l.take n) A
  | [], A, n, h => by rw [List.take_nil]; exact h
  | x :: l, A, 0, h => by rw [List.take_zero]; unfold CmdsAt; trivial
  | x :: l, A, n + 1, h => by
    rw [List.take_succ_cons]
    unfold CmdsAt at h ⊢
    obtain ⟨b, off, vs, rfl, h1, h2, h3⟩ := h
    exact ⟨b, off, vs, rfl, h1, h2, cmdsAt_take l _ n h3⟩
theorem own_one12 {W : World} {base q s : Nat} {cs : List Value} {t : TypeId} (h : Bk W q cs t) (hq : base ≤ q) (hs : cs.length = s) : W.ownsRow base t s (.slice (some ⟨q, 0, none⟩) 1 1) 1 cs :=
  ⟨by omega, .inr ⟨q, 1, cs.toArray, rfl, hq, h, Nat.le_refl _, by decide, by simp; omega, by rw [Nat.one_mul, ← hs]; simp⟩⟩
theorem rowed_one {q : Nat} {w : World} {c : Cmd} {vs : List Value} {B : Nat} (hq : B ≤ q) (hb : Bk w q vs 34) (hl : vs.length = 12) (hv : ∀ W', AwayB B (some q) w W' → CmdV W' c vs) :
    Rowed CmdV 34 12 B w (.slice (some ⟨q, 0, none⟩) 1 1) [c] :=
  ⟨[vs], rfl, fun u hu => by obtain rfl := List.mem_singleton.1 hu; exact hl, by simpa using own_one12 hb hq hl, fun W' hW i x us hi hu => by
    have hi0 : i = 0 := by
      have := (List.getElem?_eq_some_iff.1 hi).1
      simp at this; omega
    subst hi0
    obtain rfl : c = x := by simpa using hi
    obtain rfl : vs = us := by simpa using hu
    exact hv W' hW⟩
set_option maxRecDepth 100000 in
set_option maxHeartbeats 8000000 in
theorem script_calls (l : List Stk) (A : Option Addr) (c : Nat) (w : World) (hsz : ∀ s ∈ l, StkSz s) (hA : StksAt w l A) (hl : l.length ≤ 9223372036854775807) (htab : TabsAt w) :
    Calls Tryd.prog 18 #[.slice A l.length c] w (CmdsA (scriptN l) w) := by
  have hfl := fullN_len l
  have hcl := fun W (hW : Below w.heap.size w W) => commandsn_calls 2 l 0 A c W (by decide) (by decide) hsz (stksAt_later hW l A hA) hl
  have hfull : fullN l = [reqC] ++ cmdsN 2 l := rfl
  have hok := okCs_full l
  have htk := full_toks l
  generalize hss : scriptN l = ss at *
  unfold scriptN at hss
  generalize cmdsN 2 l = cl at *
  generalize fullN l = fl at *
  have Hfull := Lib.hid hfull
  have Hok := Lib.hid hok
  have Htk := Lib.hid htk
  have Hss := Lib.hid hss
  have Hcl := Lib.hid hcl
  have Htab := Lib.hid htab
  clear hcl htab hA hsz hfull hok htk hss
  have Hreq := Lib.hid (requires_calls w)
  go_enter Tryd.func18, Tryd.ntmps18
  go_wp2_with (first
    | (go_at_call 21; refine Hreq.out.mono ?_; rintro e w1 ⟨q1, rfl, HV1, hb1⟩; have Hb1 := Lib.hid hb1; clear hb1)
    | fail)
  have hW := Bk.new w1 [.int .i64 1, .slice (some ⟨q1, 0, none⟩) 4 4, .int .i64 0, .int .i64 0, .int .i64 0, .slice none 0 0, .slice none 0 0, .bool false, .int .i64 0, .slice none 0 0, .slice none 0 0, .slice none 0 0] 34
  have hbw : Below w.heap.size w (w1.alloc (.cells #[.int .i64 1, .slice (some ⟨q1, 0, none⟩) 4 4, .int .i64 0, .int .i64 0, .int .i64 0, .slice none 0 0, .slice none 0 0, .bool false, .int .i64 0, .slice none 0 0, .slice none 0 0, .slice none 0 0] 34)) := bal Hb1.out _
  have hs2 : (w1.alloc (.cells #[.int .i64 1, .slice (some ⟨q1, 0, none⟩) 4 4, .int .i64 0, .int .i64 0, .int .i64 0, .slice none 0 0, .slice none 0 0, .bool false, .int .i64 0, .slice none 0 0, .slice none 0 0, .slice none 0 0] 34)).heap.size = w1.heap.size + 1 := by simp
  have Hhp := Lib.hid (fun k (hk : k < w1.heap.size) => show (w1.alloc (.cells #[.int .i64 1, .slice (some ⟨q1, 0, none⟩) 4 4, .int .i64 0, .int .i64 0, .int .i64 0, .slice none 0 0, .slice none 0 0, .bool false, .int .i64 0, .slice none 0 0, .slice none 0 0, .slice none 0 0] 34)).heap[k]? = w1.heap[k]? from (Below.alloc (Below.refl w1.heap.size w1) (Nat.le_refl _) _).block k hk)
  have HW := Lib.hid hW
  have Hbw := Lib.hid hbw
  clear hW hbw Hreq
  generalize w1.alloc (.cells #[.int .i64 1, .slice (some ⟨q1, 0, none⟩) 4 4, .int .i64 0, .int .i64 0, .int .i64 0, .slice none 0 0, .slice none 0 0, .bool false, .int .i64 0, .slice none 0 0, .slice none 0 0, .slice none 0 0] 34) = w2 at *
  refine (Hcl.out w2 Hbw.out).mono ?_
  rintro e w3 ⟨A3, c3, rfl, hle3, HC3, HS3, hb3⟩
  have h1s := Hb1.out.size
  have h3s := hb3.size
  have hrow : Rowed CmdV 34 12 w.heap.size w3 (.slice (some ⟨w1.heap.size, 0, none⟩) 1 1) [reqC] := rowed_one h1s (HW.out.later hb3) rfl fun W' hW' => HV1.out W' fun k a1 a2 => by
    have e1 := hW' k a1 (by omega) (fun e => by have e2 : k = w1.heap.size := Option.some.inj e; omega)
    rw [e1, hb3.block k (by omega), Hhp.out k a2]
  have hy : ∀ W', AwayB w.heap.size (Value.ownBlock (.slice (some ⟨w1.heap.size, 0, none⟩) 1 1)) w3 W' → CmdsAt W' cl A3 := fun W' hW' => HC3.out W' fun k a1 a2 => hW' k (by omega) a2 (fun e => by have e2 : k = w1.heap.size := Option.some.inj e; omega)
  have hgg : cl ≠ [] → ∀ g off, A3 = some ⟨g, off, none⟩ → w.heap.size ≤ g ∧ some g ≠ Value.ownBlock (.slice (some ⟨w1.heap.size, 0, none⟩) 1 1) := fun _ g off e => by
    have := (HS3.out.2 g off none e).1
    exact ⟨by omega, fun e => by have e2 : g = w1.heap.size := Option.some.inj e; omega⟩
  have hbw3 : Below w.heap.size w w3 := btr Hbw.out hb3
  have hfin : ∀ v' w4, Rowed CmdV 34 12 w.heap.size w4 v' ([reqC] ++ cl) → w3.grownBy w4 (Value.ownBlock (.slice (some ⟨w1.heap.size, 0, none⟩) 1 1)) → ∃ g cap, v' = .slice (some ⟨g, 0, none⟩) fl.length cap ∧ fl.length ≤ cap ∧ Hid (Below w.heap.size w w4) ∧ Hid (SlAt (some ⟨g, 0, none⟩) cap w.heap.size w4) ∧ Hid (∀ W, New w.heap.size w4 W → CmdsAt W fl (some ⟨g, 0, none⟩)) := fun v' w4 hr hgr => by
    rw [← Hfull.out] at hr
    have hbl := hbw3.grown hgr (Nat.le_trans h1s (by omega)) (fun k e => by have e2 : w1.heap.size = k := Option.some.inj e; omega)
    obtain ⟨A4, c4, rfl, hle4, hc4⟩ := rowed_cmds hr
    have hp := hc4 w4 (New.refl _ _)
    obtain ⟨b4, o4, rfl⟩ := cmdsAt_ptr hp (by intro e; rw [e] at hfl; simp at hfl)
    have ho4 : o4 = 0 := by
      obtain ⟨vss, _, _, h3, _⟩ := hr
      rcases h3.2 with ⟨h, _⟩ | ⟨g, cap, cur, h, _⟩
      · simp at h
      · simp at h; exact h.1.2
    subst ho4
    exact ⟨b4, c4, rfl, hle4, Lib.hid hbl, Lib.hid (rowed_slAt hr), Lib.hid hc4⟩
  have Hfin := Lib.hid hfin
  have hn0 := HS3.out.1
  have Hrow := Lib.hid hrow
  have Hy := Lib.hid hy
  have Hgg := Lib.hid hgg
  have Hn0 := Lib.hid hn0
  have hlc : [reqC].length + cl.length ≤ 1000 := by have := Hfull.out; rw [this, List.length_append] at hfl; omega
  have hB3 : w.heap.size ≤ w3.heap.size := by omega
  clear hrow hy hgg hfin hn0 hbw3 hb3 HW Hbw Hb1 HV1 HC3 HS3 Hcl Hhp hs2 h1s h3s
  go_upto_region 2 with (at_builtin; refine wpList_append_cmds rfl _ _ rfl w.heap.size _ [reqC] cl rfl Hrow.out A3 c3 rfl Hn0.out Hgg.out Hy.out hlc hB3 ?_; intro v' w4 hr4 hg4 _; obtain ⟨g4, cap4, rfl, hle4, Hb4, Hsl4, Hc4⟩ := Hfin.out _ w4 hr4 hg4; clear hr4 hg4)
  have hrel : Below w.heap.size w w4 := Hb4.out
  clear Hrow Hy Hgg Hn0 Hfin hlc hB3 hle3 hrel
  go_loopw [3] (fun v wr => ∃ j : Nat, 1 ≤ j ∧ j ≤ fl.length ∧ v = .slice (some ⟨g4, 0, none⟩) j cap4 ∧ Hid (shrinkN okS j (fl.take j) = ss) ∧ Hid (Below w4.heap.size w4 wr)) (fun v _ => match v with | .slice _ n _ => n | _ => 0)
  case atStart => exact ⟨fl.length, hfl.1, Nat.le_refl _, rfl, Lib.hid (by rw [List.take_length]; exact Hss.out), Lib.hid (Below.refl _ _)⟩
  case round =>
    obtain ⟨j, hj1, hjl, rfl, Hj, Hbr⟩ := hrel
    have htl : (fl.take j).length = j := by rw [List.length_take]; omega
    have hend : shrinkN okS j (fl.take j) = fl.take j → ss = fl.take j := fun h => by rw [← h]; exact Hj.out.symm
    have hres : ∀ W, Below w4.heap.size w4 W → ss = fl.take j → CmdsA ss w (.returned (.slice (some ⟨g4, 0, none⟩) j cap4)) W := fun W hW h => by
      have hl : ss.length = j := by rw [h]; exact htl
      refine ⟨some ⟨g4, 0, none⟩, cap4, by rw [hl], by omega, Lib.hid fun W2 hN => ?_, Lib.hid (Hsl4.out.later hW.size), btr Hb4.out hW⟩
      rw [h]
      refine cmdsAt_take fl _ j (Hc4.out W2 (New.trans (New.of_below (B := w.heap.size) hW) hN hW.size))
    have Hres := Lib.hid hres
    have Hend := Lib.hid hend
    clear hres hend
    by_cases h1 : 1 < j
    · have hck := Check_calls (fl.take j) (okCs_take fl j Hok.out) (some ⟨g4, 0, none⟩) cap4 wr (cmdsAt_take fl _ j (Hc4.out wr (New.of_below Hbr.out))) (Htab.out.later (btr Hb4.out Hbr.out)) (by omega) (by have := cmdsTk_take_le fl j; have := Htk.out; omega)
      rw [htl] at hck
      obtain ⟨m, rfl⟩ : ∃ m, j = m + 1 := ⟨j - 1, by omega⟩
      have hjj := Hj.out
      rw [shrinkN, htl] at hjj
      generalize hq : chkS (fl.take (m + 1)) = q at *
      have hqs : okS (fl.take (m + 1)) = decide (q = 0) := by unfold okS; rw [hq]
      rw [hqs] at hjj
      have Hck := Lib.hid hck
      have hgt : (1 : Int) < ((m + 1 : Nat) : Int) := by omega
      by_cases hq0 : q = 0
      · subst hq0
        rw [if_neg (by simp)] at hjj
        have Hjj := Lib.hid hjj
        clear hjj hck hqs hq htl h1
        go_wp2_with (go_at_call 15; refine Hck.out.mono ?_; rintro e w5 ⟨rfl, hb5⟩; have Hb5 := Lib.hid hb5; clear hb5)
        refine bodyPost_ret (results_tmp rfl _ _ _) rfl ?_
        exact Hres.out w5 (btr Hbr.out Hb5.out) Hjj.out.symm
      · rw [if_pos ⟨h1, by simpa using hq0⟩, Nat.add_sub_cancel, List.take_take, Nat.min_eq_left (Nat.le_succ m)] at hjj
        have hqb : (q != 0) = true := by simpa using hq0
        have Hjj := Lib.hid hjj
        clear hjj hck hqs hq htl h1 hq0
        go_wp2_with (go_at_call 15; refine Hck.out.mono ?_; rintro e w5 ⟨rfl, hb5⟩; have Hb5 := Lib.hid hb5; clear hb5)
        go_roundw
        case rel => exact ⟨m, by omega, by omega, rfl, Hjj, Lib.hid (btr Hbr.out Hb5.out)⟩
        case measure => simp
    · obtain rfl : j = 1 := by omega
      have hj := Hj.out
      go_wp2_with fail
      refine bodyPost_ret (results_tmp rfl _ _ _) rfl ?_
      exact Hres.out wr Hbr.out (Hend.out (by rw [shrinkN, htl, if_neg (by simp)]))
end Go.Proofs.YtgmnoemkdigafaaDoor
namespace Go.Proofs.YtgmnoemkdigafaaDoor
set_option linter.unusedVariables false
set_option linter.unusedSimpArgs false

mutual
/-- Does a test need an extension? -/
def needsT : Tst → Bool
  | .mk k m p ns ks o lm ts => needsTs ts || decide (k = 8)
def needsTs : List Tst → Bool
  | [] => false
  | t :: l => needsT t || needsTs l
end
mutual
def needsC : Cmd → Bool
  | .mk k tx t th el => if k = 5 ∨ k = 7 ∨ k = 8 ∨ k = 9 then true else if k = 2 then needsT t || (needsCs th || needsCs el) else false
def needsCs : List Cmd → Bool
  | [] => false
  | c :: l => needsC c || needsCs l
end
/-- 8, if something is needed that there is not. -/
def want (v b : Bool) : Int := if v = false ∧ b = true then 8 else 0
theorem want_or (v a b : Bool) : (if want v a ≠ 0 then want v a else want v b) = want v (a || b) := by
  cases v <;> cases a <;> cases b <;> rfl
theorem judTs_want {v : Bool} {has : ByteArray → Bool} : ∀ l : List Tst, (∀ t ∈ l, judT has t = want v (needsT t)) → judTs has l = want v (needsTs l)
  | [], _ => by rw [judTs, needsTs]; cases v <;> rfl
  | t :: l, h => by rw [judTs, needsTs, h t (by simp), judTs_want l fun t ht => h t (by simp [ht]), want_or]
theorem judT_small {v : Bool} {has : ByteArray → Bool} {k m p lm : Int} {ns ks : List ByteArray} {o : Bool} {ts : List Tst} (hk : k ≠ 8) (hs : ((ns ++ ks).all fun s => decide (s.size ≤ 100)) = true) (h : ∀ t ∈ ts, judT has t = want v (needsT t)) :
    judT has (.mk k m p ns ks o lm ts) = want v (needsT (.mk k m p ns ks o lm ts)) := by
  rw [judT, if_neg (fun h => hk h.1), if_neg (fun h => hk h.1), if_neg (by rw [hs]; simp), judTs_want ts h, needsT, decide_eq_false hk, Bool.or_false]
theorem shortS_size (s : ByteArray) : (shortS s).size ≤ 100 := by
  unfold shortS cutS
  rw [mkS_size, List.length_take]; omega
theorem wordS_size (s : ByteArray) : (wordS s).size ≤ 100 := by
  unfold wordS
  rw [mkS_size]
  have := (wordL_len (bs s)).2
  omega
theorem keysT_size (a : Int) (s t : ByteArray) : ((keysT a s t).all fun s => decide (s.size ≤ 100)) = true := by
  have h1 := shortS_size s
  have h2 := shortS_size t
  unfold keysT
  split <;> simp [h1, h2]
theorem getD_all {f : ByteArray → Bool} (l : List (List UInt8)) (k : Nat) (hk : k < l.length) (h : (l.all fun x => f (mkS x)) = true) : f (mkS (l.getD k [])) = true := by
  rw [List.getD_eq_getElem?_getD, List.getElem?_eq_getElem hk]
  exact List.all_eq_true.1 h _ (List.getElem_mem hk)
theorem hdrN_size (b : Int) : decide ((hdrN b).size ≤ 100) = true := getD_all (f := fun s => decide (s.size ≤ 100)) _ _ (show pickN b 4 < 4 from by have := pickN_lt b 4 (by decide); omega) (by decide)
theorem envN_size (b : Int) : decide ((envN b).size ≤ 100) = true := getD_all (f := fun s => decide (s.size ≤ 100)) _ _ (show pickN b 2 < 2 from by have := pickN_lt b 2 (by decide); omega) (by decide)
theorem exiN_size (b : Int) : decide ((exiN b).size ≤ 100) = true := getD_all (f := fun s => decide (s.size ≤ 100)) _ _ (show pickN b 3 < 3 from by have := pickN_lt b 3 (by decide); omega) (by decide)
theorem envN_in (b : Int) : decide (envN b = fromS ∨ envN b = toSS) = true := getD_all (f := fun s => decide (s = fromS ∨ s = toSS)) _ _ (show pickN b 2 < 2 from by have := pickN_lt b 2 (by decide); omega) (by decide)
theorem judT_leafT (v : Bool) (has : ByteArray → Bool) (he : has envS = v) (k : Int) (x : Stk) : judT has (leafT k x) = want v (needsT (leafT k x)) := by
  obtain ⟨k', a, b, s, t, inn⟩ := x
  have hks := keysT_size a s t
  have no : ∀ t ∈ ([] : List Tst), judT has t = want v (needsT t) := fun t h => absurd h (by simp)
  unfold leafT
  dsimp only
  split
  · exact judT_small (by decide) (by simp only [List.cons_append, List.nil_append, List.all_cons, hdrN_size, hks, Bool.and_true]) no
  split
  · exact judT_small (by decide) (by simp only [List.cons_append, List.nil_append, List.all_cons, hdrN_size, hks, Bool.and_true]) no
  split
  · have h1 : ([envN b].all fun s => decide (s = fromS ∨ s = toSS)) = true := by rw [List.all_cons, envN_in]; rfl
    have h2 : (([envN b] ++ keysT a s t).all fun s => decide (s.size ≤ 100)) = true := by simp only [List.cons_append, List.nil_append, List.all_cons, envN_size, hks, Bool.and_true]
    rw [judT, he, needsT, needsTs]
    cases v with
    | false => rw [if_pos ⟨rfl, rfl⟩]; rfl
    | true => rw [if_neg (by simp), if_neg (by rw [h1]; simp), if_neg (by rw [h2]; simp), judTs]; rfl
  split
  · refine judT_small (by decide) ?_ no
    rw [List.append_nil]
    unfold namesE
    have h1 := exiN_size a
    have h2 := wordS_size s
    have hb := pickN_lt b 2 (by decide)
    rcases (show pickN b 2 = 0 ∨ pickN b 2 = 1 by omega) with h | h <;> rw [h]
    · show (([exiN a] : List ByteArray).all _) = true
      rw [List.all_cons, h1]; rfl
    · show (([exiN a, wordS s] : List ByteArray).all _) = true
      rw [List.all_cons, h1, List.all_cons, decide_eq_true h2]; rfl
  split
  · exact judT_small (by decide) rfl no
  · exact judT_small (by assumption) rfl no
theorem judT_testN (v : Bool) (has : ByteArray → Bool) (he : has envS = v) : ∀ (n : Nat) (x : Stk), judT has (testN n x) = want v (needsT (testN n x))
  | 0, x => by unfold testN; exact judT_leafT v has he _ x
  | n + 1, x => by
    unfold testN
    split
    · exact judT_small (by decide) rfl fun t ht => by
        obtain rfl := List.mem_singleton.1 ht
        exact judT_testN v has he n _
    split
    · next h =>
      refine judT_small (by omega) rfl fun t ht => ?_
      split at ht
      · obtain rfl := List.mem_singleton.1 ht
        have hp := pickN_lt x.a 2 (by decide)
        exact judT_small (by omega) rfl fun t h => absurd h (by simp)
      · obtain ⟨y, _, rfl⟩ := List.mem_map.1 ht
        exact judT_testN v has he n y
    · exact judT_leafT v has he _ x
theorem judCs_want {v : Bool} {lf : (ByteArray → Bool) → Int → List ByteArray → Int} {has : ByteArray → Bool} : ∀ l : List Cmd, (∀ t ∈ l, judC lf has t = want v (needsC t)) → judCs lf has l = want v (needsCs l)
  | [], _ => by rw [judCs, needsCs]; cases v <;> rfl
  | t :: l, h => by rw [judCs, needsCs, h t (by simp), judCs_want l fun t ht => h t (by simp [ht]), want_or]
theorem boxN_ok (a : Int) : decide (nameR (bs (boxN a)) = 0) = true := getD_all (f := fun s => decide (nameR (bs s) = 0)) _ _ (show pickN a 4 < 4 from by have := pickN_lt a 4 (by decide); omega) (by decide)
theorem redN_ok (a : Int) : decide (adrRl (redN a) = 0) = true := getD_all (f := fun s => decide (adrRl s = 0)) _ _ (show pickN a 3 < 3 from by have := pickN_lt a 3 (by decide); omega) (by decide)
theorem flgN_ok (a : Int) : decide ((flagsF 0 [flgN a]).2 = 0) = true := getD_all (f := fun s => decide ((flagsF 0 [s]).2 = 0)) _ _ (show pickN a 3 < 3 from by have := pickN_lt a 3 (by decide); omega) (by decide)
/-- What has been required, as far as it matters: all, or nothing. -/
def Flat (has : ByteArray → Bool) (v : Bool) : Prop := has fileS = v ∧ has rejS = v ∧ has envS = v ∧ has flgS = v
theorem judC_leafC {v : Bool} {has : ByteArray → Bool} (hf : Flat has v) (k : Int) (h1 : 3 ≤ k) (h2 : k ≤ 10) (x : Stk) : judC leafR has (leafC k x) = want v (needsC (leafC k x)) := by
  obtain ⟨f1, f2, f3, f4⟩ := hf
  obtain ⟨k', a, b, s, t, inn⟩ := x
  unfold leafC
  rw [judC, if_neg (by omega), needsC]
  unfold leafR judL textsC
  rcases (show k = 3 ∨ k = 4 ∨ k = 5 ∨ k = 6 ∨ k = 7 ∨ k = 8 ∨ k = 9 ∨ k = 10 by omega) with rfl | rfl | rfl | rfl | rfl | rfl | rfl | rfl
  · cases v <;> rfl
  · cases v <;> rfl
  · rw [if_neg (by decide), if_pos rfl, f1]
    cases v with
    | false => rfl
    | true =>
      have := of_decide_eq_true (boxN_ok a)
      simp only [if_pos, hdS, List.headD_cons]
      rw [if_neg (by simp), this]; rfl
  · rw [if_neg (by decide), if_neg (by decide), if_neg (by decide), if_neg (by decide), if_pos rfl]
    have := of_decide_eq_true (redN_ok a)
    show adrRl (redN a) = _
    rw [this]
    cases v <;> rfl
  · rw [if_neg (by decide), if_neg (by decide), if_pos rfl, f2]
    cases v <;> rfl
  · rw [if_neg (by decide), if_neg (by decide), if_neg (by decide), if_pos (by decide), f4]
    cases v with
    | false => rfl
    | true =>
      have := of_decide_eq_true (flgN_ok a)
      show ((flagsF 0 [flgN a]).2 : Int) = _
      rw [this]; rfl
  · rw [if_neg (by decide), if_neg (by decide), if_neg (by decide), if_pos (by decide), f4]
    cases v with
    | false => rfl
    | true =>
      have := of_decide_eq_true (flgN_ok a)
      show ((flagsF 0 [flgN a]).2 : Int) = _
      rw [this]; rfl
  · cases v <;> rfl
theorem judC_cmdN {v : Bool} {has : ByteArray → Bool} (hf : Flat has v) : ∀ (n : Nat) (x : Stk), judC leafR has (cmdN n x) = want v (needsC (cmdN n x))
  | 0, x => by
    obtain ⟨h1, h2⟩ := kc_range x
    unfold cmdN
    exact judC_leafC hf _ (by split <;> omega) (by split <;> omega) x
  | n + 1, x => by
    obtain ⟨h1, h2⟩ := kc_range x
    unfold cmdN
    split
    · have e1 : ∀ l : List Stk, judCs leafR has (l.map (cmdN n)) = want v (needsCs (l.map (cmdN n))) := fun l => judCs_want _ fun c hc => by
        obtain ⟨y, _, rfl⟩ := List.mem_map.1 hc
        exact judC_cmdN hf n y
      rw [judC, if_pos rfl, judT_testN v has hf.2.2.1, e1, e1, want_or, want_or, needsC, if_neg (by decide), if_pos rfl]
    · exact judC_leafC hf _ (by omega) h2 x
theorem cmdN_kind (n : Nat) (x : Stk) : (cmdN n x).kind ≠ 1 := by
  obtain ⟨h1, h2⟩ := kc_range x
  have hl : ∀ k : Int, k ≠ 1 → (leafC k x).kind ≠ 1 := fun k hk => hk
  cases n with
  | zero =>
    unfold cmdN
    exact hl _ (by split <;> omega)
  | succ n =>
    unfold cmdN
    split
    · show (2 : Int) ≠ 1; decide
    · exact hl _ (by omega)
theorem judR_plain (lf : (ByteArray → Bool) → Int → List ByteArray → Int) (has : List ByteArray) (cs : List Cmd) (h : ∀ c, cs.head? = some c → c.kind ≠ 1) : judR lf has cs = judCs lf (inS has) cs := by
  match cs, h with
  | [], _ => rw [judR, judCs]
  | c :: l, h => rw [judR, if_neg (h c rfl)]
theorem judR_req (lf : (ByteArray → Bool) → Int → List ByteArray → Int) (has : List ByteArray) (cs : List Cmd) : judR lf has (reqC :: cs) = judR lf (has ++ reqC.texts) cs := by
  rw [judR, if_pos (show reqC.kind = 1 from rfl), if_neg (by decide)]
theorem flat_req (a b : List ByteArray) : Flat (inS (a ++ reqC.texts ++ b)) true := by
  have h : ∀ s, s ∈ reqC.texts → inS (a ++ reqC.texts ++ b) s = true := fun s hs => inS_mem.2 (by simp [hs])
  exact ⟨h _ (by simp [reqC, Cmd.texts, fileS]), h _ (by simp [reqC, Cmd.texts, rejS]), h _ (by simp [reqC, Cmd.texts, envS]), h _ (by simp [reqC, Cmd.texts, flgS])⟩
theorem flat_req' (a : List ByteArray) : Flat (inS (a ++ reqC.texts)) true := by
  have := flat_req a []
  rwa [List.append_nil] at this
/-- What a script of sticks is. -/
theorem scriptN_form (l : List Stk) : ∃ cl : List Cmd, scriptN l = reqC :: cl ∧ chkS (reqC :: cl) = 0 ∧ okCs cl ∧ cl.length ≤ 4 ∧ (∀ c ∈ cl, c.kind ≠ 1) ∧ ∀ has v, Flat has v → judCs leafR has cl = want v (needsCs cl) := by
  obtain ⟨j, h1, h2, h3⟩ := shrinkN_take okS (fullN l).length (fullN l) (fullN_len l).1
  have hs : scriptN l = reqC :: (cmdsN 2 l).take (j - 1) := by
    unfold scriptN
    rw [h3]
    unfold fullN
    obtain ⟨i, rfl⟩ : ∃ i, j = i + 1 := ⟨j - 1, by omega⟩
    rw [List.take_succ_cons]; rfl
  have hmem : ∀ c ∈ (cmdsN 2 l).take (j - 1), ∃ y, c = cmdN 2 y := fun c hc => by
    have := List.mem_of_mem_take hc
    unfold cmdsN at this
    obtain ⟨y, _, rfl⟩ := List.mem_map.1 this
    exact ⟨y, rfl⟩
  refine ⟨_, hs, ?_, okCs_of _ fun c hc => ?_, ?_, fun c hc => ?_, fun has v hf => judCs_want _ fun c hc => ?_⟩
  · rw [← hs]
    rcases shrinkN_ok okS (fullN l).length (fullN l) (Nat.le_refl _) with h | h
    · exact of_decide_eq_true h
    · have he : scriptN l = [reqC] := by
        have h5 : (scriptN l).length ≤ 1 := h
        rw [hs, List.length_cons] at h5
        rw [hs, List.eq_nil_of_length_eq_zero (l := (cmdsN 2 l).take (j - 1)) (by omega)]
      rw [he]; decide
  · obtain ⟨y, rfl⟩ := hmem c hc
    exact okC_cmdN 2 y
  · rw [List.length_take]
    unfold cmdsN
    rw [List.length_map, List.length_take]; omega
  · obtain ⟨y, rfl⟩ := hmem c hc
    exact cmdN_kind 2 y
  · obtain ⟨y, rfl⟩ := hmem c hc
    exact judC_cmdN hf 2 y
theorem chkS_zero {cs : List Cmd} (h : chkS cs = 0) : chkCs cs 0 = 0 ∧ (cmdsTk cs).length ≤ 400 := by
  unfold chkS at h
  by_cases h1 : chkCs cs 0 ≠ 0
  · rw [if_pos h1] at h; exact absurd h h1
  · rw [if_neg h1] at h
    refine ⟨by simpa using h1, ?_⟩
    split at h
    · cases h
    · omega
theorem chkS_of {cs : List Cmd} (h : chkCs cs 0 = 0) : chkS cs = 0 ∨ chkS cs = 5 := by
  unfold chkS
  rw [if_neg (by rw [h]; simp)]
  split
  · exact .inr rfl
  · exact .inl rfl
theorem chkCs_append : ∀ (a b : List Cmd) (d : Int), chkCs a d = 0 → chkCs b d = 0 → chkCs (a ++ b) d = 0
  | [], b, d, _, h => h
  | c :: a, b, d, h1, h2 => by
    rw [chkCs] at h1
    by_cases h : chkC c d ≠ 0
    · rw [if_pos h] at h1; exact absurd h1 h
    · rw [if_neg h] at h1
      rw [List.cons_append, chkCs, if_neg h]
      exact chkCs_append a b d h1 h2
theorem chkCs_cons {c : Cmd} {l : List Cmd} {d : Int} (h : chkCs (c :: l) d = 0) : chkC c d = 0 ∧ chkCs l d = 0 := by
  rw [chkCs] at h
  by_cases h1 : chkC c d ≠ 0
  · rw [if_pos h1] at h; exact absurd h h1
  · rw [if_neg h1] at h
    exact ⟨by simpa using h1, h⟩
theorem ruleR_script (l : List Stk) : ruleR (scriptN l) = 0 := by
  obtain ⟨cl, hs, hc, _, _, hk, hj⟩ := scriptN_form l
  rw [hs]
  unfold ruleR
  rw [if_neg (by rw [hc]; simp), judR_req, judR_plain _ _ _ (fun c h => hk c (List.mem_of_mem_head? h)), hj _ true (flat_req' [])]
  rfl
theorem ruleR_more (l : List Stk) : ruleR (reqC :: scriptN l) = 0 ∨ ruleR (reqC :: scriptN l) = 5 := by
  obtain ⟨cl, hs, hc, _, _, hk, hj⟩ := scriptN_form l
  rw [hs]
  obtain ⟨h1, _⟩ := chkS_zero hc
  have h2 : chkCs (reqC :: reqC :: cl) 0 = 0 := chkCs_append [reqC] (reqC :: cl) 0 (by decide) h1
  unfold ruleR
  rcases chkS_of h2 with h | h
  · left
    rw [if_neg (by rw [h]; simp), judR_req, judR_req, judR_plain _ _ _ (fun c h => hk c (List.mem_of_mem_head? h)), hj _ true (flat_req' _)]
    rfl
  · right
    rw [if_pos (by rw [h]; simp), h]
theorem ruleR_bare {l : List Stk} {cl : List Cmd} (hs : scriptN l = reqC :: cl) : ruleR cl = want false (needsCs cl) := by
  obtain ⟨cl', hs', hc, _, _, hk, hj⟩ := scriptN_form l
  rw [hs] at hs'
  obtain rfl : cl = cl' := by simpa using hs'
  obtain ⟨h1, h2⟩ := chkS_zero hc
  have h3 := (chkCs_cons h1).2
  have h4 : chkS cl = 0 := by
    unfold chkS
    rw [if_neg (by rw [h3]; simp), if_neg]
    rw [cmdsTk, List.length_append] at h2
    omega
  unfold ruleR
  rw [if_neg (by rw [h4]; simp), judR_plain _ _ _ (fun c h => hk c (List.mem_of_mem_head? h)), hj _ false ⟨rfl, rfl, rfl, rfl⟩]
def fileA : Cmd := .mk 5 [mkS [97]] zeroT [] []
theorem ruleR_fileA : ruleR [fileA] = 8 := by decide
def keepC : Cmd := .mk 3 [] zeroT [] []
def varC : Cmd := .mk 1 [mkS [118, 97, 114, 105, 97, 98, 108, 101, 115]] zeroT [] []
theorem ruleR_late (l : List Stk) : ruleR (scriptN l ++ [keepC, reqC]) = 3 ∨ ruleR (scriptN l ++ [keepC, reqC]) = 5 := by
  obtain ⟨cl, hs, hc, _, _, hk, hj⟩ := scriptN_form l
  rw [hs]
  obtain ⟨h1, _⟩ := chkS_zero hc
  have h2 : chkCs (reqC :: cl ++ [keepC, reqC]) 0 = 0 := chkCs_append _ _ 0 h1 (by decide)
  unfold ruleR
  rcases chkS_of h2 with h | h
  · left
    rw [if_neg (by rw [h]; simp), List.cons_append, judR_req, judR_plain, judCs_append, hj _ true (flat_req' _)]
    · rfl
    · intro c hc2
      cases cl with
      | nil =>
        obtain rfl : keepC = c := by simpa using hc2
        decide
      | cons d l =>
        obtain rfl : d = c := by simpa using hc2
        exact hk d (by simp)
  · right
    rw [if_pos (by rw [h]; simp), h]
theorem ruleR_odd (l : List Stk) : ruleR (varC :: scriptN l) = 7 ∨ ruleR (varC :: scriptN l) = 5 := by
  obtain ⟨cl, hs, hc, _⟩ := scriptN_form l
  rw [hs]
  obtain ⟨h1, _⟩ := chkS_zero hc
  have h2 : chkCs (varC :: reqC :: cl) 0 = 0 := chkCs_append [varC] (reqC :: cl) 0 (by decide) h1
  unfold ruleR
  rcases chkS_of h2 with h | h
  · left
    rw [if_neg (by rw [h]; simp), judR, if_pos (show varC.kind = 1 from rfl), if_pos (by decide)]
  · right
    rw [if_pos (by rw [h]; simp), h]
end Go.Proofs.YtgmnoemkdigafaaDoor
