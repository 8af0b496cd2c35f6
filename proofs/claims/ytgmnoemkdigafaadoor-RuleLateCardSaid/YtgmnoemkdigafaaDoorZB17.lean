/- The helper Test of the statements: kind 9. -/
import Derived.Test.YtgmnoemkdigafaaDoorZB1
import Derived.Laws.Rows
import Derived.Deep.RegionLaw
import Derived.Deep.AppendLies
import Derived.Deep.DeepCutAuto
import Derived.Deep.CutBlock
import Derived.RegionTactic
import Derived.BigRegion
namespace Go.Proofs.YtgmnoemkdigafaaDoor
open Go.RowKit
set_option linter.unusedVariables false
set_option linter.unusedSimpArgs false

set_option maxRecDepth 100000 in
set_option maxHeartbeats 8000000 in
theorem tst_9 (kk a b : Int) (s t : ByteArray) (inn : List Stk) (A : Option Addr) (c : Nat) (d : Int) (w : World) (hd0 : 0 ≤ d) (hd : d ≤ 1000) (hP10 : pickN kk 10 = 8) (hB : StkB kk a b s t inn.length c) (hA : StksAt w inn A) :
    Calls Tryd.prog 16 #[.agg #[.int .i64 kk, .int .i64 a, .int .i64 b, .string s, .string t, .slice A inn.length c], .int .i64 d] w fun e w' => ∃ tv, e = .returned (.agg (List.toArray tv)) ∧ (∀ W, New w.heap.size w' W → TestV W (leafT 9 (.mk kk a b s t inn)) tv) ∧ Below w.heap.size w w' := by
  obtain ⟨wk, wa, wb, ws, wt, hc1, hc2⟩ := hB
  unfold maxLen at ws wt hc2
  have hX := Bk.new w [.int .i64 kk, .int .i64 a, .int .i64 b, .string s, .string t, .slice A inn.length c] 39
  have hbx : Below w.heap.size w (w.alloc (.cells #[.int .i64 kk, .int .i64 a, .int .i64 b, .string s, .string t, .slice A inn.length c] 39)) := bal (Below.refl _ _) _
  have HX := Lib.hid hX
  have Hbx := Lib.hid hbx
  clear hX hbx
  have P10 : ∀ W : World, Calls Tryd.prog 13 #[.int .i64 kk, .int .i64 10] W fun e w' => e = .returned (.int .i64 ((8 : Nat) : Int)) ∧ W = w' := fun W => by
    have h := picked_calls kk 10 W wk (by decide) (by decide)
    rw [hP10] at h
    exact h
  have PA3 := fun W : World => picked_calls a 3 W wa (by decide) (by decide)
  have PA2 := fun W : World => picked_calls a 2 W wa (by decide) (by decide)
  have PB4 := fun W : World => picked_calls b 4 W wb (by decide) (by decide)
  have PB3 := fun W : World => picked_calls b 3 W wb (by decide) (by decide)
  have PB2 := fun W : World => picked_calls b 2 W wb (by decide) (by decide)
  have la3 := pickN_lt a 3 (by decide)
  have la2 := pickN_lt a 2 (by decide)
  have lb4 := pickN_lt b 4 (by decide)
  have lb3 := pickN_lt b 3 (by decide)
  have lb2 := pickN_lt b 2 (by decide)
  have SS := fun W : World => short_calls s (by omega) W
  have ST := fun W : World => short_calls t (by omega) W
  go_enter Tryd.func16, Tryd.ntmps16
  go_upto_region 1 with fail
  have hR := Bk.new (w.alloc (.cells #[.int .i64 kk, .int .i64 a, .int .i64 b, .string s, .string t, .slice A inn.length c] 39)) [.int .i64 0, .int .i64 0, .int .i64 0, .slice none 0 0, .slice none 0 0, .bool false, .int .i64 0, .slice none 0 0] 31
  have hX2 := HX.out.alloc (.cells #[.int .i64 0, .int .i64 0, .int .i64 0, .slice none 0 0, .slice none 0 0, .bool false, .int .i64 0, .slice none 0 0] 31)
  have hb2 := bal Hbx.out (.cells #[.int .i64 0, .int .i64 0, .int .i64 0, .slice none 0 0, .slice none 0 0, .bool false, .int .i64 0, .slice none 0 0] 31)
  have hs1 : (w.alloc (.cells #[.int .i64 kk, .int .i64 a, .int .i64 b, .string s, .string t, .slice A inn.length c] 39)).heap.size = w.heap.size + 1 := by simp
  rw [hs1] at hR
  have hs2 : ((w.alloc (.cells #[.int .i64 kk, .int .i64 a, .int .i64 b, .string s, .string t, .slice A inn.length c] 39)).alloc (.cells #[.int .i64 0, .int .i64 0, .int .i64 0, .slice none 0 0, .slice none 0 0, .bool false, .int .i64 0, .slice none 0 0] 31)).heap.size = w.heap.size + 2 := by simp
  have HR := Lib.hid hR
  have HX2 := Lib.hid hX2
  have Hb2 := Lib.hid hb2
  clear hR hX2 hb2 hs1 HX Hbx
  generalize (w.alloc (.cells #[.int .i64 kk, .int .i64 a, .int .i64 b, .string s, .string t, .slice A inn.length c] 39)).alloc (.cells #[.int .i64 0, .int .i64 0, .int .i64 0, .slice none 0 0, .slice none 0 0, .bool false, .int .i64 0, .slice none 0 0] 31) = w2 at *
  have x0 := HX2.out.cell 0 _ rfl
  go_upto_region 2 with (go_at_call 13; refine (P10 _).mono ?_; rintro e w' ⟨rfl, rfl⟩)
  clear P10 x0
  go_cut [23] from 14 to 24 (fun v wx => v = .bool false ∧ w2 = wx)
  case first =>
    by_cases h3 : 3 ≤ d
    all_goals (
      go_wp2_with fail
      go_meet
      exact ⟨by first | rfl | trivial, by first | rfl | trivial⟩)
  case rest =>
  obtain ⟨rfl, rfl⟩ := hcut
  have hT := Bk.new w2 [.int .i64 9, .int .i64 0, .int .i64 0, .slice none 0 0, .slice none 0 0, .bool false, .int .i64 0, .slice none 0 0] 31
  have hT2 := HR.out.alloc (.cells #[.int .i64 9, .int .i64 0, .int .i64 0, .slice none 0 0, .slice none 0 0, .bool false, .int .i64 0, .slice none 0 0] 31)
  have hX3 := HX2.out.alloc (.cells #[.int .i64 9, .int .i64 0, .int .i64 0, .slice none 0 0, .slice none 0 0, .bool false, .int .i64 0, .slice none 0 0] 31)
  have hb3 := bal Hb2.out (.cells #[.int .i64 9, .int .i64 0, .int .i64 0, .slice none 0 0, .slice none 0 0, .bool false, .int .i64 0, .slice none 0 0] 31)
  rw [hs2] at hT
  have HT := Lib.hid hT
  have HR3 := Lib.hid hT2
  have HX3 := Lib.hid hX3
  have Hb3 := Lib.hid hb3
  clear hT hT2 hX3 hb3 HR HX2 Hb2
  go_upto_region 5 with fail
  have hs3 : (w2.alloc (.cells #[.int .i64 9, .int .i64 0, .int .i64 0, .slice none 0 0, .slice none 0 0, .bool false, .int .i64 0, .slice none 0 0] 31)).heap.size = w.heap.size + 3 := by simp; omega
  generalize w2.alloc (.cells #[.int .i64 9, .int .i64 0, .int .i64 0, .slice none 0 0, .slice none 0 0, .bool false, .int .i64 0, .slice none 0 0] 31) = w3 at *
  have z0 : ([.string ⟨#[115, 117, 98, 106, 101, 99, 116]⟩, .string ⟨#[116, 111]⟩, .string ⟨#[99, 99]⟩] : List Value)[pickN a 3]? = some (.string (exiN a)) := getD_str [[115, 117, 98, 106, 101, 99, 116], [116, 111], [99, 99]] (pickN a 3) (by simp only [List.length_cons, List.length_nil]; omega)
  have SW := fun W : World => word_calls s (by omega) W
  have hqq : pickN b 2 = 0 ∨ pickN b 2 = 1 := by omega
  have hw1 : IntKind.i64.wrap (1 + (pickN b 2 : Int)) = 1 + (pickN b 2 : Int) := by rcases hqq with h | h <;> rw [h] <;> decide
  have hw2 : (1 + (pickN b 2 : Int)).toNat = 1 + pickN b 2 := by omega
  have hw3 : (0 : Int) ≤ 1 + (pickN b 2 : Int) := by omega
  have hw4 : 1 + (pickN b 2 : Int) ≤ 2 := by omega
  have HTd := Lib.hid (Bk.drew (Bk.alloc HT.out (.cells #[.string ⟨#[115, 117, 98, 106, 101, 99, 116]⟩, .string ⟨#[116, 111]⟩, .string ⟨#[99, 99]⟩] 9)))
  have HRd := Lib.hid (Bk.drew (Bk.alloc HR3.out (.cells #[.string ⟨#[115, 117, 98, 106, 101, 99, 116]⟩, .string ⟨#[116, 111]⟩, .string ⟨#[99, 99]⟩] 9)))
  have HXd := Lib.hid (Bk.drew (Bk.alloc HX3.out (.cells #[.string ⟨#[115, 117, 98, 106, 101, 99, 116]⟩, .string ⟨#[116, 111]⟩, .string ⟨#[99, 99]⟩] 9)))
  have hbd := Below.drew (Hb3.out.alloc (by show w.heap.size ≤ w3.heap.size; omega) (.cells #[.string ⟨#[115, 117, 98, 106, 101, 99, 116]⟩, .string ⟨#[116, 111]⟩, .string ⟨#[99, 99]⟩] 9))
  have HBd := Lib.hid hbd
  clear hbd
  have HTe := Lib.hid (Bk.drew HT.out)
  have HRe := Lib.hid (Bk.drew HR3.out)
  have HXe := Lib.hid (Bk.drew HX3.out)
  have HBe := Lib.hid (Below.drew Hb3.out)
  have hFd : Bk (w3.alloc (.cells #[.string ⟨#[115, 117, 98, 106, 101, 99, 116]⟩, .string ⟨#[116, 111]⟩, .string ⟨#[99, 99]⟩] 9)).drew (w.heap.size + 3) [.string ⟨#[115, 117, 98, 106, 101, 99, 116]⟩, .string ⟨#[116, 111]⟩, .string ⟨#[99, 99]⟩] 9 := Bk.drew (bk_newN w3 (w.heap.size + 3) [.string ⟨#[115, 117, 98, 106, 101, 99, 116]⟩, .string ⟨#[116, 111]⟩, .string ⟨#[99, 99]⟩] 9 hs3)
  have HFd := Lib.hid hFd
  clear hFd
  have x1 := HX3.out.cell 1 _ rfl
  have x2 := HX3.out.cell 2 _ rfl
  have x3 := HX3.out.cell 3 _ rfl
  go_upto_region 33 with fail
  refine wp_region_noPanic ?_
  refine wp_region_held_drew (S := (fun W => W.cell? ⟨w.heap.size, 1, none⟩ = some (.int .i64 a) ∧ W.cell? ⟨w.heap.size, 2, none⟩ = some (.int .i64 b) ∧ W.cell? ⟨w.heap.size, 3, none⟩ = some (.string s))) (by kernel_rfl) ?hS_1 (fun hHeld => ?rest_1)
  case hS_1 => (go_keep)
  refine wpAnyH_take (i := 1) (oi := ?oi_2) (v := ?v_2) ?hi_2 (by kernel_rfl) (by kernel_rfl) (by kernel_rfl) (fun _ _ _ h => h) (Or.inl ⟨?hw_2, ?hy_2⟩) (by assumption) ?rest_2
  case hi_2 => (simp only [List.getElem?_toArray, List.getElem?_cons_zero, List.getElem?_cons_succ]; rfl)
  case hw_2 => rfl
  case hy_2 => (intro w hSw; (try dsimp only at hSw); go_simp; try with_reducible rfl)
  try simp only [Act.put, List.setIfInBounds_toArray, List.set_cons_zero, List.set_cons_succ]
  refine wpAnyH_take (i := 2) (oi := ?oi_3) (v := ?v_3) ?hi_3 (by kernel_rfl) (by kernel_rfl) (by kernel_rfl) (fun _ _ _ h => h) (Or.inl ⟨?hw_3, ?hy_3⟩) (by assumption) ?rest_3
  case hi_3 => (simp only [List.getElem?_toArray, List.getElem?_cons_zero, List.getElem?_cons_succ]; rfl)
  case hw_3 => rfl
  case hy_3 => (intro w hSw; (try dsimp only at hSw); go_simp; try with_reducible rfl)
  try simp only [Act.put, List.setIfInBounds_toArray, List.set_cons_zero, List.set_cons_succ]
  refine wpAnyH_take (i := 6) (oi := ?oi_4) (v := ?v_4) ?hi_4 (by kernel_rfl) (by kernel_rfl) (by kernel_rfl) (fun _ _ _ h => h) (Or.inl ⟨?hw_4, ?hy_4⟩) (by assumption) ?rest_4
  case hi_4 => (simp only [List.getElem?_toArray, List.getElem?_cons_zero, List.getElem?_cons_succ]; rfl)
  case hw_4 => rfl
  case hy_4 => (intro w hSw; (try dsimp only at hSw); go_simp; try with_reducible rfl)
  try simp only [Act.put, List.setIfInBounds_toArray, List.set_cons_zero, List.set_cons_succ]
  refine wpAnyH_take (i := 7) (oi := ?oi_5) (v := ?v_5) ?hi_5 (by kernel_rfl) (by kernel_rfl) (by kernel_rfl) (fun _ _ _ h => h) (Or.inl ⟨?hw_5, ?hy_5⟩) (by assumption) ?rest_5
  case hi_5 => (simp only [List.getElem?_toArray, List.getElem?_cons_zero, List.getElem?_cons_succ]; rfl)
  case hw_5 => rfl
  case hy_5 => (intro w hSw; (try dsimp only at hSw); go_simp; try with_reducible rfl)
  try simp only [Act.put, List.setIfInBounds_toArray, List.set_cons_zero, List.set_cons_succ]
  refine wpAnyH_take (i := 10) (oi := ?oi_6) (v := ?v_6) ?hi_6 (by kernel_rfl) (by kernel_rfl) (by kernel_rfl) (fun _ _ _ h => h) (Or.inl ⟨?hw_6, ?hy_6⟩) (by assumption) ?rest_6
  case hi_6 => (simp only [List.getElem?_toArray, List.getElem?_cons_zero, List.getElem?_cons_succ]; rfl)
  case hw_6 => rfl
  case hy_6 => (intro w hSw; (try dsimp only at hSw); go_simp; try with_reducible rfl)
  try simp only [Act.put, List.setIfInBounds_toArray, List.set_cons_zero, List.set_cons_succ]
  refine wpAnyH_take (i := 11) (oi := ?oi_7) (v := ?v_7) ?hi_7 (by kernel_rfl) (by kernel_rfl) (by kernel_rfl) (fun _ _ _ h => h) (Or.inl ⟨?hw_7, ?hy_7⟩) (by assumption) ?rest_7
  case hi_7 => (simp only [List.getElem?_toArray, List.getElem?_cons_zero, List.getElem?_cons_succ]; rfl)
  case hw_7 => rfl
  case hy_7 => (intro w hSw; (try dsimp only at hSw); go_simp; try with_reducible rfl)
  try simp only [Act.put, List.setIfInBounds_toArray, List.set_cons_zero, List.set_cons_succ]
  refine wpAnyH_ready (rs := [0, 3]) (by kernel_rfl) (by simp) (AllReadyH.cons (o := ?o_0_8) ?ho_0_8 (fun K hK => ?_) (AllReadyH.cons (o := ?o_3_8) ?ho_3_8 (fun K hK => ?_) AllReadyH.nil))
  case ho_0_8 => (simp only [List.getElem?_toArray, List.getElem?_cons_zero, List.getElem?_cons_succ]; rfl)
  case ho_3_8 => (simp only [List.getElem?_toArray, List.getElem?_cons_zero, List.getElem?_cons_succ]; rfl)
  clear hHeld
  focus (go_simp)
  refine hK.out _ _ ?hS_9 (fun hHeld => ?rest_9)
  case hS_9 => ((try dsimp only); go_keep)
  clear hK K
  try simp only [Act.put, List.setIfInBounds_toArray, List.set_cons_zero, List.set_cons_succ]
  refine wpAnyH_ready (rs := [3]) (by kernel_rfl) (by simp) (AllReadyH.cons (o := ?o_3_10) ?ho_3_10 (fun K hK => ?_) AllReadyH.nil)
  case ho_3_10 => (simp only [List.getElem?_toArray, List.getElem?_cons_zero, List.getElem?_cons_succ]; rfl)
  focus (go_simp)
  focus (first
    | (go_at_call 13; (first | (with_reducible refine (PA3 _).mono ?_) | (with_reducible refine (PB2 _).mono ?_)); rintro e w' ⟨rfl, rfl⟩)
    | (go_at_call 30; with_reducible refine (SW _).mono ?_; rintro e w9 ⟨rfl, hb9⟩; (first | (with_reducible have hT9 := HTd.out.later hb9; with_reducible have hR9 := HRd.out.later hb9; with_reducible have hX9 := HXd.out.later hb9; with_reducible have hF9 := HFd.out.later hb9; with_reducible have hB9 := btr HBd.out hb9; have u1 := hX9.cell 1 _ rfl; have u2 := hX9.cell 2 _ rfl; have w1 : w9.cell? ⟨w.heap.size + 3, pickN a 3, none⟩ = some (.string (exiN a)) := cell_getD (l := [[115, 117, 98, 106, 101, 99, 116], [116, 111], [99, 99]]) hF9 (pickN a 3) (by simp only [List.length_cons, List.length_nil]; omega); have v1 := (Bk.alloc hX9 (.cells #[.string (exiN a), .string (mkS (wordL (bs s)))] 9)).cell 1 _ rfl; have v2 := (Bk.alloc hX9 (.cells #[.string (exiN a), .string (mkS (wordL (bs s)))] 9)).cell 2 _ rfl; have v3 := (Bk.alloc hT9 (.cells #[.string (exiN a), .string (mkS (wordL (bs s)))] 9)).cell 3 _ rfl; have g3 := (Bk.alloc hT9 (.cells #[.string (exiN a), .string (mkS (wordL (bs s)))] 9)).frozen 3; clear hF9; have HFA := Lib.hid hb9) | (with_reducible have hT9 := HTe.out.later hb9; with_reducible have hR9 := HRe.out.later hb9; with_reducible have hX9 := HXe.out.later hb9; with_reducible have hB9 := btr HBe.out hb9; have u1 := hX9.cell 1 _ rfl; have u2 := hX9.cell 2 _ rfl; have v1 := (Bk.alloc hX9 (.cells #[.string ⟨#[115, 117, 98, 106, 101, 99, 116]⟩, .string ⟨#[116, 111]⟩, .string ⟨#[99, 99]⟩] 9)).cell 1 _ rfl; have v2 := (Bk.alloc hX9 (.cells #[.string ⟨#[115, 117, 98, 106, 101, 99, 116]⟩, .string ⟨#[116, 111]⟩, .string ⟨#[99, 99]⟩] 9)).cell 2 _ rfl; have t1 := (Bk.alloc (Bk.alloc hX9 (.cells #[.string ⟨#[115, 117, 98, 106, 101, 99, 116]⟩, .string ⟨#[116, 111]⟩, .string ⟨#[99, 99]⟩] 9)) (.cells #[.string (exiN a), .string (mkS (wordL (bs s)))] 9)).cell 1 _ rfl; have t2 := (Bk.alloc (Bk.alloc hX9 (.cells #[.string ⟨#[115, 117, 98, 106, 101, 99, 116]⟩, .string ⟨#[116, 111]⟩, .string ⟨#[99, 99]⟩] 9)) (.cells #[.string (exiN a), .string (mkS (wordL (bs s)))] 9)).cell 2 _ rfl; have v3 := (Bk.alloc (Bk.alloc hT9 (.cells #[.string ⟨#[115, 117, 98, 106, 101, 99, 116]⟩, .string ⟨#[116, 111]⟩, .string ⟨#[99, 99]⟩] 9)) (.cells #[.string (exiN a), .string (mkS (wordL (bs s)))] 9)).cell 3 _ rfl; have g3 := (Bk.alloc (Bk.alloc hT9 (.cells #[.string ⟨#[115, 117, 98, 106, 101, 99, 116]⟩, .string ⟨#[116, 111]⟩, .string ⟨#[99, 99]⟩] 9)) (.cells #[.string (exiN a), .string (mkS (wordL (bs s)))] 9)).frozen 3; have HFB := Lib.hid hb9)); have u3 := hX9.cell 3 _ rfl; have HT9 := Lib.hid hT9; have HR9 := Lib.hid hR9; have HB9 := Lib.hid hB9; clear hT9 hR9 hX9 hB9 hb9))
  focus (go_wp2_with fail)
  have hOld := hHeld
  clear hHeld
  refine hK.out _ _ ?hS_11 (fun hHeld => ?rest_11)
  case hS_11 => ((try dsimp only); go_keep)
  clear hK K hOld
  try simp only [Act.put, List.setIfInBounds_toArray, List.set_cons_zero, List.set_cons_succ]
  refine wpAnyH_take (i := 4) (oi := ?oi_12) (v := ?v_12) ?hi_12 (by kernel_rfl) (by kernel_rfl) (by kernel_rfl) (fun _ _ _ h => h) (Or.inl ⟨?hw_12, ?hy_12⟩) (by assumption) ?rest_12
  case hi_12 => (simp only [List.getElem?_toArray, List.getElem?_cons_zero, List.getElem?_cons_succ]; rfl)
  case hw_12 => rfl
  case hy_12 => (intro w hSw; (try dsimp only at hSw); go_simp; try with_reducible rfl)
  try simp only [Act.put, List.setIfInBounds_toArray, List.set_cons_zero, List.set_cons_succ]
  refine wpAnyH_ready (rs := [5, 8]) (by kernel_rfl) (by simp) (AllReadyH.cons (o := ?o_5_13) ?ho_5_13 (fun K hK => ?_) (AllReadyH.cons (o := ?o_8_13) ?ho_8_13 (fun K hK => ?_) AllReadyH.nil))
  case ho_5_13 => (simp only [List.getElem?_toArray, List.getElem?_cons_zero, List.getElem?_cons_succ]; rfl)
  case ho_8_13 => (simp only [List.getElem?_toArray, List.getElem?_cons_zero, List.getElem?_cons_succ]; rfl)
  clear hHeld
  focus (go_simp)
  refine hK.out _ _ ?hS_14 (fun hHeld => ?rest_14)
  case hS_14 => ((try dsimp only); go_keep)
  clear hK K
  try simp only [Act.put, List.setIfInBounds_toArray, List.set_cons_zero, List.set_cons_succ]
  refine wpAnyH_ready (rs := [8]) (by kernel_rfl) (by simp) (AllReadyH.cons (o := ?o_8_15) ?ho_8_15 (fun K hK => ?_) AllReadyH.nil)
  case ho_8_15 => (simp only [List.getElem?_toArray, List.getElem?_cons_zero, List.getElem?_cons_succ]; rfl)
  focus (go_simp)
  focus (first
    | (go_at_call 13; (first | (with_reducible refine (PA3 _).mono ?_) | (with_reducible refine (PB2 _).mono ?_)); rintro e w' ⟨rfl, rfl⟩)
    | (go_at_call 30; with_reducible refine (SW _).mono ?_; rintro e w9 ⟨rfl, hb9⟩; (first | (with_reducible have hT9 := HTd.out.later hb9; with_reducible have hR9 := HRd.out.later hb9; with_reducible have hX9 := HXd.out.later hb9; with_reducible have hF9 := HFd.out.later hb9; with_reducible have hB9 := btr HBd.out hb9; have u1 := hX9.cell 1 _ rfl; have u2 := hX9.cell 2 _ rfl; have w1 : w9.cell? ⟨w.heap.size + 3, pickN a 3, none⟩ = some (.string (exiN a)) := cell_getD (l := [[115, 117, 98, 106, 101, 99, 116], [116, 111], [99, 99]]) hF9 (pickN a 3) (by simp only [List.length_cons, List.length_nil]; omega); have v1 := (Bk.alloc hX9 (.cells #[.string (exiN a), .string (mkS (wordL (bs s)))] 9)).cell 1 _ rfl; have v2 := (Bk.alloc hX9 (.cells #[.string (exiN a), .string (mkS (wordL (bs s)))] 9)).cell 2 _ rfl; have v3 := (Bk.alloc hT9 (.cells #[.string (exiN a), .string (mkS (wordL (bs s)))] 9)).cell 3 _ rfl; have g3 := (Bk.alloc hT9 (.cells #[.string (exiN a), .string (mkS (wordL (bs s)))] 9)).frozen 3; clear hF9; have HFA := Lib.hid hb9) | (with_reducible have hT9 := HTe.out.later hb9; with_reducible have hR9 := HRe.out.later hb9; with_reducible have hX9 := HXe.out.later hb9; with_reducible have hB9 := btr HBe.out hb9; have u1 := hX9.cell 1 _ rfl; have u2 := hX9.cell 2 _ rfl; have v1 := (Bk.alloc hX9 (.cells #[.string ⟨#[115, 117, 98, 106, 101, 99, 116]⟩, .string ⟨#[116, 111]⟩, .string ⟨#[99, 99]⟩] 9)).cell 1 _ rfl; have v2 := (Bk.alloc hX9 (.cells #[.string ⟨#[115, 117, 98, 106, 101, 99, 116]⟩, .string ⟨#[116, 111]⟩, .string ⟨#[99, 99]⟩] 9)).cell 2 _ rfl; have t1 := (Bk.alloc (Bk.alloc hX9 (.cells #[.string ⟨#[115, 117, 98, 106, 101, 99, 116]⟩, .string ⟨#[116, 111]⟩, .string ⟨#[99, 99]⟩] 9)) (.cells #[.string (exiN a), .string (mkS (wordL (bs s)))] 9)).cell 1 _ rfl; have t2 := (Bk.alloc (Bk.alloc hX9 (.cells #[.string ⟨#[115, 117, 98, 106, 101, 99, 116]⟩, .string ⟨#[116, 111]⟩, .string ⟨#[99, 99]⟩] 9)) (.cells #[.string (exiN a), .string (mkS (wordL (bs s)))] 9)).cell 2 _ rfl; have v3 := (Bk.alloc (Bk.alloc hT9 (.cells #[.string ⟨#[115, 117, 98, 106, 101, 99, 116]⟩, .string ⟨#[116, 111]⟩, .string ⟨#[99, 99]⟩] 9)) (.cells #[.string (exiN a), .string (mkS (wordL (bs s)))] 9)).cell 3 _ rfl; have g3 := (Bk.alloc (Bk.alloc hT9 (.cells #[.string ⟨#[115, 117, 98, 106, 101, 99, 116]⟩, .string ⟨#[116, 111]⟩, .string ⟨#[99, 99]⟩] 9)) (.cells #[.string (exiN a), .string (mkS (wordL (bs s)))] 9)).frozen 3; have HFB := Lib.hid hb9)); have u3 := hX9.cell 3 _ rfl; have HT9 := Lib.hid hT9; have HR9 := Lib.hid hR9; have HB9 := Lib.hid hB9; clear hT9 hR9 hX9 hB9 hb9))
  focus (go_wp2_with fail)
  have hOld := hHeld
  clear hHeld
  refine hK.out _ _ ?hS_16 (fun hHeld => ?rest_16)
  case hS_16 => ((try dsimp only); go_keep)
  clear hK K hOld
  try simp only [Act.put, List.setIfInBounds_toArray, List.set_cons_zero, List.set_cons_succ]
  refine wpAnyH_ready (rs := [9, 12]) (by kernel_rfl) (by simp) (AllReadyH.cons (o := ?o_9_17) ?ho_9_17 (fun K hK => ?_) (AllReadyH.cons (o := ?o_12_17) ?ho_12_17 (fun K hK => ?_) AllReadyH.nil))
  case ho_9_17 => (simp only [List.getElem?_toArray, List.getElem?_cons_zero, List.getElem?_cons_succ]; rfl)
  case ho_12_17 => (simp only [List.getElem?_toArray, List.getElem?_cons_zero, List.getElem?_cons_succ]; rfl)
  clear hHeld
  focus (go_simp)
  refine hK.out _ _ ?hS_18 (fun hHeld => ?rest_18)
  case hS_18 => ((try dsimp only); go_keep)
  clear hK K
  try simp only [Act.put, List.setIfInBounds_toArray, List.set_cons_zero, List.set_cons_succ]
  refine wpAnyH_ready (rs := [12]) (by kernel_rfl) (by simp) (AllReadyH.cons (o := ?o_12_19) ?ho_12_19 (fun K hK => ?_) AllReadyH.nil)
  case ho_12_19 => (simp only [List.getElem?_toArray, List.getElem?_cons_zero, List.getElem?_cons_succ]; rfl)
  focus (go_simp)
  focus (first
    | (go_at_call 13; (first | (with_reducible refine (PA3 _).mono ?_) | (with_reducible refine (PB2 _).mono ?_)); rintro e w' ⟨rfl, rfl⟩)
    | (go_at_call 30; with_reducible refine (SW _).mono ?_; rintro e w9 ⟨rfl, hb9⟩; (first | (with_reducible have hT9 := HTd.out.later hb9; with_reducible have hR9 := HRd.out.later hb9; with_reducible have hX9 := HXd.out.later hb9; with_reducible have hF9 := HFd.out.later hb9; with_reducible have hB9 := btr HBd.out hb9; have u1 := hX9.cell 1 _ rfl; have u2 := hX9.cell 2 _ rfl; have w1 : w9.cell? ⟨w.heap.size + 3, pickN a 3, none⟩ = some (.string (exiN a)) := cell_getD (l := [[115, 117, 98, 106, 101, 99, 116], [116, 111], [99, 99]]) hF9 (pickN a 3) (by simp only [List.length_cons, List.length_nil]; omega); have v1 := (Bk.alloc hX9 (.cells #[.string (exiN a), .string (mkS (wordL (bs s)))] 9)).cell 1 _ rfl; have v2 := (Bk.alloc hX9 (.cells #[.string (exiN a), .string (mkS (wordL (bs s)))] 9)).cell 2 _ rfl; have v3 := (Bk.alloc hT9 (.cells #[.string (exiN a), .string (mkS (wordL (bs s)))] 9)).cell 3 _ rfl; have g3 := (Bk.alloc hT9 (.cells #[.string (exiN a), .string (mkS (wordL (bs s)))] 9)).frozen 3; clear hF9; have HFA := Lib.hid hb9) | (with_reducible have hT9 := HTe.out.later hb9; with_reducible have hR9 := HRe.out.later hb9; with_reducible have hX9 := HXe.out.later hb9; with_reducible have hB9 := btr HBe.out hb9; have u1 := hX9.cell 1 _ rfl; have u2 := hX9.cell 2 _ rfl; have v1 := (Bk.alloc hX9 (.cells #[.string ⟨#[115, 117, 98, 106, 101, 99, 116]⟩, .string ⟨#[116, 111]⟩, .string ⟨#[99, 99]⟩] 9)).cell 1 _ rfl; have v2 := (Bk.alloc hX9 (.cells #[.string ⟨#[115, 117, 98, 106, 101, 99, 116]⟩, .string ⟨#[116, 111]⟩, .string ⟨#[99, 99]⟩] 9)).cell 2 _ rfl; have t1 := (Bk.alloc (Bk.alloc hX9 (.cells #[.string ⟨#[115, 117, 98, 106, 101, 99, 116]⟩, .string ⟨#[116, 111]⟩, .string ⟨#[99, 99]⟩] 9)) (.cells #[.string (exiN a), .string (mkS (wordL (bs s)))] 9)).cell 1 _ rfl; have t2 := (Bk.alloc (Bk.alloc hX9 (.cells #[.string ⟨#[115, 117, 98, 106, 101, 99, 116]⟩, .string ⟨#[116, 111]⟩, .string ⟨#[99, 99]⟩] 9)) (.cells #[.string (exiN a), .string (mkS (wordL (bs s)))] 9)).cell 2 _ rfl; have v3 := (Bk.alloc (Bk.alloc hT9 (.cells #[.string ⟨#[115, 117, 98, 106, 101, 99, 116]⟩, .string ⟨#[116, 111]⟩, .string ⟨#[99, 99]⟩] 9)) (.cells #[.string (exiN a), .string (mkS (wordL (bs s)))] 9)).cell 3 _ rfl; have g3 := (Bk.alloc (Bk.alloc hT9 (.cells #[.string ⟨#[115, 117, 98, 106, 101, 99, 116]⟩, .string ⟨#[116, 111]⟩, .string ⟨#[99, 99]⟩] 9)) (.cells #[.string (exiN a), .string (mkS (wordL (bs s)))] 9)).frozen 3; have HFB := Lib.hid hb9)); have u3 := hX9.cell 3 _ rfl; have HT9 := Lib.hid hT9; have HR9 := Lib.hid hR9; have HB9 := Lib.hid hB9; clear hT9 hR9 hX9 hB9 hb9))
  focus (go_wp2_with fail)
  have hOld := hHeld
  clear hHeld
  refine hK.out _ _ ?hS_20 (fun hHeld => ?rest_20)
  case hS_20 => ((try dsimp only); go_keep)
  clear hK K hOld
  try simp only [Act.put, List.setIfInBounds_toArray, List.set_cons_zero, List.set_cons_succ]
  refine wpAnyH_take (i := 13) (oi := ?oi_21) (v := ?v_21) ?hi_21 (by kernel_rfl) (by kernel_rfl) (by kernel_rfl) (fun _ _ _ h => h) (Or.inl ⟨?hw_21, ?hy_21⟩) (by assumption) ?rest_21
  case hi_21 => (simp only [List.getElem?_toArray, List.getElem?_cons_zero, List.getElem?_cons_succ]; rfl)
  case hw_21 => rfl
  case hy_21 => (intro w hSw; (try dsimp only at hSw); go_simp; try with_reducible rfl)
  try simp only [Act.put, List.setIfInBounds_toArray, List.set_cons_zero, List.set_cons_succ]
  refine wpAnyH_take (i := 14) (oi := ?oi_22) (v := ?v_22) ?hi_22 (by kernel_rfl) (by kernel_rfl) (by kernel_rfl) (fun _ _ _ h => h) (Or.inl ⟨?hw_22, ?hy_22⟩) (by assumption) ?rest_22
  case hi_22 => (simp only [List.getElem?_toArray, List.getElem?_cons_zero, List.getElem?_cons_succ]; rfl)
  case hw_22 => rfl
  case hy_22 => (intro w hSw; (try dsimp only at hSw); go_simp; try with_reducible rfl)
  try simp only [Act.put, List.setIfInBounds_toArray, List.set_cons_zero, List.set_cons_succ]
  refine wpAnyH_take (i := 15) (oi := ?oi_23) (v := ?v_23) ?hi_23 (by kernel_rfl) (by kernel_rfl) (by kernel_rfl) (fun _ _ _ h => h) (Or.inl ⟨?hw_23, ?hy_23⟩) (by assumption) ?rest_23
  case hi_23 => (simp only [List.getElem?_toArray, List.getElem?_cons_zero, List.getElem?_cons_succ]; rfl)
  case hw_23 => rfl
  case hy_23 => (intro w hSw; (try dsimp only at hSw); go_simp; try with_reducible rfl)
  try simp only [Act.put, List.setIfInBounds_toArray, List.set_cons_zero, List.set_cons_succ]
  refine wpAnyH_ready (rs := [16]) (by kernel_rfl) (by simp) (AllReadyH.cons (o := ?o_16_24) ?ho_16_24 (fun K hK => ?_) AllReadyH.nil)
  case ho_16_24 => (simp only [List.getElem?_toArray, List.getElem?_cons_zero, List.getElem?_cons_succ]; rfl)
  clear hHeld
  focus (go_simp)
  refine hK.out _ _ ?hS_25 (fun hHeld => ?rest_25)
  case hS_25 => ((try dsimp only); go_keep)
  clear hK K
  try simp only [Act.put, List.setIfInBounds_toArray, List.set_cons_zero, List.set_cons_succ]
  refine wpAnyH_done (by kernel_rfl) ?_ _
  refine NoPanic.normal ?_
  rotate_left
  focus (go_simp)
  focus (first
    | (go_at_call 13; (first | (with_reducible refine (PA3 _).mono ?_) | (with_reducible refine (PB2 _).mono ?_)); rintro e w' ⟨rfl, rfl⟩)
    | (go_at_call 30; with_reducible refine (SW _).mono ?_; rintro e w9 ⟨rfl, hb9⟩; (first | (with_reducible have hT9 := HTd.out.later hb9; with_reducible have hR9 := HRd.out.later hb9; with_reducible have hX9 := HXd.out.later hb9; with_reducible have hF9 := HFd.out.later hb9; with_reducible have hB9 := btr HBd.out hb9; have u1 := hX9.cell 1 _ rfl; have u2 := hX9.cell 2 _ rfl; have w1 : w9.cell? ⟨w.heap.size + 3, pickN a 3, none⟩ = some (.string (exiN a)) := cell_getD (l := [[115, 117, 98, 106, 101, 99, 116], [116, 111], [99, 99]]) hF9 (pickN a 3) (by simp only [List.length_cons, List.length_nil]; omega); have v1 := (Bk.alloc hX9 (.cells #[.string (exiN a), .string (mkS (wordL (bs s)))] 9)).cell 1 _ rfl; have v2 := (Bk.alloc hX9 (.cells #[.string (exiN a), .string (mkS (wordL (bs s)))] 9)).cell 2 _ rfl; have v3 := (Bk.alloc hT9 (.cells #[.string (exiN a), .string (mkS (wordL (bs s)))] 9)).cell 3 _ rfl; have g3 := (Bk.alloc hT9 (.cells #[.string (exiN a), .string (mkS (wordL (bs s)))] 9)).frozen 3; clear hF9; have HFA := Lib.hid hb9) | (with_reducible have hT9 := HTe.out.later hb9; with_reducible have hR9 := HRe.out.later hb9; with_reducible have hX9 := HXe.out.later hb9; with_reducible have hB9 := btr HBe.out hb9; have u1 := hX9.cell 1 _ rfl; have u2 := hX9.cell 2 _ rfl; have v1 := (Bk.alloc hX9 (.cells #[.string ⟨#[115, 117, 98, 106, 101, 99, 116]⟩, .string ⟨#[116, 111]⟩, .string ⟨#[99, 99]⟩] 9)).cell 1 _ rfl; have v2 := (Bk.alloc hX9 (.cells #[.string ⟨#[115, 117, 98, 106, 101, 99, 116]⟩, .string ⟨#[116, 111]⟩, .string ⟨#[99, 99]⟩] 9)).cell 2 _ rfl; have t1 := (Bk.alloc (Bk.alloc hX9 (.cells #[.string ⟨#[115, 117, 98, 106, 101, 99, 116]⟩, .string ⟨#[116, 111]⟩, .string ⟨#[99, 99]⟩] 9)) (.cells #[.string (exiN a), .string (mkS (wordL (bs s)))] 9)).cell 1 _ rfl; have t2 := (Bk.alloc (Bk.alloc hX9 (.cells #[.string ⟨#[115, 117, 98, 106, 101, 99, 116]⟩, .string ⟨#[116, 111]⟩, .string ⟨#[99, 99]⟩] 9)) (.cells #[.string (exiN a), .string (mkS (wordL (bs s)))] 9)).cell 2 _ rfl; have v3 := (Bk.alloc (Bk.alloc hT9 (.cells #[.string ⟨#[115, 117, 98, 106, 101, 99, 116]⟩, .string ⟨#[116, 111]⟩, .string ⟨#[99, 99]⟩] 9)) (.cells #[.string (exiN a), .string (mkS (wordL (bs s)))] 9)).cell 3 _ rfl; have g3 := (Bk.alloc (Bk.alloc hT9 (.cells #[.string ⟨#[115, 117, 98, 106, 101, 99, 116]⟩, .string ⟨#[116, 111]⟩, .string ⟨#[99, 99]⟩] 9)) (.cells #[.string (exiN a), .string (mkS (wordL (bs s)))] 9)).frozen 3; have HFB := Lib.hid hb9)); have u3 := hX9.cell 3 _ rfl; have HT9 := Lib.hid hT9; have HR9 := Lib.hid hR9; have HB9 := Lib.hid hB9; clear hT9 hR9 hX9 hB9 hb9))
  focus (go_wp2_with fail)
  have hOld := hHeld
  clear hHeld
  refine hK.out _ _ ?hS_26 (fun hHeld => ?rest_26)
  case hS_26 => ((try dsimp only); go_keep)
  clear hK K hOld
  try simp only [Act.put, List.setIfInBounds_toArray, List.set_cons_zero, List.set_cons_succ]
  refine wpAnyH_take (i := 13) (oi := ?oi_27) (v := ?v_27) ?hi_27 (by kernel_rfl) (by kernel_rfl) (by kernel_rfl) (fun _ _ _ h => h) (Or.inl ⟨?hw_27, ?hy_27⟩) (by assumption) ?rest_27
  case hi_27 => (simp only [List.getElem?_toArray, List.getElem?_cons_zero, List.getElem?_cons_succ]; rfl)
  case hw_27 => rfl
  case hy_27 => (intro w hSw; (try dsimp only at hSw); go_simp; try with_reducible rfl)
  try simp only [Act.put, List.setIfInBounds_toArray, List.set_cons_zero, List.set_cons_succ]
  refine wpAnyH_ready (rs := [9]) (by kernel_rfl) (by simp) (AllReadyH.cons (o := ?o_9_28) ?ho_9_28 (fun K hK => ?_) AllReadyH.nil)
  case ho_9_28 => (simp only [List.getElem?_toArray, List.getElem?_cons_zero, List.getElem?_cons_succ]; rfl)
  clear hHeld
  focus (go_simp)
  refine hK.out _ _ ?hS_29 (fun hHeld => ?rest_29)
  case hS_29 => ((try dsimp only); go_keep)
  clear hK K
  try simp only [Act.put, List.setIfInBounds_toArray, List.set_cons_zero, List.set_cons_succ]
  refine wpAnyH_take (i := 14) (oi := ?oi_30) (v := ?v_30) ?hi_30 (by kernel_rfl) (by kernel_rfl) (by kernel_rfl) (fun _ _ _ h => h) (Or.inl ⟨?hw_30, ?hy_30⟩) (by assumption) ?rest_30
  case hi_30 => (simp only [List.getElem?_toArray, List.getElem?_cons_zero, List.getElem?_cons_succ]; rfl)
  case hw_30 => rfl
  case hy_30 => (intro w hSw; (try dsimp only at hSw); go_simp; try with_reducible rfl)
  try simp only [Act.put, List.setIfInBounds_toArray, List.set_cons_zero, List.set_cons_succ]
  refine wpAnyH_take (i := 15) (oi := ?oi_31) (v := ?v_31) ?hi_31 (by kernel_rfl) (by kernel_rfl) (by kernel_rfl) (fun _ _ _ h => h) (Or.inl ⟨?hw_31, ?hy_31⟩) (by assumption) ?rest_31
  case hi_31 => (simp only [List.getElem?_toArray, List.getElem?_cons_zero, List.getElem?_cons_succ]; rfl)
  case hw_31 => rfl
  case hy_31 => (intro w hSw; (try dsimp only at hSw); go_simp; try with_reducible rfl)
  try simp only [Act.put, List.setIfInBounds_toArray, List.set_cons_zero, List.set_cons_succ]
  refine wpAnyH_ready (rs := [16]) (by kernel_rfl) (by simp) (AllReadyH.cons (o := ?o_16_32) ?ho_16_32 (fun K hK => ?_) AllReadyH.nil)
  case ho_16_32 => (simp only [List.getElem?_toArray, List.getElem?_cons_zero, List.getElem?_cons_succ]; rfl)
  clear hHeld
  focus (go_simp)
  refine hK.out _ _ ?hS_33 (fun hHeld => ?rest_33)
  case hS_33 => ((try dsimp only); go_keep)
  clear hK K
  try simp only [Act.put, List.setIfInBounds_toArray, List.set_cons_zero, List.set_cons_succ]
  refine wpAnyH_done (by kernel_rfl) ?_ _
  refine NoPanic.normal ?_
  rotate_left
  focus (go_simp)
  focus (first
    | (go_at_call 13; (first | (with_reducible refine (PA3 _).mono ?_) | (with_reducible refine (PB2 _).mono ?_)); rintro e w' ⟨rfl, rfl⟩)
    | (go_at_call 30; with_reducible refine (SW _).mono ?_; rintro e w9 ⟨rfl, hb9⟩; (first | (with_reducible have hT9 := HTd.out.later hb9; with_reducible have hR9 := HRd.out.later hb9; with_reducible have hX9 := HXd.out.later hb9; with_reducible have hF9 := HFd.out.later hb9; with_reducible have hB9 := btr HBd.out hb9; have u1 := hX9.cell 1 _ rfl; have u2 := hX9.cell 2 _ rfl; have w1 : w9.cell? ⟨w.heap.size + 3, pickN a 3, none⟩ = some (.string (exiN a)) := cell_getD (l := [[115, 117, 98, 106, 101, 99, 116], [116, 111], [99, 99]]) hF9 (pickN a 3) (by simp only [List.length_cons, List.length_nil]; omega); have v1 := (Bk.alloc hX9 (.cells #[.string (exiN a), .string (mkS (wordL (bs s)))] 9)).cell 1 _ rfl; have v2 := (Bk.alloc hX9 (.cells #[.string (exiN a), .string (mkS (wordL (bs s)))] 9)).cell 2 _ rfl; have v3 := (Bk.alloc hT9 (.cells #[.string (exiN a), .string (mkS (wordL (bs s)))] 9)).cell 3 _ rfl; have g3 := (Bk.alloc hT9 (.cells #[.string (exiN a), .string (mkS (wordL (bs s)))] 9)).frozen 3; clear hF9; have HFA := Lib.hid hb9) | (with_reducible have hT9 := HTe.out.later hb9; with_reducible have hR9 := HRe.out.later hb9; with_reducible have hX9 := HXe.out.later hb9; with_reducible have hB9 := btr HBe.out hb9; have u1 := hX9.cell 1 _ rfl; have u2 := hX9.cell 2 _ rfl; have v1 := (Bk.alloc hX9 (.cells #[.string ⟨#[115, 117, 98, 106, 101, 99, 116]⟩, .string ⟨#[116, 111]⟩, .string ⟨#[99, 99]⟩] 9)).cell 1 _ rfl; have v2 := (Bk.alloc hX9 (.cells #[.string ⟨#[115, 117, 98, 106, 101, 99, 116]⟩, .string ⟨#[116, 111]⟩, .string ⟨#[99, 99]⟩] 9)).cell 2 _ rfl; have t1 := (Bk.alloc (Bk.alloc hX9 (.cells #[.string ⟨#[115, 117, 98, 106, 101, 99, 116]⟩, .string ⟨#[116, 111]⟩, .string ⟨#[99, 99]⟩] 9)) (.cells #[.string (exiN a), .string (mkS (wordL (bs s)))] 9)).cell 1 _ rfl; have t2 := (Bk.alloc (Bk.alloc hX9 (.cells #[.string ⟨#[115, 117, 98, 106, 101, 99, 116]⟩, .string ⟨#[116, 111]⟩, .string ⟨#[99, 99]⟩] 9)) (.cells #[.string (exiN a), .string (mkS (wordL (bs s)))] 9)).cell 2 _ rfl; have v3 := (Bk.alloc (Bk.alloc hT9 (.cells #[.string ⟨#[115, 117, 98, 106, 101, 99, 116]⟩, .string ⟨#[116, 111]⟩, .string ⟨#[99, 99]⟩] 9)) (.cells #[.string (exiN a), .string (mkS (wordL (bs s)))] 9)).cell 3 _ rfl; have g3 := (Bk.alloc (Bk.alloc hT9 (.cells #[.string ⟨#[115, 117, 98, 106, 101, 99, 116]⟩, .string ⟨#[116, 111]⟩, .string ⟨#[99, 99]⟩] 9)) (.cells #[.string (exiN a), .string (mkS (wordL (bs s)))] 9)).frozen 3; have HFB := Lib.hid hb9)); have u3 := hX9.cell 3 _ rfl; have HT9 := Lib.hid hT9; have HR9 := Lib.hid hR9; have HB9 := Lib.hid hB9; clear hT9 hR9 hX9 hB9 hb9))
  focus (go_wp2_with fail)
  have hOld := hHeld
  clear hHeld
  refine hK.out _ _ ?hS_34 (fun hHeld => ?rest_34)
  case hS_34 => ((try dsimp only); go_keep)
  clear hK K hOld
  try simp only [Act.put, List.setIfInBounds_toArray, List.set_cons_zero, List.set_cons_succ]
  refine wpAnyH_ready (rs := [5, 12]) (by kernel_rfl) (by simp) (AllReadyH.cons (o := ?o_5_35) ?ho_5_35 (fun K hK => ?_) (AllReadyH.cons (o := ?o_12_35) ?ho_12_35 (fun K hK => ?_) AllReadyH.nil))
  case ho_5_35 => (simp only [List.getElem?_toArray, List.getElem?_cons_zero, List.getElem?_cons_succ]; rfl)
  case ho_12_35 => (simp only [List.getElem?_toArray, List.getElem?_cons_zero, List.getElem?_cons_succ]; rfl)
  clear hHeld
  focus (go_simp)
  refine hK.out _ _ ?hS_36 (fun hHeld => ?rest_36)
  case hS_36 => ((try dsimp only); go_keep)
  clear hK K
  try simp only [Act.put, List.setIfInBounds_toArray, List.set_cons_zero, List.set_cons_succ]
  refine wpAnyH_ready (rs := [9, 12]) (by kernel_rfl) (by simp) (AllReadyH.cons (o := ?o_9_37) ?ho_9_37 (fun K hK => ?_) (AllReadyH.cons (o := ?o_12_37) ?ho_12_37 (fun K hK => ?_) AllReadyH.nil))
  case ho_9_37 => (simp only [List.getElem?_toArray, List.getElem?_cons_zero, List.getElem?_cons_succ]; rfl)
  case ho_12_37 => (simp only [List.getElem?_toArray, List.getElem?_cons_zero, List.getElem?_cons_succ]; rfl)
  clear hHeld
  focus (go_simp)
  refine hK.out _ _ ?hS_38 (fun hHeld => ?rest_38)
  case hS_38 => ((try dsimp only); go_keep)
  clear hK K
  try simp only [Act.put, List.setIfInBounds_toArray, List.set_cons_zero, List.set_cons_succ]
  refine wpAnyH_ready (rs := [12]) (by kernel_rfl) (by simp) (AllReadyH.cons (o := ?o_12_39) ?ho_12_39 (fun K hK => ?_) AllReadyH.nil)
  case ho_12_39 => (simp only [List.getElem?_toArray, List.getElem?_cons_zero, List.getElem?_cons_succ]; rfl)
  focus (go_simp)
  focus (first
    | (go_at_call 13; (first | (with_reducible refine (PA3 _).mono ?_) | (with_reducible refine (PB2 _).mono ?_)); rintro e w' ⟨rfl, rfl⟩)
    | (go_at_call 30; with_reducible refine (SW _).mono ?_; rintro e w9 ⟨rfl, hb9⟩; (first | (with_reducible have hT9 := HTd.out.later hb9; with_reducible have hR9 := HRd.out.later hb9; with_reducible have hX9 := HXd.out.later hb9; with_reducible have hF9 := HFd.out.later hb9; with_reducible have hB9 := btr HBd.out hb9; have u1 := hX9.cell 1 _ rfl; have u2 := hX9.cell 2 _ rfl; have w1 : w9.cell? ⟨w.heap.size + 3, pickN a 3, none⟩ = some (.string (exiN a)) := cell_getD (l := [[115, 117, 98, 106, 101, 99, 116], [116, 111], [99, 99]]) hF9 (pickN a 3) (by simp only [List.length_cons, List.length_nil]; omega); have v1 := (Bk.alloc hX9 (.cells #[.string (exiN a), .string (mkS (wordL (bs s)))] 9)).cell 1 _ rfl; have v2 := (Bk.alloc hX9 (.cells #[.string (exiN a), .string (mkS (wordL (bs s)))] 9)).cell 2 _ rfl; have v3 := (Bk.alloc hT9 (.cells #[.string (exiN a), .string (mkS (wordL (bs s)))] 9)).cell 3 _ rfl; have g3 := (Bk.alloc hT9 (.cells #[.string (exiN a), .string (mkS (wordL (bs s)))] 9)).frozen 3; clear hF9; have HFA := Lib.hid hb9) | (with_reducible have hT9 := HTe.out.later hb9; with_reducible have hR9 := HRe.out.later hb9; with_reducible have hX9 := HXe.out.later hb9; with_reducible have hB9 := btr HBe.out hb9; have u1 := hX9.cell 1 _ rfl; have u2 := hX9.cell 2 _ rfl; have v1 := (Bk.alloc hX9 (.cells #[.string ⟨#[115, 117, 98, 106, 101, 99, 116]⟩, .string ⟨#[116, 111]⟩, .string ⟨#[99, 99]⟩] 9)).cell 1 _ rfl; have v2 := (Bk.alloc hX9 (.cells #[.string ⟨#[115, 117, 98, 106, 101, 99, 116]⟩, .string ⟨#[116, 111]⟩, .string ⟨#[99, 99]⟩] 9)).cell 2 _ rfl; have t1 := (Bk.alloc (Bk.alloc hX9 (.cells #[.string ⟨#[115, 117, 98, 106, 101, 99, 116]⟩, .string ⟨#[116, 111]⟩, .string ⟨#[99, 99]⟩] 9)) (.cells #[.string (exiN a), .string (mkS (wordL (bs s)))] 9)).cell 1 _ rfl; have t2 := (Bk.alloc (Bk.alloc hX9 (.cells #[.string ⟨#[115, 117, 98, 106, 101, 99, 116]⟩, .string ⟨#[116, 111]⟩, .string ⟨#[99, 99]⟩] 9)) (.cells #[.string (exiN a), .string (mkS (wordL (bs s)))] 9)).cell 2 _ rfl; have v3 := (Bk.alloc (Bk.alloc hT9 (.cells #[.string ⟨#[115, 117, 98, 106, 101, 99, 116]⟩, .string ⟨#[116, 111]⟩, .string ⟨#[99, 99]⟩] 9)) (.cells #[.string (exiN a), .string (mkS (wordL (bs s)))] 9)).cell 3 _ rfl; have g3 := (Bk.alloc (Bk.alloc hT9 (.cells #[.string ⟨#[115, 117, 98, 106, 101, 99, 116]⟩, .string ⟨#[116, 111]⟩, .string ⟨#[99, 99]⟩] 9)) (.cells #[.string (exiN a), .string (mkS (wordL (bs s)))] 9)).frozen 3; have HFB := Lib.hid hb9)); have u3 := hX9.cell 3 _ rfl; have HT9 := Lib.hid hT9; have HR9 := Lib.hid hR9; have HB9 := Lib.hid hB9; clear hT9 hR9 hX9 hB9 hb9))
  focus (go_wp2_with fail)
  have hOld := hHeld
  clear hHeld
  refine hK.out _ _ ?hS_40 (fun hHeld => ?rest_40)
  case hS_40 => ((try dsimp only); go_keep)
  clear hK K hOld
  try simp only [Act.put, List.setIfInBounds_toArray, List.set_cons_zero, List.set_cons_succ]
  refine wpAnyH_take (i := 13) (oi := ?oi_41) (v := ?v_41) ?hi_41 (by kernel_rfl) (by kernel_rfl) (by kernel_rfl) (fun _ _ _ h => h) (Or.inl ⟨?hw_41, ?hy_41⟩) (by assumption) ?rest_41
  case hi_41 => (simp only [List.getElem?_toArray, List.getElem?_cons_zero, List.getElem?_cons_succ]; rfl)
  case hw_41 => rfl
  case hy_41 => (intro w hSw; (try dsimp only at hSw); go_simp; try with_reducible rfl)
  try simp only [Act.put, List.setIfInBounds_toArray, List.set_cons_zero, List.set_cons_succ]
  refine wpAnyH_take (i := 14) (oi := ?oi_42) (v := ?v_42) ?hi_42 (by kernel_rfl) (by kernel_rfl) (by kernel_rfl) (fun _ _ _ h => h) (Or.inl ⟨?hw_42, ?hy_42⟩) (by assumption) ?rest_42
  case hi_42 => (simp only [List.getElem?_toArray, List.getElem?_cons_zero, List.getElem?_cons_succ]; rfl)
  case hw_42 => rfl
  case hy_42 => (intro w hSw; (try dsimp only at hSw); go_simp; try with_reducible rfl)
  try simp only [Act.put, List.setIfInBounds_toArray, List.set_cons_zero, List.set_cons_succ]
  refine wpAnyH_take (i := 15) (oi := ?oi_43) (v := ?v_43) ?hi_43 (by kernel_rfl) (by kernel_rfl) (by kernel_rfl) (fun _ _ _ h => h) (Or.inl ⟨?hw_43, ?hy_43⟩) (by assumption) ?rest_43
  case hi_43 => (simp only [List.getElem?_toArray, List.getElem?_cons_zero, List.getElem?_cons_succ]; rfl)
  case hw_43 => rfl
  case hy_43 => (intro w hSw; (try dsimp only at hSw); go_simp; try with_reducible rfl)
  try simp only [Act.put, List.setIfInBounds_toArray, List.set_cons_zero, List.set_cons_succ]
  refine wpAnyH_ready (rs := [16]) (by kernel_rfl) (by simp) (AllReadyH.cons (o := ?o_16_44) ?ho_16_44 (fun K hK => ?_) AllReadyH.nil)
  case ho_16_44 => (simp only [List.getElem?_toArray, List.getElem?_cons_zero, List.getElem?_cons_succ]; rfl)
  clear hHeld
  focus (go_simp)
  refine hK.out _ _ ?hS_45 (fun hHeld => ?rest_45)
  case hS_45 => ((try dsimp only); go_keep)
  clear hK K
  try simp only [Act.put, List.setIfInBounds_toArray, List.set_cons_zero, List.set_cons_succ]
  refine wpAnyH_done (by kernel_rfl) ?_ _
  refine NoPanic.normal ?_
  rotate_left
  focus (go_simp)
  focus (first
    | (go_at_call 13; (first | (with_reducible refine (PA3 _).mono ?_) | (with_reducible refine (PB2 _).mono ?_)); rintro e w' ⟨rfl, rfl⟩)
    | (go_at_call 30; with_reducible refine (SW _).mono ?_; rintro e w9 ⟨rfl, hb9⟩; (first | (with_reducible have hT9 := HTd.out.later hb9; with_reducible have hR9 := HRd.out.later hb9; with_reducible have hX9 := HXd.out.later hb9; with_reducible have hF9 := HFd.out.later hb9; with_reducible have hB9 := btr HBd.out hb9; have u1 := hX9.cell 1 _ rfl; have u2 := hX9.cell 2 _ rfl; have w1 : w9.cell? ⟨w.heap.size + 3, pickN a 3, none⟩ = some (.string (exiN a)) := cell_getD (l := [[115, 117, 98, 106, 101, 99, 116], [116, 111], [99, 99]]) hF9 (pickN a 3) (by simp only [List.length_cons, List.length_nil]; omega); have v1 := (Bk.alloc hX9 (.cells #[.string (exiN a), .string (mkS (wordL (bs s)))] 9)).cell 1 _ rfl; have v2 := (Bk.alloc hX9 (.cells #[.string (exiN a), .string (mkS (wordL (bs s)))] 9)).cell 2 _ rfl; have v3 := (Bk.alloc hT9 (.cells #[.string (exiN a), .string (mkS (wordL (bs s)))] 9)).cell 3 _ rfl; have g3 := (Bk.alloc hT9 (.cells #[.string (exiN a), .string (mkS (wordL (bs s)))] 9)).frozen 3; clear hF9; have HFA := Lib.hid hb9) | (with_reducible have hT9 := HTe.out.later hb9; with_reducible have hR9 := HRe.out.later hb9; with_reducible have hX9 := HXe.out.later hb9; with_reducible have hB9 := btr HBe.out hb9; have u1 := hX9.cell 1 _ rfl; have u2 := hX9.cell 2 _ rfl; have v1 := (Bk.alloc hX9 (.cells #[.string ⟨#[115, 117, 98, 106, 101, 99, 116]⟩, .string ⟨#[116, 111]⟩, .string ⟨#[99, 99]⟩] 9)).cell 1 _ rfl; have v2 := (Bk.alloc hX9 (.cells #[.string ⟨#[115, 117, 98, 106, 101, 99, 116]⟩, .string ⟨#[116, 111]⟩, .string ⟨#[99, 99]⟩] 9)).cell 2 _ rfl; have t1 := (Bk.alloc (Bk.alloc hX9 (.cells #[.string ⟨#[115, 117, 98, 106, 101, 99, 116]⟩, .string ⟨#[116, 111]⟩, .string ⟨#[99, 99]⟩] 9)) (.cells #[.string (exiN a), .string (mkS (wordL (bs s)))] 9)).cell 1 _ rfl; have t2 := (Bk.alloc (Bk.alloc hX9 (.cells #[.string ⟨#[115, 117, 98, 106, 101, 99, 116]⟩, .string ⟨#[116, 111]⟩, .string ⟨#[99, 99]⟩] 9)) (.cells #[.string (exiN a), .string (mkS (wordL (bs s)))] 9)).cell 2 _ rfl; have v3 := (Bk.alloc (Bk.alloc hT9 (.cells #[.string ⟨#[115, 117, 98, 106, 101, 99, 116]⟩, .string ⟨#[116, 111]⟩, .string ⟨#[99, 99]⟩] 9)) (.cells #[.string (exiN a), .string (mkS (wordL (bs s)))] 9)).cell 3 _ rfl; have g3 := (Bk.alloc (Bk.alloc hT9 (.cells #[.string ⟨#[115, 117, 98, 106, 101, 99, 116]⟩, .string ⟨#[116, 111]⟩, .string ⟨#[99, 99]⟩] 9)) (.cells #[.string (exiN a), .string (mkS (wordL (bs s)))] 9)).frozen 3; have HFB := Lib.hid hb9)); have u3 := hX9.cell 3 _ rfl; have HT9 := Lib.hid hT9; have HR9 := Lib.hid hR9; have HB9 := Lib.hid hB9; clear hT9 hR9 hX9 hB9 hb9))
  focus (go_wp2_with fail)
  have hOld := hHeld
  clear hHeld
  refine hK.out _ _ ?hS_46 (fun hHeld => ?rest_46)
  case hS_46 => ((try dsimp only); go_keep)
  clear hK K hOld
  try simp only [Act.put, List.setIfInBounds_toArray, List.set_cons_zero, List.set_cons_succ]
  refine wpAnyH_take (i := 13) (oi := ?oi_47) (v := ?v_47) ?hi_47 (by kernel_rfl) (by kernel_rfl) (by kernel_rfl) (fun _ _ _ h => h) (Or.inl ⟨?hw_47, ?hy_47⟩) (by assumption) ?rest_47
  case hi_47 => (simp only [List.getElem?_toArray, List.getElem?_cons_zero, List.getElem?_cons_succ]; rfl)
  case hw_47 => rfl
  case hy_47 => (intro w hSw; (try dsimp only at hSw); go_simp; try with_reducible rfl)
  try simp only [Act.put, List.setIfInBounds_toArray, List.set_cons_zero, List.set_cons_succ]
  refine wpAnyH_ready (rs := [9]) (by kernel_rfl) (by simp) (AllReadyH.cons (o := ?o_9_48) ?ho_9_48 (fun K hK => ?_) AllReadyH.nil)
  case ho_9_48 => (simp only [List.getElem?_toArray, List.getElem?_cons_zero, List.getElem?_cons_succ]; rfl)
  clear hHeld
  focus (go_simp)
  refine hK.out _ _ ?hS_49 (fun hHeld => ?rest_49)
  case hS_49 => ((try dsimp only); go_keep)
  clear hK K
  try simp only [Act.put, List.setIfInBounds_toArray, List.set_cons_zero, List.set_cons_succ]
  refine wpAnyH_take (i := 14) (oi := ?oi_50) (v := ?v_50) ?hi_50 (by kernel_rfl) (by kernel_rfl) (by kernel_rfl) (fun _ _ _ h => h) (Or.inl ⟨?hw_50, ?hy_50⟩) (by assumption) ?rest_50
  case hi_50 => (simp only [List.getElem?_toArray, List.getElem?_cons_zero, List.getElem?_cons_succ]; rfl)
  case hw_50 => rfl
  case hy_50 => (intro w hSw; (try dsimp only at hSw); go_simp; try with_reducible rfl)
  try simp only [Act.put, List.setIfInBounds_toArray, List.set_cons_zero, List.set_cons_succ]
  refine wpAnyH_take (i := 15) (oi := ?oi_51) (v := ?v_51) ?hi_51 (by kernel_rfl) (by kernel_rfl) (by kernel_rfl) (fun _ _ _ h => h) (Or.inl ⟨?hw_51, ?hy_51⟩) (by assumption) ?rest_51
  case hi_51 => (simp only [List.getElem?_toArray, List.getElem?_cons_zero, List.getElem?_cons_succ]; rfl)
  case hw_51 => rfl
  case hy_51 => (intro w hSw; (try dsimp only at hSw); go_simp; try with_reducible rfl)
  try simp only [Act.put, List.setIfInBounds_toArray, List.set_cons_zero, List.set_cons_succ]
  refine wpAnyH_ready (rs := [16]) (by kernel_rfl) (by simp) (AllReadyH.cons (o := ?o_16_52) ?ho_16_52 (fun K hK => ?_) AllReadyH.nil)
  case ho_16_52 => (simp only [List.getElem?_toArray, List.getElem?_cons_zero, List.getElem?_cons_succ]; rfl)
  clear hHeld
  focus (go_simp)
  refine hK.out _ _ ?hS_53 (fun hHeld => ?rest_53)
  case hS_53 => ((try dsimp only); go_keep)
  clear hK K
  try simp only [Act.put, List.setIfInBounds_toArray, List.set_cons_zero, List.set_cons_succ]
  refine wpAnyH_done (by kernel_rfl) ?_ _
  refine NoPanic.normal ?_
  rotate_left
  focus (go_simp)
  focus (first
    | (go_at_call 13; (first | (with_reducible refine (PA3 _).mono ?_) | (with_reducible refine (PB2 _).mono ?_)); rintro e w' ⟨rfl, rfl⟩)
    | (go_at_call 30; with_reducible refine (SW _).mono ?_; rintro e w9 ⟨rfl, hb9⟩; (first | (with_reducible have hT9 := HTd.out.later hb9; with_reducible have hR9 := HRd.out.later hb9; with_reducible have hX9 := HXd.out.later hb9; with_reducible have hF9 := HFd.out.later hb9; with_reducible have hB9 := btr HBd.out hb9; have u1 := hX9.cell 1 _ rfl; have u2 := hX9.cell 2 _ rfl; have w1 : w9.cell? ⟨w.heap.size + 3, pickN a 3, none⟩ = some (.string (exiN a)) := cell_getD (l := [[115, 117, 98, 106, 101, 99, 116], [116, 111], [99, 99]]) hF9 (pickN a 3) (by simp only [List.length_cons, List.length_nil]; omega); have v1 := (Bk.alloc hX9 (.cells #[.string (exiN a), .string (mkS (wordL (bs s)))] 9)).cell 1 _ rfl; have v2 := (Bk.alloc hX9 (.cells #[.string (exiN a), .string (mkS (wordL (bs s)))] 9)).cell 2 _ rfl; have v3 := (Bk.alloc hT9 (.cells #[.string (exiN a), .string (mkS (wordL (bs s)))] 9)).cell 3 _ rfl; have g3 := (Bk.alloc hT9 (.cells #[.string (exiN a), .string (mkS (wordL (bs s)))] 9)).frozen 3; clear hF9; have HFA := Lib.hid hb9) | (with_reducible have hT9 := HTe.out.later hb9; with_reducible have hR9 := HRe.out.later hb9; with_reducible have hX9 := HXe.out.later hb9; with_reducible have hB9 := btr HBe.out hb9; have u1 := hX9.cell 1 _ rfl; have u2 := hX9.cell 2 _ rfl; have v1 := (Bk.alloc hX9 (.cells #[.string ⟨#[115, 117, 98, 106, 101, 99, 116]⟩, .string ⟨#[116, 111]⟩, .string ⟨#[99, 99]⟩] 9)).cell 1 _ rfl; have v2 := (Bk.alloc hX9 (.cells #[.string ⟨#[115, 117, 98, 106, 101, 99, 116]⟩, .string ⟨#[116, 111]⟩, .string ⟨#[99, 99]⟩] 9)).cell 2 _ rfl; have t1 := (Bk.alloc (Bk.alloc hX9 (.cells #[.string ⟨#[115, 117, 98, 106, 101, 99, 116]⟩, .string ⟨#[116, 111]⟩, .string ⟨#[99, 99]⟩] 9)) (.cells #[.string (exiN a), .string (mkS (wordL (bs s)))] 9)).cell 1 _ rfl; have t2 := (Bk.alloc (Bk.alloc hX9 (.cells #[.string ⟨#[115, 117, 98, 106, 101, 99, 116]⟩, .string ⟨#[116, 111]⟩, .string ⟨#[99, 99]⟩] 9)) (.cells #[.string (exiN a), .string (mkS (wordL (bs s)))] 9)).cell 2 _ rfl; have v3 := (Bk.alloc (Bk.alloc hT9 (.cells #[.string ⟨#[115, 117, 98, 106, 101, 99, 116]⟩, .string ⟨#[116, 111]⟩, .string ⟨#[99, 99]⟩] 9)) (.cells #[.string (exiN a), .string (mkS (wordL (bs s)))] 9)).cell 3 _ rfl; have g3 := (Bk.alloc (Bk.alloc hT9 (.cells #[.string ⟨#[115, 117, 98, 106, 101, 99, 116]⟩, .string ⟨#[116, 111]⟩, .string ⟨#[99, 99]⟩] 9)) (.cells #[.string (exiN a), .string (mkS (wordL (bs s)))] 9)).frozen 3; have HFB := Lib.hid hb9)); have u3 := hX9.cell 3 _ rfl; have HT9 := Lib.hid hT9; have HR9 := Lib.hid hR9; have HB9 := Lib.hid hB9; clear hT9 hR9 hX9 hB9 hb9))
  focus (go_wp2_with fail)
  have hOld := hHeld
  clear hHeld
  refine hK.out _ _ ?hS_54 (fun hHeld => ?rest_54)
  case hS_54 => ((try dsimp only); go_keep)
  clear hK K hOld
  try simp only [Act.put, List.setIfInBounds_toArray, List.set_cons_zero, List.set_cons_succ]
  refine wpAnyH_take (i := 13) (oi := ?oi_55) (v := ?v_55) ?hi_55 (by kernel_rfl) (by kernel_rfl) (by kernel_rfl) (fun _ _ _ h => h) (Or.inl ⟨?hw_55, ?hy_55⟩) (by assumption) ?rest_55
  case hi_55 => (simp only [List.getElem?_toArray, List.getElem?_cons_zero, List.getElem?_cons_succ]; rfl)
  case hw_55 => rfl
  case hy_55 => (intro w hSw; (try dsimp only at hSw); go_simp; try with_reducible rfl)
  try simp only [Act.put, List.setIfInBounds_toArray, List.set_cons_zero, List.set_cons_succ]
  refine wpAnyH_ready (rs := [5]) (by kernel_rfl) (by simp) (AllReadyH.cons (o := ?o_5_56) ?ho_5_56 (fun K hK => ?_) AllReadyH.nil)
  case ho_5_56 => (simp only [List.getElem?_toArray, List.getElem?_cons_zero, List.getElem?_cons_succ]; rfl)
  clear hHeld
  focus (go_simp)
  refine hK.out _ _ ?hS_57 (fun hHeld => ?rest_57)
  case hS_57 => ((try dsimp only); go_keep)
  clear hK K
  try simp only [Act.put, List.setIfInBounds_toArray, List.set_cons_zero, List.set_cons_succ]
  refine wpAnyH_ready (rs := [9]) (by kernel_rfl) (by simp) (AllReadyH.cons (o := ?o_9_58) ?ho_9_58 (fun K hK => ?_) AllReadyH.nil)
  case ho_9_58 => (simp only [List.getElem?_toArray, List.getElem?_cons_zero, List.getElem?_cons_succ]; rfl)
  clear hHeld
  focus (go_simp)
  refine hK.out _ _ ?hS_59 (fun hHeld => ?rest_59)
  case hS_59 => ((try dsimp only); go_keep)
  clear hK K
  try simp only [Act.put, List.setIfInBounds_toArray, List.set_cons_zero, List.set_cons_succ]
  refine wpAnyH_take (i := 14) (oi := ?oi_60) (v := ?v_60) ?hi_60 (by kernel_rfl) (by kernel_rfl) (by kernel_rfl) (fun _ _ _ h => h) (Or.inl ⟨?hw_60, ?hy_60⟩) (by assumption) ?rest_60
  case hi_60 => (simp only [List.getElem?_toArray, List.getElem?_cons_zero, List.getElem?_cons_succ]; rfl)
  case hw_60 => rfl
  case hy_60 => (intro w hSw; (try dsimp only at hSw); go_simp; try with_reducible rfl)
  try simp only [Act.put, List.setIfInBounds_toArray, List.set_cons_zero, List.set_cons_succ]
  refine wpAnyH_take (i := 15) (oi := ?oi_61) (v := ?v_61) ?hi_61 (by kernel_rfl) (by kernel_rfl) (by kernel_rfl) (fun _ _ _ h => h) (Or.inl ⟨?hw_61, ?hy_61⟩) (by assumption) ?rest_61
  case hi_61 => (simp only [List.getElem?_toArray, List.getElem?_cons_zero, List.getElem?_cons_succ]; rfl)
  case hw_61 => rfl
  case hy_61 => (intro w hSw; (try dsimp only at hSw); go_simp; try with_reducible rfl)
  try simp only [Act.put, List.setIfInBounds_toArray, List.set_cons_zero, List.set_cons_succ]
  refine wpAnyH_ready (rs := [16]) (by kernel_rfl) (by simp) (AllReadyH.cons (o := ?o_16_62) ?ho_16_62 (fun K hK => ?_) AllReadyH.nil)
  case ho_16_62 => (simp only [List.getElem?_toArray, List.getElem?_cons_zero, List.getElem?_cons_succ]; rfl)
  clear hHeld
  focus (go_simp)
  refine hK.out _ _ ?hS_63 (fun hHeld => ?rest_63)
  case hS_63 => ((try dsimp only); go_keep)
  clear hK K
  try simp only [Act.put, List.setIfInBounds_toArray, List.set_cons_zero, List.set_cons_succ]
  refine wpAnyH_done (by kernel_rfl) ?_ _
  refine NoPanic.normal ?_
  rotate_left
  focus (go_simp)
  focus (first
    | (go_at_call 13; (first | (with_reducible refine (PA3 _).mono ?_) | (with_reducible refine (PB2 _).mono ?_)); rintro e w' ⟨rfl, rfl⟩)
    | (go_at_call 30; with_reducible refine (SW _).mono ?_; rintro e w9 ⟨rfl, hb9⟩; (first | (with_reducible have hT9 := HTd.out.later hb9; with_reducible have hR9 := HRd.out.later hb9; with_reducible have hX9 := HXd.out.later hb9; with_reducible have hF9 := HFd.out.later hb9; with_reducible have hB9 := btr HBd.out hb9; have u1 := hX9.cell 1 _ rfl; have u2 := hX9.cell 2 _ rfl; have w1 : w9.cell? ⟨w.heap.size + 3, pickN a 3, none⟩ = some (.string (exiN a)) := cell_getD (l := [[115, 117, 98, 106, 101, 99, 116], [116, 111], [99, 99]]) hF9 (pickN a 3) (by simp only [List.length_cons, List.length_nil]; omega); have v1 := (Bk.alloc hX9 (.cells #[.string (exiN a), .string (mkS (wordL (bs s)))] 9)).cell 1 _ rfl; have v2 := (Bk.alloc hX9 (.cells #[.string (exiN a), .string (mkS (wordL (bs s)))] 9)).cell 2 _ rfl; have v3 := (Bk.alloc hT9 (.cells #[.string (exiN a), .string (mkS (wordL (bs s)))] 9)).cell 3 _ rfl; have g3 := (Bk.alloc hT9 (.cells #[.string (exiN a), .string (mkS (wordL (bs s)))] 9)).frozen 3; clear hF9; have HFA := Lib.hid hb9) | (with_reducible have hT9 := HTe.out.later hb9; with_reducible have hR9 := HRe.out.later hb9; with_reducible have hX9 := HXe.out.later hb9; with_reducible have hB9 := btr HBe.out hb9; have u1 := hX9.cell 1 _ rfl; have u2 := hX9.cell 2 _ rfl; have v1 := (Bk.alloc hX9 (.cells #[.string ⟨#[115, 117, 98, 106, 101, 99, 116]⟩, .string ⟨#[116, 111]⟩, .string ⟨#[99, 99]⟩] 9)).cell 1 _ rfl; have v2 := (Bk.alloc hX9 (.cells #[.string ⟨#[115, 117, 98, 106, 101, 99, 116]⟩, .string ⟨#[116, 111]⟩, .string ⟨#[99, 99]⟩] 9)).cell 2 _ rfl; have t1 := (Bk.alloc (Bk.alloc hX9 (.cells #[.string ⟨#[115, 117, 98, 106, 101, 99, 116]⟩, .string ⟨#[116, 111]⟩, .string ⟨#[99, 99]⟩] 9)) (.cells #[.string (exiN a), .string (mkS (wordL (bs s)))] 9)).cell 1 _ rfl; have t2 := (Bk.alloc (Bk.alloc hX9 (.cells #[.string ⟨#[115, 117, 98, 106, 101, 99, 116]⟩, .string ⟨#[116, 111]⟩, .string ⟨#[99, 99]⟩] 9)) (.cells #[.string (exiN a), .string (mkS (wordL (bs s)))] 9)).cell 2 _ rfl; have v3 := (Bk.alloc (Bk.alloc hT9 (.cells #[.string ⟨#[115, 117, 98, 106, 101, 99, 116]⟩, .string ⟨#[116, 111]⟩, .string ⟨#[99, 99]⟩] 9)) (.cells #[.string (exiN a), .string (mkS (wordL (bs s)))] 9)).cell 3 _ rfl; have g3 := (Bk.alloc (Bk.alloc hT9 (.cells #[.string ⟨#[115, 117, 98, 106, 101, 99, 116]⟩, .string ⟨#[116, 111]⟩, .string ⟨#[99, 99]⟩] 9)) (.cells #[.string (exiN a), .string (mkS (wordL (bs s)))] 9)).frozen 3; have HFB := Lib.hid hb9)); have u3 := hX9.cell 3 _ rfl; have HT9 := Lib.hid hT9; have HR9 := Lib.hid hR9; have HB9 := Lib.hid hB9; clear hT9 hR9 hX9 hB9 hb9))
  focus (go_wp2_with fail)
  have hOld := hHeld
  clear hHeld
  refine hK.out _ _ ?hS_64 (fun hHeld => ?rest_64)
  case hS_64 => ((try dsimp only); go_keep)
  clear hK K hOld
  try simp only [Act.put, List.setIfInBounds_toArray, List.set_cons_zero, List.set_cons_succ]
  refine wpAnyH_ready (rs := [0, 8]) (by kernel_rfl) (by simp) (AllReadyH.cons (o := ?o_0_65) ?ho_0_65 (fun K hK => ?_) (AllReadyH.cons (o := ?o_8_65) ?ho_8_65 (fun K hK => ?_) AllReadyH.nil))
  case ho_0_65 => (simp only [List.getElem?_toArray, List.getElem?_cons_zero, List.getElem?_cons_succ]; rfl)
  case ho_8_65 => (simp only [List.getElem?_toArray, List.getElem?_cons_zero, List.getElem?_cons_succ]; rfl)
  clear hHeld
  focus (go_simp)
  refine hK.out _ _ ?hS_66 (fun hHeld => ?rest_66)
  case hS_66 => ((try dsimp only); go_keep)
  clear hK K
  try simp only [Act.put, List.setIfInBounds_toArray, List.set_cons_zero, List.set_cons_succ]
  refine wpAnyH_take (i := 4) (oi := ?oi_67) (v := ?v_67) ?hi_67 (by kernel_rfl) (by kernel_rfl) (by kernel_rfl) (fun _ _ _ h => h) (Or.inl ⟨?hw_67, ?hy_67⟩) (by assumption) ?rest_67
  case hi_67 => (simp only [List.getElem?_toArray, List.getElem?_cons_zero, List.getElem?_cons_succ]; rfl)
  case hw_67 => rfl
  case hy_67 => (intro w hSw; (try dsimp only at hSw); go_simp; try with_reducible rfl)
  try simp only [Act.put, List.setIfInBounds_toArray, List.set_cons_zero, List.set_cons_succ]
  refine wpAnyH_ready (rs := [5, 8]) (by kernel_rfl) (by simp) (AllReadyH.cons (o := ?o_5_68) ?ho_5_68 (fun K hK => ?_) (AllReadyH.cons (o := ?o_8_68) ?ho_8_68 (fun K hK => ?_) AllReadyH.nil))
  case ho_5_68 => (simp only [List.getElem?_toArray, List.getElem?_cons_zero, List.getElem?_cons_succ]; rfl)
  case ho_8_68 => (simp only [List.getElem?_toArray, List.getElem?_cons_zero, List.getElem?_cons_succ]; rfl)
  clear hHeld
  focus (go_simp)
  refine hK.out _ _ ?hS_69 (fun hHeld => ?rest_69)
  case hS_69 => ((try dsimp only); go_keep)
  clear hK K
  try simp only [Act.put, List.setIfInBounds_toArray, List.set_cons_zero, List.set_cons_succ]
  refine wpAnyH_ready (rs := [8]) (by kernel_rfl) (by simp) (AllReadyH.cons (o := ?o_8_70) ?ho_8_70 (fun K hK => ?_) AllReadyH.nil)
  case ho_8_70 => (simp only [List.getElem?_toArray, List.getElem?_cons_zero, List.getElem?_cons_succ]; rfl)
  focus (go_simp)
  focus (first
    | (go_at_call 13; (first | (with_reducible refine (PA3 _).mono ?_) | (with_reducible refine (PB2 _).mono ?_)); rintro e w' ⟨rfl, rfl⟩)
    | (go_at_call 30; with_reducible refine (SW _).mono ?_; rintro e w9 ⟨rfl, hb9⟩; (first | (with_reducible have hT9 := HTd.out.later hb9; with_reducible have hR9 := HRd.out.later hb9; with_reducible have hX9 := HXd.out.later hb9; with_reducible have hF9 := HFd.out.later hb9; with_reducible have hB9 := btr HBd.out hb9; have u1 := hX9.cell 1 _ rfl; have u2 := hX9.cell 2 _ rfl; have w1 : w9.cell? ⟨w.heap.size + 3, pickN a 3, none⟩ = some (.string (exiN a)) := cell_getD (l := [[115, 117, 98, 106, 101, 99, 116], [116, 111], [99, 99]]) hF9 (pickN a 3) (by simp only [List.length_cons, List.length_nil]; omega); have v1 := (Bk.alloc hX9 (.cells #[.string (exiN a), .string (mkS (wordL (bs s)))] 9)).cell 1 _ rfl; have v2 := (Bk.alloc hX9 (.cells #[.string (exiN a), .string (mkS (wordL (bs s)))] 9)).cell 2 _ rfl; have v3 := (Bk.alloc hT9 (.cells #[.string (exiN a), .string (mkS (wordL (bs s)))] 9)).cell 3 _ rfl; have g3 := (Bk.alloc hT9 (.cells #[.string (exiN a), .string (mkS (wordL (bs s)))] 9)).frozen 3; clear hF9; have HFA := Lib.hid hb9) | (with_reducible have hT9 := HTe.out.later hb9; with_reducible have hR9 := HRe.out.later hb9; with_reducible have hX9 := HXe.out.later hb9; with_reducible have hB9 := btr HBe.out hb9; have u1 := hX9.cell 1 _ rfl; have u2 := hX9.cell 2 _ rfl; have v1 := (Bk.alloc hX9 (.cells #[.string ⟨#[115, 117, 98, 106, 101, 99, 116]⟩, .string ⟨#[116, 111]⟩, .string ⟨#[99, 99]⟩] 9)).cell 1 _ rfl; have v2 := (Bk.alloc hX9 (.cells #[.string ⟨#[115, 117, 98, 106, 101, 99, 116]⟩, .string ⟨#[116, 111]⟩, .string ⟨#[99, 99]⟩] 9)).cell 2 _ rfl; have t1 := (Bk.alloc (Bk.alloc hX9 (.cells #[.string ⟨#[115, 117, 98, 106, 101, 99, 116]⟩, .string ⟨#[116, 111]⟩, .string ⟨#[99, 99]⟩] 9)) (.cells #[.string (exiN a), .string (mkS (wordL (bs s)))] 9)).cell 1 _ rfl; have t2 := (Bk.alloc (Bk.alloc hX9 (.cells #[.string ⟨#[115, 117, 98, 106, 101, 99, 116]⟩, .string ⟨#[116, 111]⟩, .string ⟨#[99, 99]⟩] 9)) (.cells #[.string (exiN a), .string (mkS (wordL (bs s)))] 9)).cell 2 _ rfl; have v3 := (Bk.alloc (Bk.alloc hT9 (.cells #[.string ⟨#[115, 117, 98, 106, 101, 99, 116]⟩, .string ⟨#[116, 111]⟩, .string ⟨#[99, 99]⟩] 9)) (.cells #[.string (exiN a), .string (mkS (wordL (bs s)))] 9)).cell 3 _ rfl; have g3 := (Bk.alloc (Bk.alloc hT9 (.cells #[.string ⟨#[115, 117, 98, 106, 101, 99, 116]⟩, .string ⟨#[116, 111]⟩, .string ⟨#[99, 99]⟩] 9)) (.cells #[.string (exiN a), .string (mkS (wordL (bs s)))] 9)).frozen 3; have HFB := Lib.hid hb9)); have u3 := hX9.cell 3 _ rfl; have HT9 := Lib.hid hT9; have HR9 := Lib.hid hR9; have HB9 := Lib.hid hB9; clear hT9 hR9 hX9 hB9 hb9))
  focus (go_wp2_with fail)
  have hOld := hHeld
  clear hHeld
  refine hK.out _ _ ?hS_71 (fun hHeld => ?rest_71)
  case hS_71 => ((try dsimp only); go_keep)
  clear hK K hOld
  try simp only [Act.put, List.setIfInBounds_toArray, List.set_cons_zero, List.set_cons_succ]
  refine wpAnyH_ready (rs := [9, 12]) (by kernel_rfl) (by simp) (AllReadyH.cons (o := ?o_9_72) ?ho_9_72 (fun K hK => ?_) (AllReadyH.cons (o := ?o_12_72) ?ho_12_72 (fun K hK => ?_) AllReadyH.nil))
  case ho_9_72 => (simp only [List.getElem?_toArray, List.getElem?_cons_zero, List.getElem?_cons_succ]; rfl)
  case ho_12_72 => (simp only [List.getElem?_toArray, List.getElem?_cons_zero, List.getElem?_cons_succ]; rfl)
  clear hHeld
  focus (go_simp)
  refine hK.out _ _ ?hS_73 (fun hHeld => ?rest_73)
  case hS_73 => ((try dsimp only); go_keep)
  clear hK K
  try simp only [Act.put, List.setIfInBounds_toArray, List.set_cons_zero, List.set_cons_succ]
  refine wpAnyH_ready (rs := [12]) (by kernel_rfl) (by simp) (AllReadyH.cons (o := ?o_12_74) ?ho_12_74 (fun K hK => ?_) AllReadyH.nil)
  case ho_12_74 => (simp only [List.getElem?_toArray, List.getElem?_cons_zero, List.getElem?_cons_succ]; rfl)
  focus (go_simp)
  focus (first
    | (go_at_call 13; (first | (with_reducible refine (PA3 _).mono ?_) | (with_reducible refine (PB2 _).mono ?_)); rintro e w' ⟨rfl, rfl⟩)
    | (go_at_call 30; with_reducible refine (SW _).mono ?_; rintro e w9 ⟨rfl, hb9⟩; (first | (with_reducible have hT9 := HTd.out.later hb9; with_reducible have hR9 := HRd.out.later hb9; with_reducible have hX9 := HXd.out.later hb9; with_reducible have hF9 := HFd.out.later hb9; with_reducible have hB9 := btr HBd.out hb9; have u1 := hX9.cell 1 _ rfl; have u2 := hX9.cell 2 _ rfl; have w1 : w9.cell? ⟨w.heap.size + 3, pickN a 3, none⟩ = some (.string (exiN a)) := cell_getD (l := [[115, 117, 98, 106, 101, 99, 116], [116, 111], [99, 99]]) hF9 (pickN a 3) (by simp only [List.length_cons, List.length_nil]; omega); have v1 := (Bk.alloc hX9 (.cells #[.string (exiN a), .string (mkS (wordL (bs s)))] 9)).cell 1 _ rfl; have v2 := (Bk.alloc hX9 (.cells #[.string (exiN a), .string (mkS (wordL (bs s)))] 9)).cell 2 _ rfl; have v3 := (Bk.alloc hT9 (.cells #[.string (exiN a), .string (mkS (wordL (bs s)))] 9)).cell 3 _ rfl; have g3 := (Bk.alloc hT9 (.cells #[.string (exiN a), .string (mkS (wordL (bs s)))] 9)).frozen 3; clear hF9; have HFA := Lib.hid hb9) | (with_reducible have hT9 := HTe.out.later hb9; with_reducible have hR9 := HRe.out.later hb9; with_reducible have hX9 := HXe.out.later hb9; with_reducible have hB9 := btr HBe.out hb9; have u1 := hX9.cell 1 _ rfl; have u2 := hX9.cell 2 _ rfl; have v1 := (Bk.alloc hX9 (.cells #[.string ⟨#[115, 117, 98, 106, 101, 99, 116]⟩, .string ⟨#[116, 111]⟩, .string ⟨#[99, 99]⟩] 9)).cell 1 _ rfl; have v2 := (Bk.alloc hX9 (.cells #[.string ⟨#[115, 117, 98, 106, 101, 99, 116]⟩, .string ⟨#[116, 111]⟩, .string ⟨#[99, 99]⟩] 9)).cell 2 _ rfl; have t1 := (Bk.alloc (Bk.alloc hX9 (.cells #[.string ⟨#[115, 117, 98, 106, 101, 99, 116]⟩, .string ⟨#[116, 111]⟩, .string ⟨#[99, 99]⟩] 9)) (.cells #[.string (exiN a), .string (mkS (wordL (bs s)))] 9)).cell 1 _ rfl; have t2 := (Bk.alloc (Bk.alloc hX9 (.cells #[.string ⟨#[115, 117, 98, 106, 101, 99, 116]⟩, .string ⟨#[116, 111]⟩, .string ⟨#[99, 99]⟩] 9)) (.cells #[.string (exiN a), .string (mkS (wordL (bs s)))] 9)).cell 2 _ rfl; have v3 := (Bk.alloc (Bk.alloc hT9 (.cells #[.string ⟨#[115, 117, 98, 106, 101, 99, 116]⟩, .string ⟨#[116, 111]⟩, .string ⟨#[99, 99]⟩] 9)) (.cells #[.string (exiN a), .string (mkS (wordL (bs s)))] 9)).cell 3 _ rfl; have g3 := (Bk.alloc (Bk.alloc hT9 (.cells #[.string ⟨#[115, 117, 98, 106, 101, 99, 116]⟩, .string ⟨#[116, 111]⟩, .string ⟨#[99, 99]⟩] 9)) (.cells #[.string (exiN a), .string (mkS (wordL (bs s)))] 9)).frozen 3; have HFB := Lib.hid hb9)); have u3 := hX9.cell 3 _ rfl; have HT9 := Lib.hid hT9; have HR9 := Lib.hid hR9; have HB9 := Lib.hid hB9; clear hT9 hR9 hX9 hB9 hb9))
  focus (go_wp2_with fail)
  have hOld := hHeld
  clear hHeld
  refine hK.out _ _ ?hS_75 (fun hHeld => ?rest_75)
  case hS_75 => ((try dsimp only); go_keep)
  clear hK K hOld
  try simp only [Act.put, List.setIfInBounds_toArray, List.set_cons_zero, List.set_cons_succ]
  refine wpAnyH_take (i := 13) (oi := ?oi_76) (v := ?v_76) ?hi_76 (by kernel_rfl) (by kernel_rfl) (by kernel_rfl) (fun _ _ _ h => h) (Or.inl ⟨?hw_76, ?hy_76⟩) (by assumption) ?rest_76
  case hi_76 => (simp only [List.getElem?_toArray, List.getElem?_cons_zero, List.getElem?_cons_succ]; rfl)
  case hw_76 => rfl
  case hy_76 => (intro w hSw; (try dsimp only at hSw); go_simp; try with_reducible rfl)
  try simp only [Act.put, List.setIfInBounds_toArray, List.set_cons_zero, List.set_cons_succ]
  refine wpAnyH_take (i := 14) (oi := ?oi_77) (v := ?v_77) ?hi_77 (by kernel_rfl) (by kernel_rfl) (by kernel_rfl) (fun _ _ _ h => h) (Or.inl ⟨?hw_77, ?hy_77⟩) (by assumption) ?rest_77
  case hi_77 => (simp only [List.getElem?_toArray, List.getElem?_cons_zero, List.getElem?_cons_succ]; rfl)
  case hw_77 => rfl
  case hy_77 => (intro w hSw; (try dsimp only at hSw); go_simp; try with_reducible rfl)
  try simp only [Act.put, List.setIfInBounds_toArray, List.set_cons_zero, List.set_cons_succ]
  refine wpAnyH_take (i := 15) (oi := ?oi_78) (v := ?v_78) ?hi_78 (by kernel_rfl) (by kernel_rfl) (by kernel_rfl) (fun _ _ _ h => h) (Or.inl ⟨?hw_78, ?hy_78⟩) (by assumption) ?rest_78
  case hi_78 => (simp only [List.getElem?_toArray, List.getElem?_cons_zero, List.getElem?_cons_succ]; rfl)
  case hw_78 => rfl
  case hy_78 => (intro w hSw; (try dsimp only at hSw); go_simp; try with_reducible rfl)
  try simp only [Act.put, List.setIfInBounds_toArray, List.set_cons_zero, List.set_cons_succ]
  refine wpAnyH_ready (rs := [16]) (by kernel_rfl) (by simp) (AllReadyH.cons (o := ?o_16_79) ?ho_16_79 (fun K hK => ?_) AllReadyH.nil)
  case ho_16_79 => (simp only [List.getElem?_toArray, List.getElem?_cons_zero, List.getElem?_cons_succ]; rfl)
  clear hHeld
  focus (go_simp)
  refine hK.out _ _ ?hS_80 (fun hHeld => ?rest_80)
  case hS_80 => ((try dsimp only); go_keep)
  clear hK K
  try simp only [Act.put, List.setIfInBounds_toArray, List.set_cons_zero, List.set_cons_succ]
  refine wpAnyH_done (by kernel_rfl) ?_ _
  refine NoPanic.normal ?_
  rotate_left
  focus (go_simp)
  focus (first
    | (go_at_call 13; (first | (with_reducible refine (PA3 _).mono ?_) | (with_reducible refine (PB2 _).mono ?_)); rintro e w' ⟨rfl, rfl⟩)
    | (go_at_call 30; with_reducible refine (SW _).mono ?_; rintro e w9 ⟨rfl, hb9⟩; (first | (with_reducible have hT9 := HTd.out.later hb9; with_reducible have hR9 := HRd.out.later hb9; with_reducible have hX9 := HXd.out.later hb9; with_reducible have hF9 := HFd.out.later hb9; with_reducible have hB9 := btr HBd.out hb9; have u1 := hX9.cell 1 _ rfl; have u2 := hX9.cell 2 _ rfl; have w1 : w9.cell? ⟨w.heap.size + 3, pickN a 3, none⟩ = some (.string (exiN a)) := cell_getD (l := [[115, 117, 98, 106, 101, 99, 116], [116, 111], [99, 99]]) hF9 (pickN a 3) (by simp only [List.length_cons, List.length_nil]; omega); have v1 := (Bk.alloc hX9 (.cells #[.string (exiN a), .string (mkS (wordL (bs s)))] 9)).cell 1 _ rfl; have v2 := (Bk.alloc hX9 (.cells #[.string (exiN a), .string (mkS (wordL (bs s)))] 9)).cell 2 _ rfl; have v3 := (Bk.alloc hT9 (.cells #[.string (exiN a), .string (mkS (wordL (bs s)))] 9)).cell 3 _ rfl; have g3 := (Bk.alloc hT9 (.cells #[.string (exiN a), .string (mkS (wordL (bs s)))] 9)).frozen 3; clear hF9; have HFA := Lib.hid hb9) | (with_reducible have hT9 := HTe.out.later hb9; with_reducible have hR9 := HRe.out.later hb9; with_reducible have hX9 := HXe.out.later hb9; with_reducible have hB9 := btr HBe.out hb9; have u1 := hX9.cell 1 _ rfl; have u2 := hX9.cell 2 _ rfl; have v1 := (Bk.alloc hX9 (.cells #[.string ⟨#[115, 117, 98, 106, 101, 99, 116]⟩, .string ⟨#[116, 111]⟩, .string ⟨#[99, 99]⟩] 9)).cell 1 _ rfl; have v2 := (Bk.alloc hX9 (.cells #[.string ⟨#[115, 117, 98, 106, 101, 99, 116]⟩, .string ⟨#[116, 111]⟩, .string ⟨#[99, 99]⟩] 9)).cell 2 _ rfl; have t1 := (Bk.alloc (Bk.alloc hX9 (.cells #[.string ⟨#[115, 117, 98, 106, 101, 99, 116]⟩, .string ⟨#[116, 111]⟩, .string ⟨#[99, 99]⟩] 9)) (.cells #[.string (exiN a), .string (mkS (wordL (bs s)))] 9)).cell 1 _ rfl; have t2 := (Bk.alloc (Bk.alloc hX9 (.cells #[.string ⟨#[115, 117, 98, 106, 101, 99, 116]⟩, .string ⟨#[116, 111]⟩, .string ⟨#[99, 99]⟩] 9)) (.cells #[.string (exiN a), .string (mkS (wordL (bs s)))] 9)).cell 2 _ rfl; have v3 := (Bk.alloc (Bk.alloc hT9 (.cells #[.string ⟨#[115, 117, 98, 106, 101, 99, 116]⟩, .string ⟨#[116, 111]⟩, .string ⟨#[99, 99]⟩] 9)) (.cells #[.string (exiN a), .string (mkS (wordL (bs s)))] 9)).cell 3 _ rfl; have g3 := (Bk.alloc (Bk.alloc hT9 (.cells #[.string ⟨#[115, 117, 98, 106, 101, 99, 116]⟩, .string ⟨#[116, 111]⟩, .string ⟨#[99, 99]⟩] 9)) (.cells #[.string (exiN a), .string (mkS (wordL (bs s)))] 9)).frozen 3; have HFB := Lib.hid hb9)); have u3 := hX9.cell 3 _ rfl; have HT9 := Lib.hid hT9; have HR9 := Lib.hid hR9; have HB9 := Lib.hid hB9; clear hT9 hR9 hX9 hB9 hb9))
  focus (go_wp2_with fail)
  have hOld := hHeld
  clear hHeld
  refine hK.out _ _ ?hS_81 (fun hHeld => ?rest_81)
  case hS_81 => ((try dsimp only); go_keep)
  clear hK K hOld
  try simp only [Act.put, List.setIfInBounds_toArray, List.set_cons_zero, List.set_cons_succ]
  refine wpAnyH_take (i := 13) (oi := ?oi_82) (v := ?v_82) ?hi_82 (by kernel_rfl) (by kernel_rfl) (by kernel_rfl) (fun _ _ _ h => h) (Or.inl ⟨?hw_82, ?hy_82⟩) (by assumption) ?rest_82
  case hi_82 => (simp only [List.getElem?_toArray, List.getElem?_cons_zero, List.getElem?_cons_succ]; rfl)
  case hw_82 => rfl
  case hy_82 => (intro w hSw; (try dsimp only at hSw); go_simp; try with_reducible rfl)
  try simp only [Act.put, List.setIfInBounds_toArray, List.set_cons_zero, List.set_cons_succ]
  refine wpAnyH_ready (rs := [9]) (by kernel_rfl) (by simp) (AllReadyH.cons (o := ?o_9_83) ?ho_9_83 (fun K hK => ?_) AllReadyH.nil)
  case ho_9_83 => (simp only [List.getElem?_toArray, List.getElem?_cons_zero, List.getElem?_cons_succ]; rfl)
  clear hHeld
  focus (go_simp)
  refine hK.out _ _ ?hS_84 (fun hHeld => ?rest_84)
  case hS_84 => ((try dsimp only); go_keep)
  clear hK K
  try simp only [Act.put, List.setIfInBounds_toArray, List.set_cons_zero, List.set_cons_succ]
  refine wpAnyH_take (i := 14) (oi := ?oi_85) (v := ?v_85) ?hi_85 (by kernel_rfl) (by kernel_rfl) (by kernel_rfl) (fun _ _ _ h => h) (Or.inl ⟨?hw_85, ?hy_85⟩) (by assumption) ?rest_85
  case hi_85 => (simp only [List.getElem?_toArray, List.getElem?_cons_zero, List.getElem?_cons_succ]; rfl)
  case hw_85 => rfl
  case hy_85 => (intro w hSw; (try dsimp only at hSw); go_simp; try with_reducible rfl)
  try simp only [Act.put, List.setIfInBounds_toArray, List.set_cons_zero, List.set_cons_succ]
  refine wpAnyH_take (i := 15) (oi := ?oi_86) (v := ?v_86) ?hi_86 (by kernel_rfl) (by kernel_rfl) (by kernel_rfl) (fun _ _ _ h => h) (Or.inl ⟨?hw_86, ?hy_86⟩) (by assumption) ?rest_86
  case hi_86 => (simp only [List.getElem?_toArray, List.getElem?_cons_zero, List.getElem?_cons_succ]; rfl)
  case hw_86 => rfl
  case hy_86 => (intro w hSw; (try dsimp only at hSw); go_simp; try with_reducible rfl)
  try simp only [Act.put, List.setIfInBounds_toArray, List.set_cons_zero, List.set_cons_succ]
  refine wpAnyH_ready (rs := [16]) (by kernel_rfl) (by simp) (AllReadyH.cons (o := ?o_16_87) ?ho_16_87 (fun K hK => ?_) AllReadyH.nil)
  case ho_16_87 => (simp only [List.getElem?_toArray, List.getElem?_cons_zero, List.getElem?_cons_succ]; rfl)
  clear hHeld
  focus (go_simp)
  refine hK.out _ _ ?hS_88 (fun hHeld => ?rest_88)
  case hS_88 => ((try dsimp only); go_keep)
  clear hK K
  try simp only [Act.put, List.setIfInBounds_toArray, List.set_cons_zero, List.set_cons_succ]
  refine wpAnyH_done (by kernel_rfl) ?_ _
  refine NoPanic.normal ?_
  rotate_left
  focus (go_simp)
  focus (first
    | (go_at_call 13; (first | (with_reducible refine (PA3 _).mono ?_) | (with_reducible refine (PB2 _).mono ?_)); rintro e w' ⟨rfl, rfl⟩)
    | (go_at_call 30; with_reducible refine (SW _).mono ?_; rintro e w9 ⟨rfl, hb9⟩; (first | (with_reducible have hT9 := HTd.out.later hb9; with_reducible have hR9 := HRd.out.later hb9; with_reducible have hX9 := HXd.out.later hb9; with_reducible have hF9 := HFd.out.later hb9; with_reducible have hB9 := btr HBd.out hb9; have u1 := hX9.cell 1 _ rfl; have u2 := hX9.cell 2 _ rfl; have w1 : w9.cell? ⟨w.heap.size + 3, pickN a 3, none⟩ = some (.string (exiN a)) := cell_getD (l := [[115, 117, 98, 106, 101, 99, 116], [116, 111], [99, 99]]) hF9 (pickN a 3) (by simp only [List.length_cons, List.length_nil]; omega); have v1 := (Bk.alloc hX9 (.cells #[.string (exiN a), .string (mkS (wordL (bs s)))] 9)).cell 1 _ rfl; have v2 := (Bk.alloc hX9 (.cells #[.string (exiN a), .string (mkS (wordL (bs s)))] 9)).cell 2 _ rfl; have v3 := (Bk.alloc hT9 (.cells #[.string (exiN a), .string (mkS (wordL (bs s)))] 9)).cell 3 _ rfl; have g3 := (Bk.alloc hT9 (.cells #[.string (exiN a), .string (mkS (wordL (bs s)))] 9)).frozen 3; clear hF9; have HFA := Lib.hid hb9) | (with_reducible have hT9 := HTe.out.later hb9; with_reducible have hR9 := HRe.out.later hb9; with_reducible have hX9 := HXe.out.later hb9; with_reducible have hB9 := btr HBe.out hb9; have u1 := hX9.cell 1 _ rfl; have u2 := hX9.cell 2 _ rfl; have v1 := (Bk.alloc hX9 (.cells #[.string ⟨#[115, 117, 98, 106, 101, 99, 116]⟩, .string ⟨#[116, 111]⟩, .string ⟨#[99, 99]⟩] 9)).cell 1 _ rfl; have v2 := (Bk.alloc hX9 (.cells #[.string ⟨#[115, 117, 98, 106, 101, 99, 116]⟩, .string ⟨#[116, 111]⟩, .string ⟨#[99, 99]⟩] 9)).cell 2 _ rfl; have t1 := (Bk.alloc (Bk.alloc hX9 (.cells #[.string ⟨#[115, 117, 98, 106, 101, 99, 116]⟩, .string ⟨#[116, 111]⟩, .string ⟨#[99, 99]⟩] 9)) (.cells #[.string (exiN a), .string (mkS (wordL (bs s)))] 9)).cell 1 _ rfl; have t2 := (Bk.alloc (Bk.alloc hX9 (.cells #[.string ⟨#[115, 117, 98, 106, 101, 99, 116]⟩, .string ⟨#[116, 111]⟩, .string ⟨#[99, 99]⟩] 9)) (.cells #[.string (exiN a), .string (mkS (wordL (bs s)))] 9)).cell 2 _ rfl; have v3 := (Bk.alloc (Bk.alloc hT9 (.cells #[.string ⟨#[115, 117, 98, 106, 101, 99, 116]⟩, .string ⟨#[116, 111]⟩, .string ⟨#[99, 99]⟩] 9)) (.cells #[.string (exiN a), .string (mkS (wordL (bs s)))] 9)).cell 3 _ rfl; have g3 := (Bk.alloc (Bk.alloc hT9 (.cells #[.string ⟨#[115, 117, 98, 106, 101, 99, 116]⟩, .string ⟨#[116, 111]⟩, .string ⟨#[99, 99]⟩] 9)) (.cells #[.string (exiN a), .string (mkS (wordL (bs s)))] 9)).frozen 3; have HFB := Lib.hid hb9)); have u3 := hX9.cell 3 _ rfl; have HT9 := Lib.hid hT9; have HR9 := Lib.hid hR9; have HB9 := Lib.hid hB9; clear hT9 hR9 hX9 hB9 hb9))
  focus (go_wp2_with fail)
  have hOld := hHeld
  clear hHeld
  refine hK.out _ _ ?hS_89 (fun hHeld => ?rest_89)
  case hS_89 => ((try dsimp only); go_keep)
  clear hK K hOld
  try simp only [Act.put, List.setIfInBounds_toArray, List.set_cons_zero, List.set_cons_succ]
  refine wpAnyH_ready (rs := [5, 12]) (by kernel_rfl) (by simp) (AllReadyH.cons (o := ?o_5_90) ?ho_5_90 (fun K hK => ?_) (AllReadyH.cons (o := ?o_12_90) ?ho_12_90 (fun K hK => ?_) AllReadyH.nil))
  case ho_5_90 => (simp only [List.getElem?_toArray, List.getElem?_cons_zero, List.getElem?_cons_succ]; rfl)
  case ho_12_90 => (simp only [List.getElem?_toArray, List.getElem?_cons_zero, List.getElem?_cons_succ]; rfl)
  clear hHeld
  focus (go_simp)
  refine hK.out _ _ ?hS_91 (fun hHeld => ?rest_91)
  case hS_91 => ((try dsimp only); go_keep)
  clear hK K
  try simp only [Act.put, List.setIfInBounds_toArray, List.set_cons_zero, List.set_cons_succ]
  refine wpAnyH_ready (rs := [9, 12]) (by kernel_rfl) (by simp) (AllReadyH.cons (o := ?o_9_92) ?ho_9_92 (fun K hK => ?_) (AllReadyH.cons (o := ?o_12_92) ?ho_12_92 (fun K hK => ?_) AllReadyH.nil))
  case ho_9_92 => (simp only [List.getElem?_toArray, List.getElem?_cons_zero, List.getElem?_cons_succ]; rfl)
  case ho_12_92 => (simp only [List.getElem?_toArray, List.getElem?_cons_zero, List.getElem?_cons_succ]; rfl)
  clear hHeld
  focus (go_simp)
  refine hK.out _ _ ?hS_93 (fun hHeld => ?rest_93)
  case hS_93 => ((try dsimp only); go_keep)
  clear hK K
  try simp only [Act.put, List.setIfInBounds_toArray, List.set_cons_zero, List.set_cons_succ]
  refine wpAnyH_ready (rs := [12]) (by kernel_rfl) (by simp) (AllReadyH.cons (o := ?o_12_94) ?ho_12_94 (fun K hK => ?_) AllReadyH.nil)
  case ho_12_94 => (simp only [List.getElem?_toArray, List.getElem?_cons_zero, List.getElem?_cons_succ]; rfl)
  focus (go_simp)
  focus (first
    | (go_at_call 13; (first | (with_reducible refine (PA3 _).mono ?_) | (with_reducible refine (PB2 _).mono ?_)); rintro e w' ⟨rfl, rfl⟩)
    | (go_at_call 30; with_reducible refine (SW _).mono ?_; rintro e w9 ⟨rfl, hb9⟩; (first | (with_reducible have hT9 := HTd.out.later hb9; with_reducible have hR9 := HRd.out.later hb9; with_reducible have hX9 := HXd.out.later hb9; with_reducible have hF9 := HFd.out.later hb9; with_reducible have hB9 := btr HBd.out hb9; have u1 := hX9.cell 1 _ rfl; have u2 := hX9.cell 2 _ rfl; have w1 : w9.cell? ⟨w.heap.size + 3, pickN a 3, none⟩ = some (.string (exiN a)) := cell_getD (l := [[115, 117, 98, 106, 101, 99, 116], [116, 111], [99, 99]]) hF9 (pickN a 3) (by simp only [List.length_cons, List.length_nil]; omega); have v1 := (Bk.alloc hX9 (.cells #[.string (exiN a), .string (mkS (wordL (bs s)))] 9)).cell 1 _ rfl; have v2 := (Bk.alloc hX9 (.cells #[.string (exiN a), .string (mkS (wordL (bs s)))] 9)).cell 2 _ rfl; have v3 := (Bk.alloc hT9 (.cells #[.string (exiN a), .string (mkS (wordL (bs s)))] 9)).cell 3 _ rfl; have g3 := (Bk.alloc hT9 (.cells #[.string (exiN a), .string (mkS (wordL (bs s)))] 9)).frozen 3; clear hF9; have HFA := Lib.hid hb9) | (with_reducible have hT9 := HTe.out.later hb9; with_reducible have hR9 := HRe.out.later hb9; with_reducible have hX9 := HXe.out.later hb9; with_reducible have hB9 := btr HBe.out hb9; have u1 := hX9.cell 1 _ rfl; have u2 := hX9.cell 2 _ rfl; have v1 := (Bk.alloc hX9 (.cells #[.string ⟨#[115, 117, 98, 106, 101, 99, 116]⟩, .string ⟨#[116, 111]⟩, .string ⟨#[99, 99]⟩] 9)).cell 1 _ rfl; have v2 := (Bk.alloc hX9 (.cells #[.string ⟨#[115, 117, 98, 106, 101, 99, 116]⟩, .string ⟨#[116, 111]⟩, .string ⟨#[99, 99]⟩] 9)).cell 2 _ rfl; have t1 := (Bk.alloc (Bk.alloc hX9 (.cells #[.string ⟨#[115, 117, 98, 106, 101, 99, 116]⟩, .string ⟨#[116, 111]⟩, .string ⟨#[99, 99]⟩] 9)) (.cells #[.string (exiN a), .string (mkS (wordL (bs s)))] 9)).cell 1 _ rfl; have t2 := (Bk.alloc (Bk.alloc hX9 (.cells #[.string ⟨#[115, 117, 98, 106, 101, 99, 116]⟩, .string ⟨#[116, 111]⟩, .string ⟨#[99, 99]⟩] 9)) (.cells #[.string (exiN a), .string (mkS (wordL (bs s)))] 9)).cell 2 _ rfl; have v3 := (Bk.alloc (Bk.alloc hT9 (.cells #[.string ⟨#[115, 117, 98, 106, 101, 99, 116]⟩, .string ⟨#[116, 111]⟩, .string ⟨#[99, 99]⟩] 9)) (.cells #[.string (exiN a), .string (mkS (wordL (bs s)))] 9)).cell 3 _ rfl; have g3 := (Bk.alloc (Bk.alloc hT9 (.cells #[.string ⟨#[115, 117, 98, 106, 101, 99, 116]⟩, .string ⟨#[116, 111]⟩, .string ⟨#[99, 99]⟩] 9)) (.cells #[.string (exiN a), .string (mkS (wordL (bs s)))] 9)).frozen 3; have HFB := Lib.hid hb9)); have u3 := hX9.cell 3 _ rfl; have HT9 := Lib.hid hT9; have HR9 := Lib.hid hR9; have HB9 := Lib.hid hB9; clear hT9 hR9 hX9 hB9 hb9))
  focus (go_wp2_with fail)
  have hOld := hHeld
  clear hHeld
  refine hK.out _ _ ?hS_95 (fun hHeld => ?rest_95)
  case hS_95 => ((try dsimp only); go_keep)
  clear hK K hOld
  try simp only [Act.put, List.setIfInBounds_toArray, List.set_cons_zero, List.set_cons_succ]
  refine wpAnyH_take (i := 13) (oi := ?oi_96) (v := ?v_96) ?hi_96 (by kernel_rfl) (by kernel_rfl) (by kernel_rfl) (fun _ _ _ h => h) (Or.inl ⟨?hw_96, ?hy_96⟩) (by assumption) ?rest_96
  case hi_96 => (simp only [List.getElem?_toArray, List.getElem?_cons_zero, List.getElem?_cons_succ]; rfl)
  case hw_96 => rfl
  case hy_96 => (intro w hSw; (try dsimp only at hSw); go_simp; try with_reducible rfl)
  try simp only [Act.put, List.setIfInBounds_toArray, List.set_cons_zero, List.set_cons_succ]
  refine wpAnyH_take (i := 14) (oi := ?oi_97) (v := ?v_97) ?hi_97 (by kernel_rfl) (by kernel_rfl) (by kernel_rfl) (fun _ _ _ h => h) (Or.inl ⟨?hw_97, ?hy_97⟩) (by assumption) ?rest_97
  case hi_97 => (simp only [List.getElem?_toArray, List.getElem?_cons_zero, List.getElem?_cons_succ]; rfl)
  case hw_97 => rfl
  case hy_97 => (intro w hSw; (try dsimp only at hSw); go_simp; try with_reducible rfl)
  try simp only [Act.put, List.setIfInBounds_toArray, List.set_cons_zero, List.set_cons_succ]
  refine wpAnyH_take (i := 15) (oi := ?oi_98) (v := ?v_98) ?hi_98 (by kernel_rfl) (by kernel_rfl) (by kernel_rfl) (fun _ _ _ h => h) (Or.inl ⟨?hw_98, ?hy_98⟩) (by assumption) ?rest_98
  case hi_98 => (simp only [List.getElem?_toArray, List.getElem?_cons_zero, List.getElem?_cons_succ]; rfl)
  case hw_98 => rfl
  case hy_98 => (intro w hSw; (try dsimp only at hSw); go_simp; try with_reducible rfl)
  try simp only [Act.put, List.setIfInBounds_toArray, List.set_cons_zero, List.set_cons_succ]
  refine wpAnyH_ready (rs := [16]) (by kernel_rfl) (by simp) (AllReadyH.cons (o := ?o_16_99) ?ho_16_99 (fun K hK => ?_) AllReadyH.nil)
  case ho_16_99 => (simp only [List.getElem?_toArray, List.getElem?_cons_zero, List.getElem?_cons_succ]; rfl)
  clear hHeld
  focus (go_simp)
  refine hK.out _ _ ?hS_100 (fun hHeld => ?rest_100)
  case hS_100 => ((try dsimp only); go_keep)
  clear hK K
  try simp only [Act.put, List.setIfInBounds_toArray, List.set_cons_zero, List.set_cons_succ]
  refine wpAnyH_done (by kernel_rfl) ?_ _
  refine NoPanic.normal ?_
  rotate_left
  focus (go_simp)
  focus (first
    | (go_at_call 13; (first | (with_reducible refine (PA3 _).mono ?_) | (with_reducible refine (PB2 _).mono ?_)); rintro e w' ⟨rfl, rfl⟩)
    | (go_at_call 30; with_reducible refine (SW _).mono ?_; rintro e w9 ⟨rfl, hb9⟩; (first | (with_reducible have hT9 := HTd.out.later hb9; with_reducible have hR9 := HRd.out.later hb9; with_reducible have hX9 := HXd.out.later hb9; with_reducible have hF9 := HFd.out.later hb9; with_reducible have hB9 := btr HBd.out hb9; have u1 := hX9.cell 1 _ rfl; have u2 := hX9.cell 2 _ rfl; have w1 : w9.cell? ⟨w.heap.size + 3, pickN a 3, none⟩ = some (.string (exiN a)) := cell_getD (l := [[115, 117, 98, 106, 101, 99, 116], [116, 111], [99, 99]]) hF9 (pickN a 3) (by simp only [List.length_cons, List.length_nil]; omega); have v1 := (Bk.alloc hX9 (.cells #[.string (exiN a), .string (mkS (wordL (bs s)))] 9)).cell 1 _ rfl; have v2 := (Bk.alloc hX9 (.cells #[.string (exiN a), .string (mkS (wordL (bs s)))] 9)).cell 2 _ rfl; have v3 := (Bk.alloc hT9 (.cells #[.string (exiN a), .string (mkS (wordL (bs s)))] 9)).cell 3 _ rfl; have g3 := (Bk.alloc hT9 (.cells #[.string (exiN a), .string (mkS (wordL (bs s)))] 9)).frozen 3; clear hF9; have HFA := Lib.hid hb9) | (with_reducible have hT9 := HTe.out.later hb9; with_reducible have hR9 := HRe.out.later hb9; with_reducible have hX9 := HXe.out.later hb9; with_reducible have hB9 := btr HBe.out hb9; have u1 := hX9.cell 1 _ rfl; have u2 := hX9.cell 2 _ rfl; have v1 := (Bk.alloc hX9 (.cells #[.string ⟨#[115, 117, 98, 106, 101, 99, 116]⟩, .string ⟨#[116, 111]⟩, .string ⟨#[99, 99]⟩] 9)).cell 1 _ rfl; have v2 := (Bk.alloc hX9 (.cells #[.string ⟨#[115, 117, 98, 106, 101, 99, 116]⟩, .string ⟨#[116, 111]⟩, .string ⟨#[99, 99]⟩] 9)).cell 2 _ rfl; have t1 := (Bk.alloc (Bk.alloc hX9 (.cells #[.string ⟨#[115, 117, 98, 106, 101, 99, 116]⟩, .string ⟨#[116, 111]⟩, .string ⟨#[99, 99]⟩] 9)) (.cells #[.string (exiN a), .string (mkS (wordL (bs s)))] 9)).cell 1 _ rfl; have t2 := (Bk.alloc (Bk.alloc hX9 (.cells #[.string ⟨#[115, 117, 98, 106, 101, 99, 116]⟩, .string ⟨#[116, 111]⟩, .string ⟨#[99, 99]⟩] 9)) (.cells #[.string (exiN a), .string (mkS (wordL (bs s)))] 9)).cell 2 _ rfl; have v3 := (Bk.alloc (Bk.alloc hT9 (.cells #[.string ⟨#[115, 117, 98, 106, 101, 99, 116]⟩, .string ⟨#[116, 111]⟩, .string ⟨#[99, 99]⟩] 9)) (.cells #[.string (exiN a), .string (mkS (wordL (bs s)))] 9)).cell 3 _ rfl; have g3 := (Bk.alloc (Bk.alloc hT9 (.cells #[.string ⟨#[115, 117, 98, 106, 101, 99, 116]⟩, .string ⟨#[116, 111]⟩, .string ⟨#[99, 99]⟩] 9)) (.cells #[.string (exiN a), .string (mkS (wordL (bs s)))] 9)).frozen 3; have HFB := Lib.hid hb9)); have u3 := hX9.cell 3 _ rfl; have HT9 := Lib.hid hT9; have HR9 := Lib.hid hR9; have HB9 := Lib.hid hB9; clear hT9 hR9 hX9 hB9 hb9))
  focus (go_wp2_with fail)
  have hOld := hHeld
  clear hHeld
  refine hK.out _ _ ?hS_101 (fun hHeld => ?rest_101)
  case hS_101 => ((try dsimp only); go_keep)
  clear hK K hOld
  try simp only [Act.put, List.setIfInBounds_toArray, List.set_cons_zero, List.set_cons_succ]
  refine wpAnyH_take (i := 13) (oi := ?oi_102) (v := ?v_102) ?hi_102 (by kernel_rfl) (by kernel_rfl) (by kernel_rfl) (fun _ _ _ h => h) (Or.inl ⟨?hw_102, ?hy_102⟩) (by assumption) ?rest_102
  case hi_102 => (simp only [List.getElem?_toArray, List.getElem?_cons_zero, List.getElem?_cons_succ]; rfl)
  case hw_102 => rfl
  case hy_102 => (intro w hSw; (try dsimp only at hSw); go_simp; try with_reducible rfl)
  try simp only [Act.put, List.setIfInBounds_toArray, List.set_cons_zero, List.set_cons_succ]
  refine wpAnyH_ready (rs := [9]) (by kernel_rfl) (by simp) (AllReadyH.cons (o := ?o_9_103) ?ho_9_103 (fun K hK => ?_) AllReadyH.nil)
  case ho_9_103 => (simp only [List.getElem?_toArray, List.getElem?_cons_zero, List.getElem?_cons_succ]; rfl)
  clear hHeld
  focus (go_simp)
  refine hK.out _ _ ?hS_104 (fun hHeld => ?rest_104)
  case hS_104 => ((try dsimp only); go_keep)
  clear hK K
  try simp only [Act.put, List.setIfInBounds_toArray, List.set_cons_zero, List.set_cons_succ]
  refine wpAnyH_take (i := 14) (oi := ?oi_105) (v := ?v_105) ?hi_105 (by kernel_rfl) (by kernel_rfl) (by kernel_rfl) (fun _ _ _ h => h) (Or.inl ⟨?hw_105, ?hy_105⟩) (by assumption) ?rest_105
  case hi_105 => (simp only [List.getElem?_toArray, List.getElem?_cons_zero, List.getElem?_cons_succ]; rfl)
  case hw_105 => rfl
  case hy_105 => (intro w hSw; (try dsimp only at hSw); go_simp; try with_reducible rfl)
  try simp only [Act.put, List.setIfInBounds_toArray, List.set_cons_zero, List.set_cons_succ]
  refine wpAnyH_take (i := 15) (oi := ?oi_106) (v := ?v_106) ?hi_106 (by kernel_rfl) (by kernel_rfl) (by kernel_rfl) (fun _ _ _ h => h) (Or.inl ⟨?hw_106, ?hy_106⟩) (by assumption) ?rest_106
  case hi_106 => (simp only [List.getElem?_toArray, List.getElem?_cons_zero, List.getElem?_cons_succ]; rfl)
  case hw_106 => rfl
  case hy_106 => (intro w hSw; (try dsimp only at hSw); go_simp; try with_reducible rfl)
  try simp only [Act.put, List.setIfInBounds_toArray, List.set_cons_zero, List.set_cons_succ]
  refine wpAnyH_ready (rs := [16]) (by kernel_rfl) (by simp) (AllReadyH.cons (o := ?o_16_107) ?ho_16_107 (fun K hK => ?_) AllReadyH.nil)
  case ho_16_107 => (simp only [List.getElem?_toArray, List.getElem?_cons_zero, List.getElem?_cons_succ]; rfl)
  clear hHeld
  focus (go_simp)
  refine hK.out _ _ ?hS_108 (fun hHeld => ?rest_108)
  case hS_108 => ((try dsimp only); go_keep)
  clear hK K
  try simp only [Act.put, List.setIfInBounds_toArray, List.set_cons_zero, List.set_cons_succ]
  refine wpAnyH_done (by kernel_rfl) ?_ _
  refine NoPanic.normal ?_
  rotate_left
  focus (go_simp)
  focus (first
    | (go_at_call 13; (first | (with_reducible refine (PA3 _).mono ?_) | (with_reducible refine (PB2 _).mono ?_)); rintro e w' ⟨rfl, rfl⟩)
    | (go_at_call 30; with_reducible refine (SW _).mono ?_; rintro e w9 ⟨rfl, hb9⟩; (first | (with_reducible have hT9 := HTd.out.later hb9; with_reducible have hR9 := HRd.out.later hb9; with_reducible have hX9 := HXd.out.later hb9; with_reducible have hF9 := HFd.out.later hb9; with_reducible have hB9 := btr HBd.out hb9; have u1 := hX9.cell 1 _ rfl; have u2 := hX9.cell 2 _ rfl; have w1 : w9.cell? ⟨w.heap.size + 3, pickN a 3, none⟩ = some (.string (exiN a)) := cell_getD (l := [[115, 117, 98, 106, 101, 99, 116], [116, 111], [99, 99]]) hF9 (pickN a 3) (by simp only [List.length_cons, List.length_nil]; omega); have v1 := (Bk.alloc hX9 (.cells #[.string (exiN a), .string (mkS (wordL (bs s)))] 9)).cell 1 _ rfl; have v2 := (Bk.alloc hX9 (.cells #[.string (exiN a), .string (mkS (wordL (bs s)))] 9)).cell 2 _ rfl; have v3 := (Bk.alloc hT9 (.cells #[.string (exiN a), .string (mkS (wordL (bs s)))] 9)).cell 3 _ rfl; have g3 := (Bk.alloc hT9 (.cells #[.string (exiN a), .string (mkS (wordL (bs s)))] 9)).frozen 3; clear hF9; have HFA := Lib.hid hb9) | (with_reducible have hT9 := HTe.out.later hb9; with_reducible have hR9 := HRe.out.later hb9; with_reducible have hX9 := HXe.out.later hb9; with_reducible have hB9 := btr HBe.out hb9; have u1 := hX9.cell 1 _ rfl; have u2 := hX9.cell 2 _ rfl; have v1 := (Bk.alloc hX9 (.cells #[.string ⟨#[115, 117, 98, 106, 101, 99, 116]⟩, .string ⟨#[116, 111]⟩, .string ⟨#[99, 99]⟩] 9)).cell 1 _ rfl; have v2 := (Bk.alloc hX9 (.cells #[.string ⟨#[115, 117, 98, 106, 101, 99, 116]⟩, .string ⟨#[116, 111]⟩, .string ⟨#[99, 99]⟩] 9)).cell 2 _ rfl; have t1 := (Bk.alloc (Bk.alloc hX9 (.cells #[.string ⟨#[115, 117, 98, 106, 101, 99, 116]⟩, .string ⟨#[116, 111]⟩, .string ⟨#[99, 99]⟩] 9)) (.cells #[.string (exiN a), .string (mkS (wordL (bs s)))] 9)).cell 1 _ rfl; have t2 := (Bk.alloc (Bk.alloc hX9 (.cells #[.string ⟨#[115, 117, 98, 106, 101, 99, 116]⟩, .string ⟨#[116, 111]⟩, .string ⟨#[99, 99]⟩] 9)) (.cells #[.string (exiN a), .string (mkS (wordL (bs s)))] 9)).cell 2 _ rfl; have v3 := (Bk.alloc (Bk.alloc hT9 (.cells #[.string ⟨#[115, 117, 98, 106, 101, 99, 116]⟩, .string ⟨#[116, 111]⟩, .string ⟨#[99, 99]⟩] 9)) (.cells #[.string (exiN a), .string (mkS (wordL (bs s)))] 9)).cell 3 _ rfl; have g3 := (Bk.alloc (Bk.alloc hT9 (.cells #[.string ⟨#[115, 117, 98, 106, 101, 99, 116]⟩, .string ⟨#[116, 111]⟩, .string ⟨#[99, 99]⟩] 9)) (.cells #[.string (exiN a), .string (mkS (wordL (bs s)))] 9)).frozen 3; have HFB := Lib.hid hb9)); have u3 := hX9.cell 3 _ rfl; have HT9 := Lib.hid hT9; have HR9 := Lib.hid hR9; have HB9 := Lib.hid hB9; clear hT9 hR9 hX9 hB9 hb9))
  focus (go_wp2_with fail)
  have hOld := hHeld
  clear hHeld
  refine hK.out _ _ ?hS_109 (fun hHeld => ?rest_109)
  case hS_109 => ((try dsimp only); go_keep)
  clear hK K hOld
  try simp only [Act.put, List.setIfInBounds_toArray, List.set_cons_zero, List.set_cons_succ]
  refine wpAnyH_take (i := 13) (oi := ?oi_110) (v := ?v_110) ?hi_110 (by kernel_rfl) (by kernel_rfl) (by kernel_rfl) (fun _ _ _ h => h) (Or.inl ⟨?hw_110, ?hy_110⟩) (by assumption) ?rest_110
  case hi_110 => (simp only [List.getElem?_toArray, List.getElem?_cons_zero, List.getElem?_cons_succ]; rfl)
  case hw_110 => rfl
  case hy_110 => (intro w hSw; (try dsimp only at hSw); go_simp; try with_reducible rfl)
  try simp only [Act.put, List.setIfInBounds_toArray, List.set_cons_zero, List.set_cons_succ]
  refine wpAnyH_ready (rs := [5]) (by kernel_rfl) (by simp) (AllReadyH.cons (o := ?o_5_111) ?ho_5_111 (fun K hK => ?_) AllReadyH.nil)
  case ho_5_111 => (simp only [List.getElem?_toArray, List.getElem?_cons_zero, List.getElem?_cons_succ]; rfl)
  clear hHeld
  focus (go_simp)
  refine hK.out _ _ ?hS_112 (fun hHeld => ?rest_112)
  case hS_112 => ((try dsimp only); go_keep)
  clear hK K
  try simp only [Act.put, List.setIfInBounds_toArray, List.set_cons_zero, List.set_cons_succ]
  refine wpAnyH_ready (rs := [9]) (by kernel_rfl) (by simp) (AllReadyH.cons (o := ?o_9_113) ?ho_9_113 (fun K hK => ?_) AllReadyH.nil)
  case ho_9_113 => (simp only [List.getElem?_toArray, List.getElem?_cons_zero, List.getElem?_cons_succ]; rfl)
  clear hHeld
  focus (go_simp)
  refine hK.out _ _ ?hS_114 (fun hHeld => ?rest_114)
  case hS_114 => ((try dsimp only); go_keep)
  clear hK K
  try simp only [Act.put, List.setIfInBounds_toArray, List.set_cons_zero, List.set_cons_succ]
  refine wpAnyH_take (i := 14) (oi := ?oi_115) (v := ?v_115) ?hi_115 (by kernel_rfl) (by kernel_rfl) (by kernel_rfl) (fun _ _ _ h => h) (Or.inl ⟨?hw_115, ?hy_115⟩) (by assumption) ?rest_115
  case hi_115 => (simp only [List.getElem?_toArray, List.getElem?_cons_zero, List.getElem?_cons_succ]; rfl)
  case hw_115 => rfl
  case hy_115 => (intro w hSw; (try dsimp only at hSw); go_simp; try with_reducible rfl)
  try simp only [Act.put, List.setIfInBounds_toArray, List.set_cons_zero, List.set_cons_succ]
  refine wpAnyH_take (i := 15) (oi := ?oi_116) (v := ?v_116) ?hi_116 (by kernel_rfl) (by kernel_rfl) (by kernel_rfl) (fun _ _ _ h => h) (Or.inl ⟨?hw_116, ?hy_116⟩) (by assumption) ?rest_116
  case hi_116 => (simp only [List.getElem?_toArray, List.getElem?_cons_zero, List.getElem?_cons_succ]; rfl)
  case hw_116 => rfl
  case hy_116 => (intro w hSw; (try dsimp only at hSw); go_simp; try with_reducible rfl)
  try simp only [Act.put, List.setIfInBounds_toArray, List.set_cons_zero, List.set_cons_succ]
  refine wpAnyH_ready (rs := [16]) (by kernel_rfl) (by simp) (AllReadyH.cons (o := ?o_16_117) ?ho_16_117 (fun K hK => ?_) AllReadyH.nil)
  case ho_16_117 => (simp only [List.getElem?_toArray, List.getElem?_cons_zero, List.getElem?_cons_succ]; rfl)
  clear hHeld
  focus (go_simp)
  refine hK.out _ _ ?hS_118 (fun hHeld => ?rest_118)
  case hS_118 => ((try dsimp only); go_keep)
  clear hK K
  try simp only [Act.put, List.setIfInBounds_toArray, List.set_cons_zero, List.set_cons_succ]
  refine wpAnyH_done (by kernel_rfl) ?_ _
  refine NoPanic.normal ?_
  rotate_left
  focus (go_simp)
  focus (first
    | (go_at_call 13; (first | (with_reducible refine (PA3 _).mono ?_) | (with_reducible refine (PB2 _).mono ?_)); rintro e w' ⟨rfl, rfl⟩)
    | (go_at_call 30; with_reducible refine (SW _).mono ?_; rintro e w9 ⟨rfl, hb9⟩; (first | (with_reducible have hT9 := HTd.out.later hb9; with_reducible have hR9 := HRd.out.later hb9; with_reducible have hX9 := HXd.out.later hb9; with_reducible have hF9 := HFd.out.later hb9; with_reducible have hB9 := btr HBd.out hb9; have u1 := hX9.cell 1 _ rfl; have u2 := hX9.cell 2 _ rfl; have w1 : w9.cell? ⟨w.heap.size + 3, pickN a 3, none⟩ = some (.string (exiN a)) := cell_getD (l := [[115, 117, 98, 106, 101, 99, 116], [116, 111], [99, 99]]) hF9 (pickN a 3) (by simp only [List.length_cons, List.length_nil]; omega); have v1 := (Bk.alloc hX9 (.cells #[.string (exiN a), .string (mkS (wordL (bs s)))] 9)).cell 1 _ rfl; have v2 := (Bk.alloc hX9 (.cells #[.string (exiN a), .string (mkS (wordL (bs s)))] 9)).cell 2 _ rfl; have v3 := (Bk.alloc hT9 (.cells #[.string (exiN a), .string (mkS (wordL (bs s)))] 9)).cell 3 _ rfl; have g3 := (Bk.alloc hT9 (.cells #[.string (exiN a), .string (mkS (wordL (bs s)))] 9)).frozen 3; clear hF9; have HFA := Lib.hid hb9) | (with_reducible have hT9 := HTe.out.later hb9; with_reducible have hR9 := HRe.out.later hb9; with_reducible have hX9 := HXe.out.later hb9; with_reducible have hB9 := btr HBe.out hb9; have u1 := hX9.cell 1 _ rfl; have u2 := hX9.cell 2 _ rfl; have v1 := (Bk.alloc hX9 (.cells #[.string ⟨#[115, 117, 98, 106, 101, 99, 116]⟩, .string ⟨#[116, 111]⟩, .string ⟨#[99, 99]⟩] 9)).cell 1 _ rfl; have v2 := (Bk.alloc hX9 (.cells #[.string ⟨#[115, 117, 98, 106, 101, 99, 116]⟩, .string ⟨#[116, 111]⟩, .string ⟨#[99, 99]⟩] 9)).cell 2 _ rfl; have t1 := (Bk.alloc (Bk.alloc hX9 (.cells #[.string ⟨#[115, 117, 98, 106, 101, 99, 116]⟩, .string ⟨#[116, 111]⟩, .string ⟨#[99, 99]⟩] 9)) (.cells #[.string (exiN a), .string (mkS (wordL (bs s)))] 9)).cell 1 _ rfl; have t2 := (Bk.alloc (Bk.alloc hX9 (.cells #[.string ⟨#[115, 117, 98, 106, 101, 99, 116]⟩, .string ⟨#[116, 111]⟩, .string ⟨#[99, 99]⟩] 9)) (.cells #[.string (exiN a), .string (mkS (wordL (bs s)))] 9)).cell 2 _ rfl; have v3 := (Bk.alloc (Bk.alloc hT9 (.cells #[.string ⟨#[115, 117, 98, 106, 101, 99, 116]⟩, .string ⟨#[116, 111]⟩, .string ⟨#[99, 99]⟩] 9)) (.cells #[.string (exiN a), .string (mkS (wordL (bs s)))] 9)).cell 3 _ rfl; have g3 := (Bk.alloc (Bk.alloc hT9 (.cells #[.string ⟨#[115, 117, 98, 106, 101, 99, 116]⟩, .string ⟨#[116, 111]⟩, .string ⟨#[99, 99]⟩] 9)) (.cells #[.string (exiN a), .string (mkS (wordL (bs s)))] 9)).frozen 3; have HFB := Lib.hid hb9)); have u3 := hX9.cell 3 _ rfl; have HT9 := Lib.hid hT9; have HR9 := Lib.hid hR9; have HB9 := Lib.hid hB9; clear hT9 hR9 hX9 hB9 hb9))
  focus (go_wp2_with fail)
  have hOld := hHeld
  clear hHeld
  refine hK.out _ _ ?hS_119 (fun hHeld => ?rest_119)
  case hS_119 => ((try dsimp only); go_keep)
  clear hK K hOld
  try simp only [Act.put, List.setIfInBounds_toArray, List.set_cons_zero, List.set_cons_succ]
  refine wpAnyH_ready (rs := [0, 12]) (by kernel_rfl) (by simp) (AllReadyH.cons (o := ?o_0_120) ?ho_0_120 (fun K hK => ?_) (AllReadyH.cons (o := ?o_12_120) ?ho_12_120 (fun K hK => ?_) AllReadyH.nil))
  case ho_0_120 => (simp only [List.getElem?_toArray, List.getElem?_cons_zero, List.getElem?_cons_succ]; rfl)
  case ho_12_120 => (simp only [List.getElem?_toArray, List.getElem?_cons_zero, List.getElem?_cons_succ]; rfl)
  clear hHeld
  focus (go_simp)
  refine hK.out _ _ ?hS_121 (fun hHeld => ?rest_121)
  case hS_121 => ((try dsimp only); go_keep)
  clear hK K
  try simp only [Act.put, List.setIfInBounds_toArray, List.set_cons_zero, List.set_cons_succ]
  refine wpAnyH_take (i := 4) (oi := ?oi_122) (v := ?v_122) ?hi_122 (by kernel_rfl) (by kernel_rfl) (by kernel_rfl) (fun _ _ _ h => h) (Or.inl ⟨?hw_122, ?hy_122⟩) (by assumption) ?rest_122
  case hi_122 => (simp only [List.getElem?_toArray, List.getElem?_cons_zero, List.getElem?_cons_succ]; rfl)
  case hw_122 => rfl
  case hy_122 => (intro w hSw; (try dsimp only at hSw); go_simp; try with_reducible rfl)
  try simp only [Act.put, List.setIfInBounds_toArray, List.set_cons_zero, List.set_cons_succ]
  refine wpAnyH_ready (rs := [5, 12]) (by kernel_rfl) (by simp) (AllReadyH.cons (o := ?o_5_123) ?ho_5_123 (fun K hK => ?_) (AllReadyH.cons (o := ?o_12_123) ?ho_12_123 (fun K hK => ?_) AllReadyH.nil))
  case ho_5_123 => (simp only [List.getElem?_toArray, List.getElem?_cons_zero, List.getElem?_cons_succ]; rfl)
  case ho_12_123 => (simp only [List.getElem?_toArray, List.getElem?_cons_zero, List.getElem?_cons_succ]; rfl)
  clear hHeld
  focus (go_simp)
  refine hK.out _ _ ?hS_124 (fun hHeld => ?rest_124)
  case hS_124 => ((try dsimp only); go_keep)
  clear hK K
  try simp only [Act.put, List.setIfInBounds_toArray, List.set_cons_zero, List.set_cons_succ]
  refine wpAnyH_ready (rs := [9, 12]) (by kernel_rfl) (by simp) (AllReadyH.cons (o := ?o_9_125) ?ho_9_125 (fun K hK => ?_) (AllReadyH.cons (o := ?o_12_125) ?ho_12_125 (fun K hK => ?_) AllReadyH.nil))
  case ho_9_125 => (simp only [List.getElem?_toArray, List.getElem?_cons_zero, List.getElem?_cons_succ]; rfl)
  case ho_12_125 => (simp only [List.getElem?_toArray, List.getElem?_cons_zero, List.getElem?_cons_succ]; rfl)
  clear hHeld
  focus (go_simp)
  refine hK.out _ _ ?hS_126 (fun hHeld => ?rest_126)
  case hS_126 => ((try dsimp only); go_keep)
  clear hK K
  try simp only [Act.put, List.setIfInBounds_toArray, List.set_cons_zero, List.set_cons_succ]
  refine wpAnyH_ready (rs := [12]) (by kernel_rfl) (by simp) (AllReadyH.cons (o := ?o_12_127) ?ho_12_127 (fun K hK => ?_) AllReadyH.nil)
  case ho_12_127 => (simp only [List.getElem?_toArray, List.getElem?_cons_zero, List.getElem?_cons_succ]; rfl)
  focus (go_simp)
  focus (first
    | (go_at_call 13; (first | (with_reducible refine (PA3 _).mono ?_) | (with_reducible refine (PB2 _).mono ?_)); rintro e w' ⟨rfl, rfl⟩)
    | (go_at_call 30; with_reducible refine (SW _).mono ?_; rintro e w9 ⟨rfl, hb9⟩; (first | (with_reducible have hT9 := HTd.out.later hb9; with_reducible have hR9 := HRd.out.later hb9; with_reducible have hX9 := HXd.out.later hb9; with_reducible have hF9 := HFd.out.later hb9; with_reducible have hB9 := btr HBd.out hb9; have u1 := hX9.cell 1 _ rfl; have u2 := hX9.cell 2 _ rfl; have w1 : w9.cell? ⟨w.heap.size + 3, pickN a 3, none⟩ = some (.string (exiN a)) := cell_getD (l := [[115, 117, 98, 106, 101, 99, 116], [116, 111], [99, 99]]) hF9 (pickN a 3) (by simp only [List.length_cons, List.length_nil]; omega); have v1 := (Bk.alloc hX9 (.cells #[.string (exiN a), .string (mkS (wordL (bs s)))] 9)).cell 1 _ rfl; have v2 := (Bk.alloc hX9 (.cells #[.string (exiN a), .string (mkS (wordL (bs s)))] 9)).cell 2 _ rfl; have v3 := (Bk.alloc hT9 (.cells #[.string (exiN a), .string (mkS (wordL (bs s)))] 9)).cell 3 _ rfl; have g3 := (Bk.alloc hT9 (.cells #[.string (exiN a), .string (mkS (wordL (bs s)))] 9)).frozen 3; clear hF9; have HFA := Lib.hid hb9) | (with_reducible have hT9 := HTe.out.later hb9; with_reducible have hR9 := HRe.out.later hb9; with_reducible have hX9 := HXe.out.later hb9; with_reducible have hB9 := btr HBe.out hb9; have u1 := hX9.cell 1 _ rfl; have u2 := hX9.cell 2 _ rfl; have v1 := (Bk.alloc hX9 (.cells #[.string ⟨#[115, 117, 98, 106, 101, 99, 116]⟩, .string ⟨#[116, 111]⟩, .string ⟨#[99, 99]⟩] 9)).cell 1 _ rfl; have v2 := (Bk.alloc hX9 (.cells #[.string ⟨#[115, 117, 98, 106, 101, 99, 116]⟩, .string ⟨#[116, 111]⟩, .string ⟨#[99, 99]⟩] 9)).cell 2 _ rfl; have t1 := (Bk.alloc (Bk.alloc hX9 (.cells #[.string ⟨#[115, 117, 98, 106, 101, 99, 116]⟩, .string ⟨#[116, 111]⟩, .string ⟨#[99, 99]⟩] 9)) (.cells #[.string (exiN a), .string (mkS (wordL (bs s)))] 9)).cell 1 _ rfl; have t2 := (Bk.alloc (Bk.alloc hX9 (.cells #[.string ⟨#[115, 117, 98, 106, 101, 99, 116]⟩, .string ⟨#[116, 111]⟩, .string ⟨#[99, 99]⟩] 9)) (.cells #[.string (exiN a), .string (mkS (wordL (bs s)))] 9)).cell 2 _ rfl; have v3 := (Bk.alloc (Bk.alloc hT9 (.cells #[.string ⟨#[115, 117, 98, 106, 101, 99, 116]⟩, .string ⟨#[116, 111]⟩, .string ⟨#[99, 99]⟩] 9)) (.cells #[.string (exiN a), .string (mkS (wordL (bs s)))] 9)).cell 3 _ rfl; have g3 := (Bk.alloc (Bk.alloc hT9 (.cells #[.string ⟨#[115, 117, 98, 106, 101, 99, 116]⟩, .string ⟨#[116, 111]⟩, .string ⟨#[99, 99]⟩] 9)) (.cells #[.string (exiN a), .string (mkS (wordL (bs s)))] 9)).frozen 3; have HFB := Lib.hid hb9)); have u3 := hX9.cell 3 _ rfl; have HT9 := Lib.hid hT9; have HR9 := Lib.hid hR9; have HB9 := Lib.hid hB9; clear hT9 hR9 hX9 hB9 hb9))
  focus (go_wp2_with fail)
  have hOld := hHeld
  clear hHeld
  refine hK.out _ _ ?hS_128 (fun hHeld => ?rest_128)
  case hS_128 => ((try dsimp only); go_keep)
  clear hK K hOld
  try simp only [Act.put, List.setIfInBounds_toArray, List.set_cons_zero, List.set_cons_succ]
  refine wpAnyH_take (i := 13) (oi := ?oi_129) (v := ?v_129) ?hi_129 (by kernel_rfl) (by kernel_rfl) (by kernel_rfl) (fun _ _ _ h => h) (Or.inl ⟨?hw_129, ?hy_129⟩) (by assumption) ?rest_129
  case hi_129 => (simp only [List.getElem?_toArray, List.getElem?_cons_zero, List.getElem?_cons_succ]; rfl)
  case hw_129 => rfl
  case hy_129 => (intro w hSw; (try dsimp only at hSw); go_simp; try with_reducible rfl)
  try simp only [Act.put, List.setIfInBounds_toArray, List.set_cons_zero, List.set_cons_succ]
  refine wpAnyH_take (i := 14) (oi := ?oi_130) (v := ?v_130) ?hi_130 (by kernel_rfl) (by kernel_rfl) (by kernel_rfl) (fun _ _ _ h => h) (Or.inl ⟨?hw_130, ?hy_130⟩) (by assumption) ?rest_130
  case hi_130 => (simp only [List.getElem?_toArray, List.getElem?_cons_zero, List.getElem?_cons_succ]; rfl)
  case hw_130 => rfl
  case hy_130 => (intro w hSw; (try dsimp only at hSw); go_simp; try with_reducible rfl)
  try simp only [Act.put, List.setIfInBounds_toArray, List.set_cons_zero, List.set_cons_succ]
  refine wpAnyH_take (i := 15) (oi := ?oi_131) (v := ?v_131) ?hi_131 (by kernel_rfl) (by kernel_rfl) (by kernel_rfl) (fun _ _ _ h => h) (Or.inl ⟨?hw_131, ?hy_131⟩) (by assumption) ?rest_131
  case hi_131 => (simp only [List.getElem?_toArray, List.getElem?_cons_zero, List.getElem?_cons_succ]; rfl)
  case hw_131 => rfl
  case hy_131 => (intro w hSw; (try dsimp only at hSw); go_simp; try with_reducible rfl)
  try simp only [Act.put, List.setIfInBounds_toArray, List.set_cons_zero, List.set_cons_succ]
  refine wpAnyH_ready (rs := [16]) (by kernel_rfl) (by simp) (AllReadyH.cons (o := ?o_16_132) ?ho_16_132 (fun K hK => ?_) AllReadyH.nil)
  case ho_16_132 => (simp only [List.getElem?_toArray, List.getElem?_cons_zero, List.getElem?_cons_succ]; rfl)
  clear hHeld
  focus (go_simp)
  refine hK.out _ _ ?hS_133 (fun hHeld => ?rest_133)
  case hS_133 => ((try dsimp only); go_keep)
  clear hK K
  try simp only [Act.put, List.setIfInBounds_toArray, List.set_cons_zero, List.set_cons_succ]
  refine wpAnyH_done (by kernel_rfl) ?_ _
  refine NoPanic.normal ?_
  rotate_left
  focus (go_simp)
  focus (first
    | (go_at_call 13; (first | (with_reducible refine (PA3 _).mono ?_) | (with_reducible refine (PB2 _).mono ?_)); rintro e w' ⟨rfl, rfl⟩)
    | (go_at_call 30; with_reducible refine (SW _).mono ?_; rintro e w9 ⟨rfl, hb9⟩; (first | (with_reducible have hT9 := HTd.out.later hb9; with_reducible have hR9 := HRd.out.later hb9; with_reducible have hX9 := HXd.out.later hb9; with_reducible have hF9 := HFd.out.later hb9; with_reducible have hB9 := btr HBd.out hb9; have u1 := hX9.cell 1 _ rfl; have u2 := hX9.cell 2 _ rfl; have w1 : w9.cell? ⟨w.heap.size + 3, pickN a 3, none⟩ = some (.string (exiN a)) := cell_getD (l := [[115, 117, 98, 106, 101, 99, 116], [116, 111], [99, 99]]) hF9 (pickN a 3) (by simp only [List.length_cons, List.length_nil]; omega); have v1 := (Bk.alloc hX9 (.cells #[.string (exiN a), .string (mkS (wordL (bs s)))] 9)).cell 1 _ rfl; have v2 := (Bk.alloc hX9 (.cells #[.string (exiN a), .string (mkS (wordL (bs s)))] 9)).cell 2 _ rfl; have v3 := (Bk.alloc hT9 (.cells #[.string (exiN a), .string (mkS (wordL (bs s)))] 9)).cell 3 _ rfl; have g3 := (Bk.alloc hT9 (.cells #[.string (exiN a), .string (mkS (wordL (bs s)))] 9)).frozen 3; clear hF9; have HFA := Lib.hid hb9) | (with_reducible have hT9 := HTe.out.later hb9; with_reducible have hR9 := HRe.out.later hb9; with_reducible have hX9 := HXe.out.later hb9; with_reducible have hB9 := btr HBe.out hb9; have u1 := hX9.cell 1 _ rfl; have u2 := hX9.cell 2 _ rfl; have v1 := (Bk.alloc hX9 (.cells #[.string ⟨#[115, 117, 98, 106, 101, 99, 116]⟩, .string ⟨#[116, 111]⟩, .string ⟨#[99, 99]⟩] 9)).cell 1 _ rfl; have v2 := (Bk.alloc hX9 (.cells #[.string ⟨#[115, 117, 98, 106, 101, 99, 116]⟩, .string ⟨#[116, 111]⟩, .string ⟨#[99, 99]⟩] 9)).cell 2 _ rfl; have t1 := (Bk.alloc (Bk.alloc hX9 (.cells #[.string ⟨#[115, 117, 98, 106, 101, 99, 116]⟩, .string ⟨#[116, 111]⟩, .string ⟨#[99, 99]⟩] 9)) (.cells #[.string (exiN a), .string (mkS (wordL (bs s)))] 9)).cell 1 _ rfl; have t2 := (Bk.alloc (Bk.alloc hX9 (.cells #[.string ⟨#[115, 117, 98, 106, 101, 99, 116]⟩, .string ⟨#[116, 111]⟩, .string ⟨#[99, 99]⟩] 9)) (.cells #[.string (exiN a), .string (mkS (wordL (bs s)))] 9)).cell 2 _ rfl; have v3 := (Bk.alloc (Bk.alloc hT9 (.cells #[.string ⟨#[115, 117, 98, 106, 101, 99, 116]⟩, .string ⟨#[116, 111]⟩, .string ⟨#[99, 99]⟩] 9)) (.cells #[.string (exiN a), .string (mkS (wordL (bs s)))] 9)).cell 3 _ rfl; have g3 := (Bk.alloc (Bk.alloc hT9 (.cells #[.string ⟨#[115, 117, 98, 106, 101, 99, 116]⟩, .string ⟨#[116, 111]⟩, .string ⟨#[99, 99]⟩] 9)) (.cells #[.string (exiN a), .string (mkS (wordL (bs s)))] 9)).frozen 3; have HFB := Lib.hid hb9)); have u3 := hX9.cell 3 _ rfl; have HT9 := Lib.hid hT9; have HR9 := Lib.hid hR9; have HB9 := Lib.hid hB9; clear hT9 hR9 hX9 hB9 hb9))
  focus (go_wp2_with fail)
  have hOld := hHeld
  clear hHeld
  refine hK.out _ _ ?hS_134 (fun hHeld => ?rest_134)
  case hS_134 => ((try dsimp only); go_keep)
  clear hK K hOld
  try simp only [Act.put, List.setIfInBounds_toArray, List.set_cons_zero, List.set_cons_succ]
  refine wpAnyH_take (i := 13) (oi := ?oi_135) (v := ?v_135) ?hi_135 (by kernel_rfl) (by kernel_rfl) (by kernel_rfl) (fun _ _ _ h => h) (Or.inl ⟨?hw_135, ?hy_135⟩) (by assumption) ?rest_135
  case hi_135 => (simp only [List.getElem?_toArray, List.getElem?_cons_zero, List.getElem?_cons_succ]; rfl)
  case hw_135 => rfl
  case hy_135 => (intro w hSw; (try dsimp only at hSw); go_simp; try with_reducible rfl)
  try simp only [Act.put, List.setIfInBounds_toArray, List.set_cons_zero, List.set_cons_succ]
  refine wpAnyH_ready (rs := [9]) (by kernel_rfl) (by simp) (AllReadyH.cons (o := ?o_9_136) ?ho_9_136 (fun K hK => ?_) AllReadyH.nil)
  case ho_9_136 => (simp only [List.getElem?_toArray, List.getElem?_cons_zero, List.getElem?_cons_succ]; rfl)
  clear hHeld
  focus (go_simp)
  refine hK.out _ _ ?hS_137 (fun hHeld => ?rest_137)
  case hS_137 => ((try dsimp only); go_keep)
  clear hK K
  try simp only [Act.put, List.setIfInBounds_toArray, List.set_cons_zero, List.set_cons_succ]
  refine wpAnyH_take (i := 14) (oi := ?oi_138) (v := ?v_138) ?hi_138 (by kernel_rfl) (by kernel_rfl) (by kernel_rfl) (fun _ _ _ h => h) (Or.inl ⟨?hw_138, ?hy_138⟩) (by assumption) ?rest_138
  case hi_138 => (simp only [List.getElem?_toArray, List.getElem?_cons_zero, List.getElem?_cons_succ]; rfl)
  case hw_138 => rfl
  case hy_138 => (intro w hSw; (try dsimp only at hSw); go_simp; try with_reducible rfl)
  try simp only [Act.put, List.setIfInBounds_toArray, List.set_cons_zero, List.set_cons_succ]
  refine wpAnyH_take (i := 15) (oi := ?oi_139) (v := ?v_139) ?hi_139 (by kernel_rfl) (by kernel_rfl) (by kernel_rfl) (fun _ _ _ h => h) (Or.inl ⟨?hw_139, ?hy_139⟩) (by assumption) ?rest_139
  case hi_139 => (simp only [List.getElem?_toArray, List.getElem?_cons_zero, List.getElem?_cons_succ]; rfl)
  case hw_139 => rfl
  case hy_139 => (intro w hSw; (try dsimp only at hSw); go_simp; try with_reducible rfl)
  try simp only [Act.put, List.setIfInBounds_toArray, List.set_cons_zero, List.set_cons_succ]
  refine wpAnyH_ready (rs := [16]) (by kernel_rfl) (by simp) (AllReadyH.cons (o := ?o_16_140) ?ho_16_140 (fun K hK => ?_) AllReadyH.nil)
  case ho_16_140 => (simp only [List.getElem?_toArray, List.getElem?_cons_zero, List.getElem?_cons_succ]; rfl)
  clear hHeld
  focus (go_simp)
  refine hK.out _ _ ?hS_141 (fun hHeld => ?rest_141)
  case hS_141 => ((try dsimp only); go_keep)
  clear hK K
  try simp only [Act.put, List.setIfInBounds_toArray, List.set_cons_zero, List.set_cons_succ]
  refine wpAnyH_done (by kernel_rfl) ?_ _
  refine NoPanic.normal ?_
  rotate_left
  focus (go_simp)
  focus (first
    | (go_at_call 13; (first | (with_reducible refine (PA3 _).mono ?_) | (with_reducible refine (PB2 _).mono ?_)); rintro e w' ⟨rfl, rfl⟩)
    | (go_at_call 30; with_reducible refine (SW _).mono ?_; rintro e w9 ⟨rfl, hb9⟩; (first | (with_reducible have hT9 := HTd.out.later hb9; with_reducible have hR9 := HRd.out.later hb9; with_reducible have hX9 := HXd.out.later hb9; with_reducible have hF9 := HFd.out.later hb9; with_reducible have hB9 := btr HBd.out hb9; have u1 := hX9.cell 1 _ rfl; have u2 := hX9.cell 2 _ rfl; have w1 : w9.cell? ⟨w.heap.size + 3, pickN a 3, none⟩ = some (.string (exiN a)) := cell_getD (l := [[115, 117, 98, 106, 101, 99, 116], [116, 111], [99, 99]]) hF9 (pickN a 3) (by simp only [List.length_cons, List.length_nil]; omega); have v1 := (Bk.alloc hX9 (.cells #[.string (exiN a), .string (mkS (wordL (bs s)))] 9)).cell 1 _ rfl; have v2 := (Bk.alloc hX9 (.cells #[.string (exiN a), .string (mkS (wordL (bs s)))] 9)).cell 2 _ rfl; have v3 := (Bk.alloc hT9 (.cells #[.string (exiN a), .string (mkS (wordL (bs s)))] 9)).cell 3 _ rfl; have g3 := (Bk.alloc hT9 (.cells #[.string (exiN a), .string (mkS (wordL (bs s)))] 9)).frozen 3; clear hF9; have HFA := Lib.hid hb9) | (with_reducible have hT9 := HTe.out.later hb9; with_reducible have hR9 := HRe.out.later hb9; with_reducible have hX9 := HXe.out.later hb9; with_reducible have hB9 := btr HBe.out hb9; have u1 := hX9.cell 1 _ rfl; have u2 := hX9.cell 2 _ rfl; have v1 := (Bk.alloc hX9 (.cells #[.string ⟨#[115, 117, 98, 106, 101, 99, 116]⟩, .string ⟨#[116, 111]⟩, .string ⟨#[99, 99]⟩] 9)).cell 1 _ rfl; have v2 := (Bk.alloc hX9 (.cells #[.string ⟨#[115, 117, 98, 106, 101, 99, 116]⟩, .string ⟨#[116, 111]⟩, .string ⟨#[99, 99]⟩] 9)).cell 2 _ rfl; have t1 := (Bk.alloc (Bk.alloc hX9 (.cells #[.string ⟨#[115, 117, 98, 106, 101, 99, 116]⟩, .string ⟨#[116, 111]⟩, .string ⟨#[99, 99]⟩] 9)) (.cells #[.string (exiN a), .string (mkS (wordL (bs s)))] 9)).cell 1 _ rfl; have t2 := (Bk.alloc (Bk.alloc hX9 (.cells #[.string ⟨#[115, 117, 98, 106, 101, 99, 116]⟩, .string ⟨#[116, 111]⟩, .string ⟨#[99, 99]⟩] 9)) (.cells #[.string (exiN a), .string (mkS (wordL (bs s)))] 9)).cell 2 _ rfl; have v3 := (Bk.alloc (Bk.alloc hT9 (.cells #[.string ⟨#[115, 117, 98, 106, 101, 99, 116]⟩, .string ⟨#[116, 111]⟩, .string ⟨#[99, 99]⟩] 9)) (.cells #[.string (exiN a), .string (mkS (wordL (bs s)))] 9)).cell 3 _ rfl; have g3 := (Bk.alloc (Bk.alloc hT9 (.cells #[.string ⟨#[115, 117, 98, 106, 101, 99, 116]⟩, .string ⟨#[116, 111]⟩, .string ⟨#[99, 99]⟩] 9)) (.cells #[.string (exiN a), .string (mkS (wordL (bs s)))] 9)).frozen 3; have HFB := Lib.hid hb9)); have u3 := hX9.cell 3 _ rfl; have HT9 := Lib.hid hT9; have HR9 := Lib.hid hR9; have HB9 := Lib.hid hB9; clear hT9 hR9 hX9 hB9 hb9))
  focus (go_wp2_with fail)
  have hOld := hHeld
  clear hHeld
  refine hK.out _ _ ?hS_142 (fun hHeld => ?rest_142)
  case hS_142 => ((try dsimp only); go_keep)
  clear hK K hOld
  try simp only [Act.put, List.setIfInBounds_toArray, List.set_cons_zero, List.set_cons_succ]
  refine wpAnyH_take (i := 13) (oi := ?oi_143) (v := ?v_143) ?hi_143 (by kernel_rfl) (by kernel_rfl) (by kernel_rfl) (fun _ _ _ h => h) (Or.inl ⟨?hw_143, ?hy_143⟩) (by assumption) ?rest_143
  case hi_143 => (simp only [List.getElem?_toArray, List.getElem?_cons_zero, List.getElem?_cons_succ]; rfl)
  case hw_143 => rfl
  case hy_143 => (intro w hSw; (try dsimp only at hSw); go_simp; try with_reducible rfl)
  try simp only [Act.put, List.setIfInBounds_toArray, List.set_cons_zero, List.set_cons_succ]
  refine wpAnyH_ready (rs := [5]) (by kernel_rfl) (by simp) (AllReadyH.cons (o := ?o_5_144) ?ho_5_144 (fun K hK => ?_) AllReadyH.nil)
  case ho_5_144 => (simp only [List.getElem?_toArray, List.getElem?_cons_zero, List.getElem?_cons_succ]; rfl)
  clear hHeld
  focus (go_simp)
  refine hK.out _ _ ?hS_145 (fun hHeld => ?rest_145)
  case hS_145 => ((try dsimp only); go_keep)
  clear hK K
  try simp only [Act.put, List.setIfInBounds_toArray, List.set_cons_zero, List.set_cons_succ]
  refine wpAnyH_ready (rs := [9]) (by kernel_rfl) (by simp) (AllReadyH.cons (o := ?o_9_146) ?ho_9_146 (fun K hK => ?_) AllReadyH.nil)
  case ho_9_146 => (simp only [List.getElem?_toArray, List.getElem?_cons_zero, List.getElem?_cons_succ]; rfl)
  clear hHeld
  focus (go_simp)
  refine hK.out _ _ ?hS_147 (fun hHeld => ?rest_147)
  case hS_147 => ((try dsimp only); go_keep)
  clear hK K
  try simp only [Act.put, List.setIfInBounds_toArray, List.set_cons_zero, List.set_cons_succ]
  refine wpAnyH_take (i := 14) (oi := ?oi_148) (v := ?v_148) ?hi_148 (by kernel_rfl) (by kernel_rfl) (by kernel_rfl) (fun _ _ _ h => h) (Or.inl ⟨?hw_148, ?hy_148⟩) (by assumption) ?rest_148
  case hi_148 => (simp only [List.getElem?_toArray, List.getElem?_cons_zero, List.getElem?_cons_succ]; rfl)
  case hw_148 => rfl
  case hy_148 => (intro w hSw; (try dsimp only at hSw); go_simp; try with_reducible rfl)
  try simp only [Act.put, List.setIfInBounds_toArray, List.set_cons_zero, List.set_cons_succ]
  refine wpAnyH_take (i := 15) (oi := ?oi_149) (v := ?v_149) ?hi_149 (by kernel_rfl) (by kernel_rfl) (by kernel_rfl) (fun _ _ _ h => h) (Or.inl ⟨?hw_149, ?hy_149⟩) (by assumption) ?rest_149
  case hi_149 => (simp only [List.getElem?_toArray, List.getElem?_cons_zero, List.getElem?_cons_succ]; rfl)
  case hw_149 => rfl
  case hy_149 => (intro w hSw; (try dsimp only at hSw); go_simp; try with_reducible rfl)
  try simp only [Act.put, List.setIfInBounds_toArray, List.set_cons_zero, List.set_cons_succ]
  refine wpAnyH_ready (rs := [16]) (by kernel_rfl) (by simp) (AllReadyH.cons (o := ?o_16_150) ?ho_16_150 (fun K hK => ?_) AllReadyH.nil)
  case ho_16_150 => (simp only [List.getElem?_toArray, List.getElem?_cons_zero, List.getElem?_cons_succ]; rfl)
  clear hHeld
  focus (go_simp)
  refine hK.out _ _ ?hS_151 (fun hHeld => ?rest_151)
  case hS_151 => ((try dsimp only); go_keep)
  clear hK K
  try simp only [Act.put, List.setIfInBounds_toArray, List.set_cons_zero, List.set_cons_succ]
  refine wpAnyH_done (by kernel_rfl) ?_ _
  refine NoPanic.normal ?_
  rotate_left
  focus (go_simp)
  focus (first
    | (go_at_call 13; (first | (with_reducible refine (PA3 _).mono ?_) | (with_reducible refine (PB2 _).mono ?_)); rintro e w' ⟨rfl, rfl⟩)
    | (go_at_call 30; with_reducible refine (SW _).mono ?_; rintro e w9 ⟨rfl, hb9⟩; (first | (with_reducible have hT9 := HTd.out.later hb9; with_reducible have hR9 := HRd.out.later hb9; with_reducible have hX9 := HXd.out.later hb9; with_reducible have hF9 := HFd.out.later hb9; with_reducible have hB9 := btr HBd.out hb9; have u1 := hX9.cell 1 _ rfl; have u2 := hX9.cell 2 _ rfl; have w1 : w9.cell? ⟨w.heap.size + 3, pickN a 3, none⟩ = some (.string (exiN a)) := cell_getD (l := [[115, 117, 98, 106, 101, 99, 116], [116, 111], [99, 99]]) hF9 (pickN a 3) (by simp only [List.length_cons, List.length_nil]; omega); have v1 := (Bk.alloc hX9 (.cells #[.string (exiN a), .string (mkS (wordL (bs s)))] 9)).cell 1 _ rfl; have v2 := (Bk.alloc hX9 (.cells #[.string (exiN a), .string (mkS (wordL (bs s)))] 9)).cell 2 _ rfl; have v3 := (Bk.alloc hT9 (.cells #[.string (exiN a), .string (mkS (wordL (bs s)))] 9)).cell 3 _ rfl; have g3 := (Bk.alloc hT9 (.cells #[.string (exiN a), .string (mkS (wordL (bs s)))] 9)).frozen 3; clear hF9; have HFA := Lib.hid hb9) | (with_reducible have hT9 := HTe.out.later hb9; with_reducible have hR9 := HRe.out.later hb9; with_reducible have hX9 := HXe.out.later hb9; with_reducible have hB9 := btr HBe.out hb9; have u1 := hX9.cell 1 _ rfl; have u2 := hX9.cell 2 _ rfl; have v1 := (Bk.alloc hX9 (.cells #[.string ⟨#[115, 117, 98, 106, 101, 99, 116]⟩, .string ⟨#[116, 111]⟩, .string ⟨#[99, 99]⟩] 9)).cell 1 _ rfl; have v2 := (Bk.alloc hX9 (.cells #[.string ⟨#[115, 117, 98, 106, 101, 99, 116]⟩, .string ⟨#[116, 111]⟩, .string ⟨#[99, 99]⟩] 9)).cell 2 _ rfl; have t1 := (Bk.alloc (Bk.alloc hX9 (.cells #[.string ⟨#[115, 117, 98, 106, 101, 99, 116]⟩, .string ⟨#[116, 111]⟩, .string ⟨#[99, 99]⟩] 9)) (.cells #[.string (exiN a), .string (mkS (wordL (bs s)))] 9)).cell 1 _ rfl; have t2 := (Bk.alloc (Bk.alloc hX9 (.cells #[.string ⟨#[115, 117, 98, 106, 101, 99, 116]⟩, .string ⟨#[116, 111]⟩, .string ⟨#[99, 99]⟩] 9)) (.cells #[.string (exiN a), .string (mkS (wordL (bs s)))] 9)).cell 2 _ rfl; have v3 := (Bk.alloc (Bk.alloc hT9 (.cells #[.string ⟨#[115, 117, 98, 106, 101, 99, 116]⟩, .string ⟨#[116, 111]⟩, .string ⟨#[99, 99]⟩] 9)) (.cells #[.string (exiN a), .string (mkS (wordL (bs s)))] 9)).cell 3 _ rfl; have g3 := (Bk.alloc (Bk.alloc hT9 (.cells #[.string ⟨#[115, 117, 98, 106, 101, 99, 116]⟩, .string ⟨#[116, 111]⟩, .string ⟨#[99, 99]⟩] 9)) (.cells #[.string (exiN a), .string (mkS (wordL (bs s)))] 9)).frozen 3; have HFB := Lib.hid hb9)); have u3 := hX9.cell 3 _ rfl; have HT9 := Lib.hid hT9; have HR9 := Lib.hid hR9; have HB9 := Lib.hid hB9; clear hT9 hR9 hX9 hB9 hb9))
  focus (go_wp2_with fail)
  have hOld := hHeld
  clear hHeld
  refine hK.out _ _ ?hS_152 (fun hHeld => ?rest_152)
  case hS_152 => ((try dsimp only); go_keep)
  clear hK K hOld
  try simp only [Act.put, List.setIfInBounds_toArray, List.set_cons_zero, List.set_cons_succ]
  refine wpAnyH_take (i := 13) (oi := ?oi_153) (v := ?v_153) ?hi_153 (by kernel_rfl) (by kernel_rfl) (by kernel_rfl) (fun _ _ _ h => h) (Or.inl ⟨?hw_153, ?hy_153⟩) (by assumption) ?rest_153
  case hi_153 => (simp only [List.getElem?_toArray, List.getElem?_cons_zero, List.getElem?_cons_succ]; rfl)
  case hw_153 => rfl
  case hy_153 => (intro w hSw; (try dsimp only at hSw); go_simp; try with_reducible rfl)
  try simp only [Act.put, List.setIfInBounds_toArray, List.set_cons_zero, List.set_cons_succ]
  refine wpAnyH_ready (rs := [0]) (by kernel_rfl) (by simp) (AllReadyH.cons (o := ?o_0_154) ?ho_0_154 (fun K hK => ?_) AllReadyH.nil)
  case ho_0_154 => (simp only [List.getElem?_toArray, List.getElem?_cons_zero, List.getElem?_cons_succ]; rfl)
  clear hHeld
  focus (go_simp)
  refine hK.out _ _ ?hS_155 (fun hHeld => ?rest_155)
  case hS_155 => ((try dsimp only); go_keep)
  clear hK K
  try simp only [Act.put, List.setIfInBounds_toArray, List.set_cons_zero, List.set_cons_succ]
  refine wpAnyH_take (i := 4) (oi := ?oi_156) (v := ?v_156) ?hi_156 (by kernel_rfl) (by kernel_rfl) (by kernel_rfl) (fun _ _ _ h => h) (Or.inl ⟨?hw_156, ?hy_156⟩) (by assumption) ?rest_156
  case hi_156 => (simp only [List.getElem?_toArray, List.getElem?_cons_zero, List.getElem?_cons_succ]; rfl)
  case hw_156 => rfl
  case hy_156 => (intro w hSw; (try dsimp only at hSw); go_simp; try with_reducible rfl)
  try simp only [Act.put, List.setIfInBounds_toArray, List.set_cons_zero, List.set_cons_succ]
  refine wpAnyH_ready (rs := [5]) (by kernel_rfl) (by simp) (AllReadyH.cons (o := ?o_5_157) ?ho_5_157 (fun K hK => ?_) AllReadyH.nil)
  case ho_5_157 => (simp only [List.getElem?_toArray, List.getElem?_cons_zero, List.getElem?_cons_succ]; rfl)
  clear hHeld
  focus (go_simp)
  refine hK.out _ _ ?hS_158 (fun hHeld => ?rest_158)
  case hS_158 => ((try dsimp only); go_keep)
  clear hK K
  try simp only [Act.put, List.setIfInBounds_toArray, List.set_cons_zero, List.set_cons_succ]
  refine wpAnyH_ready (rs := [9]) (by kernel_rfl) (by simp) (AllReadyH.cons (o := ?o_9_159) ?ho_9_159 (fun K hK => ?_) AllReadyH.nil)
  case ho_9_159 => (simp only [List.getElem?_toArray, List.getElem?_cons_zero, List.getElem?_cons_succ]; rfl)
  clear hHeld
  focus (go_simp)
  refine hK.out _ _ ?hS_160 (fun hHeld => ?rest_160)
  case hS_160 => ((try dsimp only); go_keep)
  clear hK K
  try simp only [Act.put, List.setIfInBounds_toArray, List.set_cons_zero, List.set_cons_succ]
  refine wpAnyH_take (i := 14) (oi := ?oi_161) (v := ?v_161) ?hi_161 (by kernel_rfl) (by kernel_rfl) (by kernel_rfl) (fun _ _ _ h => h) (Or.inl ⟨?hw_161, ?hy_161⟩) (by assumption) ?rest_161
  case hi_161 => (simp only [List.getElem?_toArray, List.getElem?_cons_zero, List.getElem?_cons_succ]; rfl)
  case hw_161 => rfl
  case hy_161 => (intro w hSw; (try dsimp only at hSw); go_simp; try with_reducible rfl)
  try simp only [Act.put, List.setIfInBounds_toArray, List.set_cons_zero, List.set_cons_succ]
  refine wpAnyH_take (i := 15) (oi := ?oi_162) (v := ?v_162) ?hi_162 (by kernel_rfl) (by kernel_rfl) (by kernel_rfl) (fun _ _ _ h => h) (Or.inl ⟨?hw_162, ?hy_162⟩) (by assumption) ?rest_162
  case hi_162 => (simp only [List.getElem?_toArray, List.getElem?_cons_zero, List.getElem?_cons_succ]; rfl)
  case hw_162 => rfl
  case hy_162 => (intro w hSw; (try dsimp only at hSw); go_simp; try with_reducible rfl)
  try simp only [Act.put, List.setIfInBounds_toArray, List.set_cons_zero, List.set_cons_succ]
  refine wpAnyH_ready (rs := [16]) (by kernel_rfl) (by simp) (AllReadyH.cons (o := ?o_16_163) ?ho_16_163 (fun K hK => ?_) AllReadyH.nil)
  case ho_16_163 => (simp only [List.getElem?_toArray, List.getElem?_cons_zero, List.getElem?_cons_succ]; rfl)
  clear hHeld
  focus (go_simp)
  refine hK.out _ _ ?hS_164 (fun hHeld => ?rest_164)
  case hS_164 => ((try dsimp only); go_keep)
  clear hK K
  try simp only [Act.put, List.setIfInBounds_toArray, List.set_cons_zero, List.set_cons_succ]
  refine wpAnyH_done (by kernel_rfl) ?_ _
  refine NoPanic.normal ?_
  rotate_left
  all_goals (
    first
      | (have hmark := HFA; clear hmark; obtain ⟨hT10, hR10, hP10, hB10, hpb⟩ := fin9 (T' := [.int .i64 9, .int .i64 0, .int .i64 0, .slice (some ⟨w9.heap.size, 0, none⟩) (1 + pickN b 2) 2, .slice none 0 0, .bool false, .int .i64 0, .slice none 0 0]) (P := [.string (exiN a), .string (mkS (wordL (bs s)))]) (tS := 9) HT9.out HR9.out HB9.out (show (w9).heap.size = w9.heap.size by simp) (show w.heap.size + 2 ≠ w.heap.size + 1 by omega) (Nat.le_add_right _ _) 3 (.slice (some ⟨w9.heap.size, 0, none⟩) (1 + pickN b 2) 2) rfl; have HT10 := Lib.hid hT10; have HR10 := Lib.hid hR10; have HP10 := Lib.hid hP10; have HB10 := Lib.hid hB10; clear hT10 hR10 hP10 hB10 HT9 HR9 HB9; generalize (w9.alloc (.cells #[.string (exiN a), .string (mkS (wordL (bs s)))] 9)).setCell ⟨w.heap.size + 2, 3, none⟩ (.slice (some ⟨w9.heap.size, 0, none⟩) (1 + pickN b 2) 2) = w10 at *; clear u1 u2 u3 v1 v2 v3 g3 w1 HFA; generalize w9.heap.size = pb at *)
      | (have hmark := HFB; clear hmark; obtain ⟨hT10, hR10, hP10, hB10, hpb⟩ := fin9 (T' := [.int .i64 9, .int .i64 0, .int .i64 0, .slice (some ⟨w9.heap.size + 1, 0, none⟩) (1 + pickN b 2) 2, .slice none 0 0, .bool false, .int .i64 0, .slice none 0 0]) (P := [.string (exiN a), .string (mkS (wordL (bs s)))]) (tS := 9) (Bk.alloc HT9.out (.cells #[.string ⟨#[115, 117, 98, 106, 101, 99, 116]⟩, .string ⟨#[116, 111]⟩, .string ⟨#[99, 99]⟩] 9)) (Bk.alloc HR9.out (.cells #[.string ⟨#[115, 117, 98, 106, 101, 99, 116]⟩, .string ⟨#[116, 111]⟩, .string ⟨#[99, 99]⟩] 9)) (bal HB9.out (.cells #[.string ⟨#[115, 117, 98, 106, 101, 99, 116]⟩, .string ⟨#[116, 111]⟩, .string ⟨#[99, 99]⟩] 9)) (show ((w9.alloc (.cells #[.string ⟨#[115, 117, 98, 106, 101, 99, 116]⟩, .string ⟨#[116, 111]⟩, .string ⟨#[99, 99]⟩] 9))).heap.size = w9.heap.size + 1 by simp) (show w.heap.size + 2 ≠ w.heap.size + 1 by omega) (Nat.le_add_right _ _) 3 (.slice (some ⟨w9.heap.size + 1, 0, none⟩) (1 + pickN b 2) 2) rfl; have HT10 := Lib.hid hT10; have HR10 := Lib.hid hR10; have HP10 := Lib.hid hP10; have HB10 := Lib.hid hB10; clear hT10 hR10 hP10 hB10 HT9 HR9 HB9; generalize ((w9.alloc (.cells #[.string ⟨#[115, 117, 98, 106, 101, 99, 116]⟩, .string ⟨#[116, 111]⟩, .string ⟨#[99, 99]⟩] 9)).alloc (.cells #[.string (exiN a), .string (mkS (wordL (bs s)))] 9)).setCell ⟨w.heap.size + 2, 3, none⟩ (.slice (some ⟨w9.heap.size + 1, 0, none⟩) (1 + pickN b 2) 2) = w10 at *; clear u1 u2 u3 v1 v2 v3 g3 t1 t2 HFB; generalize w9.heap.size + 1 = pb at *)
    go_upto_region 37 with fail
    have x0 := HT10.out.cell 0 _ rfl
    have x1 := HT10.out.cell 1 _ rfl
    have x2 := HT10.out.cell 2 _ rfl
    have x3 := HT10.out.cell 3 _ rfl
    have x4 := HT10.out.cell 4 _ rfl
    have x5 := HT10.out.cell 5 _ rfl
    have x6 := HT10.out.cell 6 _ rfl
    have x7 := HT10.out.cell 7 _ rfl
    have f0 := HR10.out.frozen 0
    have y0 := HR10.out.cell 0 _ rfl
    have f1 := HR10.out.frozen 1
    have y1 := HR10.out.cell 1 _ rfl
    have f2 := HR10.out.frozen 2
    have y2 := HR10.out.cell 2 _ rfl
    have f3 := HR10.out.frozen 3
    have y3 := HR10.out.cell 3 _ rfl
    have f4 := HR10.out.frozen 4
    have y4 := HR10.out.cell 4 _ rfl
    have f5 := HR10.out.frozen 5
    have y5 := HR10.out.cell 5 _ rfl
    have f6 := HR10.out.frozen 6
    have y6 := HR10.out.cell 6 _ rfl
    have f7 := HR10.out.frozen 7
    have y7 := HR10.out.cell 7 _ rfl
    go_wp2_with fail
    have hbk := bk_eq (cs' := [.int .i64 9, .int .i64 0, .int .i64 0, .slice (some ⟨pb, 0, none⟩) (1 + pickN b 2) 2, .slice none 0 0, .bool false, .int .i64 0, .slice none 0 0]) (Bk.set (Bk.set (Bk.set (Bk.set (Bk.set (Bk.set (Bk.set (Bk.set HR10.out 0 _) 1 _) 2 _) 3 _) 4 _) 5 _) 6 _) 7 _) rfl
    refine bodyPost_ret (results_cell_row rfl _ _ (w.heap.size + 1) 31 #[.int .i64 9, .int .i64 0, .int .i64 0, .slice (some ⟨pb, 0, none⟩) (1 + pickN b 2) 2, .slice none 0 0, .bool false, .int .i64 0, .slice none 0 0] (0, 0) _ rfl hbk Tryd.underlying31 rfl (by kernel_rfl)) rfl ⟨[.int .i64 9, .int .i64 0, .int .i64 0, .slice (some ⟨pb, 0, none⟩) (1 + pickN b 2) 2, .slice none 0 0, .bool false, .int .i64 0, .slice none 0 0], rfl, fun W hN => ?_, ?_⟩
    · show TestV W (.mk 9 0 0 (namesE a b s) [] false 0 []) _
      unfold TestV
      refine ⟨some ⟨pb, 0, none⟩, 2, none, 0, none, 0, ?_, namesE_at (Bk.neu (Bk.other (Bk.other (Bk.other (Bk.other (Bk.other (Bk.other (Bk.other (Bk.other HP10.out (by omega) 0 _) (by omega) 1 _) (by omega) 2 _) (by omega) 3 _) (by omega) 4 _) (by omega) 5 _) (by omega) 6 _) (by omega) 7 _) hN (by omega)), .inl rfl, by unfold TestsAt; trivial, ?_⟩
      · rw [namesE_size]; rfl
      · rw [namesE_size]; simp; omega
    · exact (Below.setCell (Below.setCell (Below.setCell (Below.setCell (Below.setCell (Below.setCell (Below.setCell (Below.setCell HB10.out (Nat.le_add_right _ _) _) (Nat.le_add_right _ _) _) (Nat.le_add_right _ _) _) (Nat.le_add_right _ _) _) (Nat.le_add_right _ _) _) (Nat.le_add_right _ _) _) (Nat.le_add_right _ _) _) (Nat.le_add_right _ _) _))
end Go.Proofs.YtgmnoemkdigafaaDoor
