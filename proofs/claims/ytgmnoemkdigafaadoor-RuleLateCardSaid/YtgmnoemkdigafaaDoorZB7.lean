/- script.checkTest at a test whose parts may be: k = 6 ∨ k = 7 ∨ k = 8 ∨ k = 9 ∨ k = 10. -/
import Derived.Test.YtgmnoemkdigafaaDoorZB1
import Derived.Deep.DeepCutAuto
import Derived.Deep.CutBlock
namespace Go.Proofs.YtgmnoemkdigafaaDoor
open Go.RowKit
set_option linter.unusedVariables false

set_option maxRecDepth 100000 in
set_option maxHeartbeats 8000000 in
theorem checkTest_B (k m p : Int) (ns ks : List ByteArray) (o : Bool) (lm : Int) (ts : List Tst) (hk : k = 6 ∨ k = 7 ∨ k = 8 ∨ k = 9 ∨ k = 10) (hok : okT (.mk k m p ns ks o lm ts)) (d : Int) (vs : List Value) (w : World) (hd0 : 0 ≤ d) (hd7 : d ≤ 7) (hv : TestV w (.mk k m p ns ks o lm ts) vs) :
    Calls Tryd.prog 63 #[.agg vs.toArray, .int .i64 d] w fun e w' => e = .returned (.int .i64 (chkT (.mk k m p ns ks o lm ts) d)) ∧ Below w.heap.size w w' := by
  have hr := chkT_ok hok d
  rw [hr]
  generalize hres : (if 6 < d then (1 : Int) else chkTs ts (d + 1)) = res at *
  have Hres := Lib.hid hres
  clear hr hres
  unfold okT at hok
  obtain ⟨hk1, hk10, hf, hts⟩ := hok
  have hff := form_facts hf
  unfold TestV at hv
  obtain ⟨An, cn, Ak, ck, At, ct, rfl, hn, hks, hta, hle⟩ := hv
  have hb1 : Below w.heap.size w (w.alloc (.cells #[.int .i64 k, .int .i64 m, .int .i64 p, .slice An ns.length cn, .slice Ak ks.length ck, .bool o, .int .i64 lm, .slice At ts.length ct] 31)) := bal (Below.refl _ w) _
  have hT := Bk.new w [.int .i64 k, .int .i64 m, .int .i64 p, .slice An ns.length cn, .slice Ak ks.length ck, .bool o, .int .i64 lm, .slice At ts.length ct] 31
  have hts0 : ts = [] := List.length_eq_zero_iff.1 (hff.2.2.2.2.2.2.2.2.2.2 (by omega))
  have HT := Lib.hid hT
  have Hb1 := Lib.hid hb1
  have Hff := Lib.hid hff
  have hln : ns.length ≤ 1000000 ∧ ks.length ≤ 1000000 ∧ ts.length ≤ 1000000 := ⟨hle.2.2.2.1, hle.2.2.2.2.1, hle.2.2.2.2.2⟩
  clear hta hT hb1 hff hf hn hks hle hts
  have Hts0 := Lib.hid hts0
  clear hts0
  have q1 : ¬ k < 1 := by omega
  have q10 : ¬ 10 < k := by omega
  go_enter Tryd.func63, Tryd.ntmps63
  go_upto_region 1 with fail
  generalize w.alloc (.cells #[.int .i64 k, .int .i64 m, .int .i64 p, .slice An ns.length cn, .slice Ak ks.length ck, .bool o, .int .i64 lm, .slice At ts.length ct] 31) = w1 at *
  have x0 := HT.out.cell 0 _ rfl
  by_cases h6 : 6 < d
  · have hr1 : res = 1 := by rw [← Hres.out, if_pos h6]
    subst hr1
    go_wp2_with fail
    go_ret
    exact ⟨rfl, Hb1.out⟩
  · go_upto_region 5 with fail
    have hX := Bk.new w1 [.int .i64 k, .int .i64 0, .int .i64 0, .slice none 0 0, .slice none 0 0, .bool false, .int .i64 0, .slice none 0 0] 31
    have hb2 : Below w1.heap.size w1 (w1.alloc (.cells #[.int .i64 k, .int .i64 0, .int .i64 0, .slice none 0 0, .slice none 0 0, .bool false, .int .i64 0, .slice none 0 0] 31)) := bal (Below.refl _ _) _
    have hlT := HT.out.lt
    have HX := Lib.hid hX
    have HT2 := Lib.hid (HT.out.later hb2)
    have Hb2 := Lib.hid (btr Hb1.out hb2)
    have hlw := Hb1.out.size
    clear hX hb2
    go_upto_region 6 with fail
    generalize w1.alloc (.cells #[.int .i64 k, .int .i64 0, .int .i64 0, .slice none 0 0, .slice none 0 0, .bool false, .int .i64 0, .slice none 0 0] 31) = w2 at *
    clear x0
    have x0 := HT2.out.cell 0 _ rfl
    have x1 := HT2.out.cell 1 _ rfl
    have x2 := HT2.out.cell 2 _ rfl
    have x3 := HT2.out.cell 3 _ rfl
    have x4 := HT2.out.cell 4 _ rfl
    have x5 := HT2.out.cell 5 _ rfl
    have x6 := HT2.out.cell 6 _ rfl
    have x7 := HT2.out.cell 7 _ rfl
    go_upto_block 0 with fail
    go_cut [6] from 25 to 118 (fun ok wx => ok = .bool true ∧ ∃ A1 c1 A2 c2, Hid (Bk wx w1.heap.size [.int .i64 k, .int .i64 m, .int .i64 p, .slice A1 ns.length c1, .slice A2 ks.length c2, .bool o, .int .i64 lm, .slice none 0 0] 31) ∧ Hid (Bk wx w.heap.size [.int .i64 k, .int .i64 m, .int .i64 p, .slice An ns.length cn, .slice Ak ks.length ck, .bool o, .int .i64 lm, .slice At ts.length ct] 31) ∧ Hid (Below w.heap.size w wx))
    case first =>
      obtain ⟨f3, f45, f68, f78, f9, f10, g9, g8, g7, g10, g5⟩ := Hff.out
      rcases hk with rfl | rfl | rfl | rfl | rfl
      · -- kind 6
        obtain ⟨m1, m3, hn0, hk0⟩ := f68 (by decide)
        obtain ⟨eo, el⟩ := g10 (by decide)
        have hn1 : (0 : Int) < (ns.length : Int) := by omega
        have hk1 : (0 : Int) < (ks.length : Int) := by omega
        have ep := g7 (by decide)
        have Hep := Lib.hid ep
        have Heo := Lib.hid eo
        have Hel := Lib.hid el
        clear ep eo el
        clear f3 f45 f68 f78 f9 f10 g9 g8 g7 g10 g5
        have hne : w1.heap.size ≠ w.heap.size := by omega
        go_upto_region 19 with fail
        have hX3 := HX.out
        clear x0 x1 x2 x3 x4 x5 x6 x7
        have hT3 := HT2.out
        have f1 := hX3.frozen 1
        have y1 := hX3.cell 1 _ rfl
        have f3 := hX3.frozen 3
        have y3 := hX3.cell 3 _ rfl
        have f4 := hX3.frozen 4
        have y4 := hX3.cell 4 _ rfl
        have HX4 := Lib.hid hX3
        have HT4 := Lib.hid hT3
        have Hmk := Lib.hid (fun (W : World) (h : Bk W w.heap.size [.int .i64 6, .int .i64 m, .int .i64 p, .slice An ns.length cn, .slice Ak ks.length ck, .bool o, .int .i64 lm, .slice At ts.length ct] 31) => And.intro (h.cell 1 _ rfl) (And.intro (h.cell 3 _ rfl) (h.cell 4 _ rfl)))
        clear hX3 hT3
        go_region_held3 (fun W => W.cell? ⟨w.heap.size, 1, none⟩ = some (.int .i64 m) ∧ W.cell? ⟨w.heap.size, 3, none⟩ = some (.slice An ns.length cn) ∧ W.cell? ⟨w.heap.size, 4, none⟩ = some (.slice Ak ks.length ck)) (first | (with_reducible exact Hmk.out _ (HT4.out.later (bdr _))) | (with_reducible exact Hmk.out _ ((Bk.other HT4.out hne _ _).later (bdr _))) | (with_reducible exact Hmk.out _ ((Bk.other (Bk.other HT4.out hne _ _) hne _ _).later (bdr _))) | (with_reducible exact Hmk.out _ ((Bk.other (Bk.other (Bk.other HT4.out hne _ _) hne _ _) hne _ _).later (bdr _)))) (fail)
        all_goals (
          go_wp2_with fail
          go_meet
          refine ⟨by first | rfl | (simp; omega), An, cn, Ak, ck, Lib.hid ?_, Lib.hid ?_, Lib.hid ?_⟩
          · rw [Hep.out, Heo.out, Hel.out]
            first | ((with_reducible refine bk_eq ((Bk.set (Bk.set (Bk.set HX4.out 1 _) 3 _) 4 _).later (bdr _)) ?_); rfl) | ((with_reducible refine bk_eq ((Bk.set (Bk.set (Bk.set HX4.out 1 _) 4 _) 3 _).later (bdr _)) ?_); rfl) | ((with_reducible refine bk_eq ((Bk.set (Bk.set (Bk.set HX4.out 3 _) 1 _) 4 _).later (bdr _)) ?_); rfl) | ((with_reducible refine bk_eq ((Bk.set (Bk.set (Bk.set HX4.out 3 _) 4 _) 1 _).later (bdr _)) ?_); rfl) | ((with_reducible refine bk_eq ((Bk.set (Bk.set (Bk.set HX4.out 4 _) 1 _) 3 _).later (bdr _)) ?_); rfl) | ((with_reducible refine bk_eq ((Bk.set (Bk.set (Bk.set HX4.out 4 _) 3 _) 1 _).later (bdr _)) ?_); rfl)
          · with_reducible exact (Bk.other (Bk.other (Bk.other HT4.out hne _ _) hne _ _) hne _ _).later (bdr _)
          · with_reducible exact bel3 hlw Hb2.out)
      · -- kind 7
        obtain ⟨m1, m3, hn0, hk0⟩ := f68 (by decide)
        obtain ⟨eo, el⟩ := g10 (by decide)
        have hn1 : (0 : Int) < (ns.length : Int) := by omega
        have hk1 : (0 : Int) < (ks.length : Int) := by omega
        obtain ⟨p1, p3⟩ := f78 (by decide)
        have Heo := Lib.hid eo
        have Hel := Lib.hid el
        clear eo el
        clear f3 f45 f68 f78 f9 f10 g9 g8 g7 g10 g5
        have hne : w1.heap.size ≠ w.heap.size := by omega
        have fz := HX.out.frozen 2
        have y2 := HX.out.cell 2 _ rfl
        go_upto_region 19 with fail
        have HX3 := Lib.hid (HX.out.set 2 (.int .i64 p))
        have HT3 := Lib.hid (HT2.out.other (c := w1.heap.size) hne 2 (.int .i64 p))
        have Hb3 := Lib.hid (Hb2.out.setCell (p := ⟨w1.heap.size, 2, none⟩) hlw (.int .i64 p))
        generalize w2.setCell ⟨w1.heap.size, 2, none⟩ (.int .i64 p) = w3 at *
        clear HX HT2 Hb2 x0 x1 x2 x3 x4 x5 x6 x7 fz y2
        have hX3 : Bk w3 w1.heap.size [.int .i64 7, .int .i64 0, .int .i64 p, .slice none 0 0, .slice none 0 0, .bool false, .int .i64 0, .slice none 0 0] 31 := HX3.out
        have hT3 := HT3.out
        have f1 := hX3.frozen 1
        have y1 := hX3.cell 1 _ rfl
        have f3 := hX3.frozen 3
        have y3 := hX3.cell 3 _ rfl
        have f4 := hX3.frozen 4
        have y4 := hX3.cell 4 _ rfl
        have HX4 := Lib.hid hX3
        have HT4 := Lib.hid hT3
        have Hmk := Lib.hid (fun (W : World) (h : Bk W w.heap.size [.int .i64 7, .int .i64 m, .int .i64 p, .slice An ns.length cn, .slice Ak ks.length ck, .bool o, .int .i64 lm, .slice At ts.length ct] 31) => And.intro (h.cell 1 _ rfl) (And.intro (h.cell 3 _ rfl) (h.cell 4 _ rfl)))
        clear hX3 hT3
        go_region_held3 (fun W => W.cell? ⟨w.heap.size, 1, none⟩ = some (.int .i64 m) ∧ W.cell? ⟨w.heap.size, 3, none⟩ = some (.slice An ns.length cn) ∧ W.cell? ⟨w.heap.size, 4, none⟩ = some (.slice Ak ks.length ck)) (first | (with_reducible exact Hmk.out _ (HT4.out.later (bdr _))) | (with_reducible exact Hmk.out _ ((Bk.other HT4.out hne _ _).later (bdr _))) | (with_reducible exact Hmk.out _ ((Bk.other (Bk.other HT4.out hne _ _) hne _ _).later (bdr _))) | (with_reducible exact Hmk.out _ ((Bk.other (Bk.other (Bk.other HT4.out hne _ _) hne _ _) hne _ _).later (bdr _)))) (fail)
        all_goals (
          go_wp2_with fail
          go_meet
          refine ⟨by first | rfl | (simp; omega), An, cn, Ak, ck, Lib.hid ?_, Lib.hid ?_, Lib.hid ?_⟩
          · rw [Heo.out, Hel.out]
            first | ((with_reducible refine bk_eq ((Bk.set (Bk.set (Bk.set HX4.out 1 _) 3 _) 4 _).later (bdr _)) ?_); rfl) | ((with_reducible refine bk_eq ((Bk.set (Bk.set (Bk.set HX4.out 1 _) 4 _) 3 _).later (bdr _)) ?_); rfl) | ((with_reducible refine bk_eq ((Bk.set (Bk.set (Bk.set HX4.out 3 _) 1 _) 4 _).later (bdr _)) ?_); rfl) | ((with_reducible refine bk_eq ((Bk.set (Bk.set (Bk.set HX4.out 3 _) 4 _) 1 _).later (bdr _)) ?_); rfl) | ((with_reducible refine bk_eq ((Bk.set (Bk.set (Bk.set HX4.out 4 _) 1 _) 3 _).later (bdr _)) ?_); rfl) | ((with_reducible refine bk_eq ((Bk.set (Bk.set (Bk.set HX4.out 4 _) 3 _) 1 _).later (bdr _)) ?_); rfl)
          · with_reducible exact (Bk.other (Bk.other (Bk.other HT4.out hne _ _) hne _ _) hne _ _).later (bdr _)
          · with_reducible exact bel3 hlw Hb3.out)
      · -- kind 8
        obtain ⟨m1, m3, hn0, hk0⟩ := f68 (by decide)
        obtain ⟨eo, el⟩ := g10 (by decide)
        have hn1 : (0 : Int) < (ns.length : Int) := by omega
        have hk1 : (0 : Int) < (ks.length : Int) := by omega
        obtain ⟨p1, p3⟩ := f78 (by decide)
        have Heo := Lib.hid eo
        have Hel := Lib.hid el
        clear eo el
        clear f3 f45 f68 f78 f9 f10 g9 g8 g7 g10 g5
        have hne : w1.heap.size ≠ w.heap.size := by omega
        have fz := HX.out.frozen 2
        have y2 := HX.out.cell 2 _ rfl
        go_upto_region 19 with fail
        have HX3 := Lib.hid (HX.out.set 2 (.int .i64 p))
        have HT3 := Lib.hid (HT2.out.other (c := w1.heap.size) hne 2 (.int .i64 p))
        have Hb3 := Lib.hid (Hb2.out.setCell (p := ⟨w1.heap.size, 2, none⟩) hlw (.int .i64 p))
        generalize w2.setCell ⟨w1.heap.size, 2, none⟩ (.int .i64 p) = w3 at *
        clear HX HT2 Hb2 x0 x1 x2 x3 x4 x5 x6 x7 fz y2
        have hX3 : Bk w3 w1.heap.size [.int .i64 8, .int .i64 0, .int .i64 p, .slice none 0 0, .slice none 0 0, .bool false, .int .i64 0, .slice none 0 0] 31 := HX3.out
        have hT3 := HT3.out
        have f1 := hX3.frozen 1
        have y1 := hX3.cell 1 _ rfl
        have f3 := hX3.frozen 3
        have y3 := hX3.cell 3 _ rfl
        have f4 := hX3.frozen 4
        have y4 := hX3.cell 4 _ rfl
        have HX4 := Lib.hid hX3
        have HT4 := Lib.hid hT3
        have Hmk := Lib.hid (fun (W : World) (h : Bk W w.heap.size [.int .i64 8, .int .i64 m, .int .i64 p, .slice An ns.length cn, .slice Ak ks.length ck, .bool o, .int .i64 lm, .slice At ts.length ct] 31) => And.intro (h.cell 1 _ rfl) (And.intro (h.cell 3 _ rfl) (h.cell 4 _ rfl)))
        clear hX3 hT3
        go_region_held3 (fun W => W.cell? ⟨w.heap.size, 1, none⟩ = some (.int .i64 m) ∧ W.cell? ⟨w.heap.size, 3, none⟩ = some (.slice An ns.length cn) ∧ W.cell? ⟨w.heap.size, 4, none⟩ = some (.slice Ak ks.length ck)) (first | (with_reducible exact Hmk.out _ (HT4.out.later (bdr _))) | (with_reducible exact Hmk.out _ ((Bk.other HT4.out hne _ _).later (bdr _))) | (with_reducible exact Hmk.out _ ((Bk.other (Bk.other HT4.out hne _ _) hne _ _).later (bdr _))) | (with_reducible exact Hmk.out _ ((Bk.other (Bk.other (Bk.other HT4.out hne _ _) hne _ _) hne _ _).later (bdr _)))) (fail)
        all_goals (
          go_wp2_with fail
          go_meet
          refine ⟨by first | rfl | (simp; omega), An, cn, Ak, ck, Lib.hid ?_, Lib.hid ?_, Lib.hid ?_⟩
          · rw [Heo.out, Hel.out]
            first | ((with_reducible refine bk_eq ((Bk.set (Bk.set (Bk.set HX4.out 1 _) 3 _) 4 _).later (bdr _)) ?_); rfl) | ((with_reducible refine bk_eq ((Bk.set (Bk.set (Bk.set HX4.out 1 _) 4 _) 3 _).later (bdr _)) ?_); rfl) | ((with_reducible refine bk_eq ((Bk.set (Bk.set (Bk.set HX4.out 3 _) 1 _) 4 _).later (bdr _)) ?_); rfl) | ((with_reducible refine bk_eq ((Bk.set (Bk.set (Bk.set HX4.out 3 _) 4 _) 1 _).later (bdr _)) ?_); rfl) | ((with_reducible refine bk_eq ((Bk.set (Bk.set (Bk.set HX4.out 4 _) 1 _) 3 _).later (bdr _)) ?_); rfl) | ((with_reducible refine bk_eq ((Bk.set (Bk.set (Bk.set HX4.out 4 _) 3 _) 1 _).later (bdr _)) ?_); rfl)
          · with_reducible exact (Bk.other (Bk.other (Bk.other HT4.out hne _ _) hne _ _) hne _ _).later (bdr _)
          · with_reducible exact bel3 hlw Hb3.out)
      · -- kind 9
        have hn0 := f9 rfl
        obtain ⟨en2, em⟩ := g8 (by decide)
        have ep := g7 (by decide)
        obtain ⟨eo, el⟩ := g10 (by decide)
        have Hem := Lib.hid em
        have Hep := Lib.hid ep
        have Hen2 := Lib.hid en2
        have Heo := Lib.hid eo
        have Hel := Lib.hid el
        clear em ep en2 eo el
        have hn1 : (0 : Int) < (ns.length : Int) := by omega
        clear f3 f45 f68 f78 f9 f10 g9 g8 g7 g10 g5
        have hne : w1.heap.size ≠ w.heap.size := by omega
        have fz := HX.out.frozen 3
        have y3 := HX.out.cell 3 _ rfl
        go_wp2_with fail
        go_meet
        refine ⟨by first | rfl | (simp; omega), An, cn, none, 0, Lib.hid ?_, Lib.hid (HT2.out.other (c := w1.heap.size) hne 3 (.slice An ns.length cn)), Lib.hid (Hb2.out.setCell (p := ⟨w1.heap.size, 3, none⟩) hlw (.slice An ns.length cn))⟩
        rw [Hem.out, Hep.out, Hen2.out, Heo.out, Hel.out]
        exact bk_eq (HX.out.set 3 (.slice An ns.length cn)) rfl
      · -- kind 10
        obtain ⟨l1, l2⟩ := f10 rfl
        have en1 := g9 (by decide)
        obtain ⟨en2, em⟩ := g8 (by decide)
        have ep := g7 (by decide)
        have Hem := Lib.hid em
        have Hep := Lib.hid ep
        have Hen1 := Lib.hid en1
        have Hen2 := Lib.hid en2
        clear em ep en1 en2
        clear f3 f45 f68 f78 f9 f10 g9 g8 g7 g10 g5
        have hne : w1.heap.size ≠ w.heap.size := by omega
        go_upto_region 25 with fail
        clear x0 x1 x2 x3 x4 x5 x6 x7
        have f5 := HX.out.frozen 5
        have f6 := HX.out.frozen 6
        have y5 := HX.out.cell 5 _ rfl
        have y6 := HX.out.cell 6 _ rfl
        have Hmk := Lib.hid (fun (W : World) (h : Bk W w.heap.size [.int .i64 10, .int .i64 m, .int .i64 p, .slice An ns.length cn, .slice Ak ks.length ck, .bool o, .int .i64 lm, .slice At ts.length ct] 31) => And.intro (h.cell 5 _ rfl) (h.cell 6 _ rfl))
        go_region_held3 (fun W => W.cell? ⟨w.heap.size, 5, none⟩ = some (.bool o) ∧ W.cell? ⟨w.heap.size, 6, none⟩ = some (.int .i64 lm)) (first | (with_reducible exact Hmk.out _ (HT2.out.later (bdr _))) | (with_reducible exact Hmk.out _ ((Bk.other HT2.out hne _ _).later (bdr _))) | (with_reducible exact Hmk.out _ ((Bk.other (Bk.other HT2.out hne _ _) hne _ _).later (bdr _)))) (fail)
        all_goals (
          go_wp2_with fail
          go_meet
          refine ⟨by first | rfl | (simp; omega), none, 0, none, 0, Lib.hid ?_, Lib.hid ?_, Lib.hid ?_⟩
          · rw [Hem.out, Hep.out, Hen1.out, Hen2.out]
            first | ((with_reducible refine bk_eq (((HX.out.set 5 _).set 6 _).later (bdr _)) ?_); rfl) | ((with_reducible refine bk_eq (((HX.out.set 6 _).set 5 _).later (bdr _)) ?_); rfl)
          · with_reducible exact (Bk.other (Bk.other HT2.out hne _ _) hne _ _).later (bdr _)
          · with_reducible exact bel2 hlw Hb2.out)
    case rest =>
      obtain ⟨rfl, A1, c1, A2, c2, HX3, HT3, Hb3⟩ := hcut
      clear x0 x1 x2 x3 x4 x5 x6 x7 HX HT2 Hb2 HT Hb1
      have x0 := HT3.out.cell 0 _ rfl
      have x1 := HT3.out.cell 1 _ rfl
      have x2 := HT3.out.cell 2 _ rfl
      have x3 := HT3.out.cell 3 _ rfl
      have x4 := HT3.out.cell 4 _ rfl
      have x5 := HT3.out.cell 5 _ rfl
      have x6 := HT3.out.cell 6 _ rfl
      have x7 := HT3.out.cell 7 _ rfl
      have z1 := HX3.out.cell 1 _ rfl
      have z2 := HX3.out.cell 2 _ rfl
      have z3 := HX3.out.cell 3 _ rfl
      have z4 := HX3.out.cell 4 _ rfl
      have z5 := HX3.out.cell 5 _ rfl
      have z6 := HX3.out.cell 6 _ rfl
      have hr2 : chkTs ts (d + 1) = res := by rw [← Hres.out, if_neg h6]
      have Hr2 := Lib.hid hr2
      have hd6 : d ≤ 6 := by omega
      clear hr2 h6
      go_upto_region 28 with fail
      clear z1 z2 z3 z4 z5 z6 HX3
      have h3 : ¬ k < 3 := by omega
      have h5 : 5 < k := by omega
      obtain rfl := Hts0.out
      have hr0 : res = 0 := by rw [← Hr2.out]; unfold chkTs; rfl
      subst hr0
      clear x1 x2 x3 x4 x5 x6
      clear hk
      go_wp2_with fail
      go_loopw [183] (fun i wr => i = .int .i64 0 ∧ wr = wc) (fun _ _ => 0)
      case atStart => exact ⟨rfl, rfl⟩
      case round =>
        obtain ⟨rfl, rfl⟩ := hrel
        go_wp2_with fail
        go_ret
        exact ⟨rfl, Hb3.out⟩
end Go.Proofs.YtgmnoemkdigafaaDoor
