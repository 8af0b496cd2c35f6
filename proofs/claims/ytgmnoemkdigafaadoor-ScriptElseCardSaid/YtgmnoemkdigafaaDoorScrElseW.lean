/- The walk of ScriptElse. -/
import Derived.Test.YtgmnoemkdigafaaDoorScrTest0
import Derived.Test.YtgmnoemkdigafaaDoorScrElseP
import Derived.Test.YtgmnoemkdigafaaDoorScrShow
import Derived.Test.YtgmnoemkdigafaaDoorScrElseS
import Derived.Deep.DeepCutAuto
namespace Go.Proofs.YtgmnoemkdigafaaDoor
open Go.RowKit
set_option linter.unusedVariables false
set_option linter.unusedSimpArgs false

theorem stkV_cells {w : World} {x : Stk} {vs : List Value} (h : StkV w x vs) : ∃ (k a b : Int) (s t : ByteArray) (A : Option Addr) (n c : Nat), vs = [.int .i64 k, .int .i64 a, .int .i64 b, .string s, .string t, .slice A n c] := by
  obtain ⟨k, a, b, s, t, inn⟩ := x
  unfold StkV at h
  obtain ⟨A, c, rfl, _⟩ := h
  exact ⟨k, a, b, s, t, A, _, c, rfl⟩
set_option maxRecDepth 100000 in
set_option maxHeartbeats 8000000 in
theorem scriptElse_w (x y : Stk) (vx vy : List Value) (w : World) (hx : StkV w x vx) (hy : StkV w y vy) (htab : TabsAt w) :
    Calls Tryd.prog 5 #[.agg vx.toArray, .agg vy.toArray] w fun e w' => e = .returned (.bool true) ∧ Below w.heap.size w w' := by
  obtain ⟨xk, xa, xb, xs, xt, XA, xn, xc, rfl⟩ := stkV_cells hx
  obtain ⟨yk, ya, yb, ys, yt, YA, yn, yc, rfl⟩ := stkV_cells hy
  have hX := (Bk.new w [.int .i64 xk, .int .i64 xa, .int .i64 xb, .string xs, .string xt, .slice XA xn xc] 39).alloc (.cells #[.int .i64 yk, .int .i64 ya, .int .i64 yb, .string ys, .string yt, .slice YA yn yc] 39)
  have hY := bk_newN (w.alloc (.cells #[.int .i64 xk, .int .i64 xa, .int .i64 xb, .string xs, .string xt, .slice XA xn xc] 39)) (w.heap.size + 1) [.int .i64 yk, .int .i64 ya, .int .i64 yb, .string ys, .string yt, .slice YA yn yc] 39 (by simp)
  have hb := bal (bal (Below.refl _ w) (.cells #[.int .i64 xk, .int .i64 xa, .int .i64 xb, .string xs, .string xt, .slice XA xn xc] 39)) (.cells #[.int .i64 yk, .int .i64 ya, .int .i64 yb, .string ys, .string yt, .slice YA yn yc] 39)
  have hs : ((w.alloc (.cells #[.int .i64 xk, .int .i64 xa, .int .i64 xb, .string xs, .string xt, .slice XA xn xc] 39)).alloc (.cells #[.int .i64 yk, .int .i64 ya, .int .i64 yb, .string ys, .string yt, .slice YA yn yc] 39)).heap.size = w.heap.size + 2 := by simp
  have HX := Lib.hid hX
  have HY := Lib.hid hY
  have Hb := Lib.hid hb
  have Hx := Lib.hid hx
  have Hy := Lib.hid hy
  have Htab := Lib.hid htab
  clear hX hY hb hx hy htab
  go_enter Tryd.func5, Tryd.ntmps5
  go_upto_region 1 with fail
  generalize (w.alloc (.cells #[.int .i64 xk, .int .i64 xa, .int .i64 xb, .string xs, .string xt, .slice XA xn xc] 39)).alloc (.cells #[.int .i64 yk, .int .i64 ya, .int .i64 yb, .string ys, .string yt, .slice YA yn yc] 39) = w2 at *
  have C1 := fun (W : World) (h : Below w2.heap.size w2 W) => test0_calls x 3 _ W (by decide) (by decide) (stkV_later (btr Hb.out h) _ _ Hx.out)
  have C2 := fun (W : World) (h : Below w2.heap.size w2 W) => test0_calls y 3 _ W (by decide) (by decide) (stkV_later (btr Hb.out h) _ _ Hy.out)
  -- region 1
  have HSk := Lib.hid (fun (W : World) (h : Below w2.heap.size w2 W) => (show (fun W => W.cell? ⟨w.heap.size, 0, none⟩ = some (.int .i64 xk) ∧ W.cell? ⟨w.heap.size, 1, none⟩ = some (.int .i64 xa) ∧ W.cell? ⟨w.heap.size, 2, none⟩ = some (.int .i64 xb) ∧ W.cell? ⟨w.heap.size, 3, none⟩ = some (.string xs) ∧ W.cell? ⟨w.heap.size, 4, none⟩ = some (.string xt) ∧ W.cell? ⟨w.heap.size, 5, none⟩ = some (.slice XA xn xc) ∧ W.cell? ⟨w.heap.size + 1, 0, none⟩ = some (.int .i64 yk) ∧ W.cell? ⟨w.heap.size + 1, 1, none⟩ = some (.int .i64 ya) ∧ W.cell? ⟨w.heap.size + 1, 2, none⟩ = some (.int .i64 yb) ∧ W.cell? ⟨w.heap.size + 1, 3, none⟩ = some (.string ys) ∧ W.cell? ⟨w.heap.size + 1, 4, none⟩ = some (.string yt) ∧ W.cell? ⟨w.heap.size + 1, 5, none⟩ = some (.slice YA yn yc)) W from ⟨(HX.out.later h).cell 0 _ rfl, (HX.out.later h).cell 1 _ rfl, (HX.out.later h).cell 2 _ rfl, (HX.out.later h).cell 3 _ rfl, (HX.out.later h).cell 4 _ rfl, (HX.out.later h).cell 5 _ rfl, (HY.out.later h).cell 0 _ rfl, (HY.out.later h).cell 1 _ rfl, (HY.out.later h).cell 2 _ rfl, (HY.out.later h).cell 3 _ rfl, (HY.out.later h).cell 4 _ rfl, (HY.out.later h).cell 5 _ rfl⟩))
  have HbA := Lib.hid (btr (bal (Below.refl _ w2) (.cells #[.int .i64 0, .slice none 0 0, .int .i64 0, .int .i64 0, .int .i64 0, .slice none 0 0, .slice none 0 0, .bool false, .int .i64 0, .slice none 0 0, .slice none 0 0, .slice none 0 0] 34)) (bdr _))
  have HbB := Lib.hid (bdr w2)
  have HZA := Lib.hid (Bk.drew (bk_newN w2 (w.heap.size + 2) [.int .i64 0, .slice none 0 0, .int .i64 0, .int .i64 0, .int .i64 0, .slice none 0 0, .slice none 0 0, .bool false, .int .i64 0, .slice none 0 0, .slice none 0 0, .slice none 0 0] 34 hs))
  have hs12 : ∀ (W : World) (b : Nat) (v0 v1 v2 v3 v4 v5 v6 v7 v8 v9 v10 v11 : Value), Below w2.heap.size w2 W → w2.heap.size ≤ b → Below w2.heap.size w2 ((((((((((((W.setCell ⟨b, 0, none⟩ v0).setCell ⟨b, 1, none⟩ v1).setCell ⟨b, 2, none⟩ v2).setCell ⟨b, 3, none⟩ v3).setCell ⟨b, 4, none⟩ v4).setCell ⟨b, 5, none⟩ v5).setCell ⟨b, 6, none⟩ v6).setCell ⟨b, 7, none⟩ v7).setCell ⟨b, 8, none⟩ v8).setCell ⟨b, 9, none⟩ v9).setCell ⟨b, 10, none⟩ v10).setCell ⟨b, 11, none⟩ v11) := fun W b v0 v1 v2 v3 v4 v5 v6 v7 v8 v9 v10 v11 h hb => (Below.setCell (Below.setCell (Below.setCell (Below.setCell (Below.setCell (Below.setCell (Below.setCell (Below.setCell (Below.setCell (Below.setCell (Below.setCell (Below.setCell h hb _) hb _) hb _) hb _) hb _) hb _) hb _) hb _) hb _) hb _) hb _) hb _)
  have Hs12 := Lib.hid hs12
  clear hs12
  go_cut [5] from 15 to 21 (fun c5 w5 => Hid (Below w.heap.size w w5) ∧ ∃ (cb eb : Nat) (k1 m1 p1 lm1 : Int) (o1 : Bool) (An1 Ak1 At1 : Option Addr) (nn1 cn1 nk1 ck1 nt1 ct1 : Nat) (k2 m2 p2 lm2 : Int) (o2 : Bool) (An2 Ak2 At2 : Option Addr) (nn2 cn2 nk2 ck2 nt2 ct2 : Nat), c5 = .pointer (some ⟨cb, 0, none⟩) ∧ Hid (Bk w5 cb [.int .i64 2, .slice none 0 0, .int .i64 k1, .int .i64 m1, .int .i64 p1, .slice An1 nn1 cn1, .slice Ak1 nk1 ck1, .bool o1, .int .i64 lm1, .slice At1 nt1 ct1, .slice none 0 0, .slice (some ⟨eb, 0, none⟩) 1 1] 34) ∧ Hid (Bk w5 eb [.int .i64 2, .slice none 0 0, .int .i64 k2, .int .i64 m2, .int .i64 p2, .slice An2 nn2 cn2, .slice Ak2 nk2 ck2, .bool o2, .int .i64 lm2, .slice At2 nt2 ct2, .slice none 0 0, .slice none 0 0] 34) ∧ Hid (∀ W, Below w5.heap.size w5 W → TestV W (testN 0 x) [.int .i64 k1, .int .i64 m1, .int .i64 p1, .slice An1 nn1 cn1, .slice Ak1 nk1 ck1, .bool o1, .int .i64 lm1, .slice At1 nt1 ct1]) ∧ Hid (∀ W, Below w5.heap.size w5 W → TestV W (testN 0 y) [.int .i64 k2, .int .i64 m2, .int .i64 p2, .slice An2 nn2 cn2, .slice Ak2 nk2 ck2, .bool o2, .int .i64 lm2, .slice At2 nt2 ct2]))
  case first =>
    go_region_held3 (fun W => W.cell? ⟨w.heap.size, 0, none⟩ = some (.int .i64 xk) ∧ W.cell? ⟨w.heap.size, 1, none⟩ = some (.int .i64 xa) ∧ W.cell? ⟨w.heap.size, 2, none⟩ = some (.int .i64 xb) ∧ W.cell? ⟨w.heap.size, 3, none⟩ = some (.string xs) ∧ W.cell? ⟨w.heap.size, 4, none⟩ = some (.string xt) ∧ W.cell? ⟨w.heap.size, 5, none⟩ = some (.slice XA xn xc) ∧ W.cell? ⟨w.heap.size + 1, 0, none⟩ = some (.int .i64 yk) ∧ W.cell? ⟨w.heap.size + 1, 1, none⟩ = some (.int .i64 ya) ∧ W.cell? ⟨w.heap.size + 1, 2, none⟩ = some (.int .i64 yb) ∧ W.cell? ⟨w.heap.size + 1, 3, none⟩ = some (.string ys) ∧ W.cell? ⟨w.heap.size + 1, 4, none⟩ = some (.string yt) ∧ W.cell? ⟨w.heap.size + 1, 5, none⟩ = some (.slice YA yn yc)) (first | (with_reducible exact HSk.out _ HbB.out) | (with_reducible exact HSk.out _ HbA.out) | (with_reducible exact HSk.out _ Hwa.out) | (with_reducible exact HSk.out _ Hwz.out) | (with_reducible exact HSk.out _ Hwb.out) | (with_reducible exact HSk.out _ (bal Hwb.out _)) | (with_reducible exact HSk.out _ (bal (bal Hwb.out _) _)) | (with_reducible exact HSk.out _ (Hs12.out _ _ _ _ _ _ _ _ _ _ _ _ _ _ (bal Hwb.out _) Hwa.out.size)) | go_keep) (first
      | (go_simp; (first
        | ((with_reducible refine (C1 _ HbA.out).mono ?_); rintro e wa ⟨k1, m1, p1, lm1, o1, An1, Ak1, At1, nn1, cn1, nk1, ck1, nt1, ct1, rfl, HT1, hba⟩; have HZa := Lib.hid (HZA.out.later hba); have Hwa := Lib.hid (btr HbA.out hba); have Hwz := Lib.hid (bal Hwa.out (.cells #[.int .i64 0, .slice none 0 0, .int .i64 0, .int .i64 0, .int .i64 0, .slice none 0 0, .slice none 0 0, .bool false, .int .i64 0, .slice none 0 0, .slice none 0 0, .slice none 0 0] 34)); have Hs1 := Lib.hid hba; clear hba)
        | ((with_reducible refine (C1 _ HbB.out).mono ?_); rintro e wa ⟨k1, m1, p1, lm1, o1, An1, Ak1, At1, nn1, cn1, nk1, ck1, nt1, ct1, rfl, HT1, hba⟩; have Hwa := Lib.hid (btr HbB.out hba); have Hwz := Lib.hid (bal Hwa.out (.cells #[.int .i64 0, .slice none 0 0, .int .i64 0, .int .i64 0, .int .i64 0, .slice none 0 0, .slice none 0 0, .bool false, .int .i64 0, .slice none 0 0, .slice none 0 0, .slice none 0 0] 34)); have Hs1 := Lib.hid hba; clear hba)
        | ((with_reducible refine (C2 _ Hwa.out).mono ?_); rintro e wb ⟨k2, m2, p2, lm2, o2, An2, Ak2, At2, nn2, cn2, nk2, ck2, nt2, ct2, rfl, HT2, hbb⟩; (try (have HZb := Lib.hid (HZa.out.later hbb); have hz := Bk.alloc HZb.out (.cells #[.int .i64 2, .slice none 0 0, .int .i64 k2, .int .i64 m2, .int .i64 p2, .slice An2 nn2 cn2, .slice Ak2 nk2 ck2, .bool o2, .int .i64 lm2, .slice At2 nt2 ct2, .slice none 0 0, .slice none 0 0] 34); have z0 := hz.cell 0 _ rfl; have fz0 := hz.frozen 0; have z1 := hz.cell 1 _ rfl; have fz1 := hz.frozen 1; have z2 := hz.cell 2 _ rfl; have fz2 := hz.frozen 2; have z3 := hz.cell 3 _ rfl; have fz3 := hz.frozen 3; have z4 := hz.cell 4 _ rfl; have fz4 := hz.frozen 4; have z5 := hz.cell 5 _ rfl; have fz5 := hz.frozen 5; have z6 := hz.cell 6 _ rfl; have fz6 := hz.frozen 6; have z7 := hz.cell 7 _ rfl; have fz7 := hz.frozen 7; have z8 := hz.cell 8 _ rfl; have fz8 := hz.frozen 8; have z9 := hz.cell 9 _ rfl; have fz9 := hz.frozen 9; have z10 := hz.cell 10 _ rfl; have fz10 := hz.frozen 10; have z11 := hz.cell 11 _ rfl; have fz11 := hz.frozen 11; clear hz)); have Hwb := Lib.hid (btr Hwa.out hbb); have Hs2 := Lib.hid hbb; clear hbb)
        | ((with_reducible refine (C2 _ Hwz.out).mono ?_); rintro e wb ⟨k2, m2, p2, lm2, o2, An2, Ak2, At2, nn2, cn2, nk2, ck2, nt2, ct2, rfl, HT2, hbb⟩; have HZb := Lib.hid ((Bk.new wa [.int .i64 0, .slice none 0 0, .int .i64 0, .int .i64 0, .int .i64 0, .slice none 0 0, .slice none 0 0, .bool false, .int .i64 0, .slice none 0 0, .slice none 0 0, .slice none 0 0] 34).later hbb); have hz := Bk.alloc HZb.out (.cells #[.int .i64 2, .slice none 0 0, .int .i64 k2, .int .i64 m2, .int .i64 p2, .slice An2 nn2 cn2, .slice Ak2 nk2 ck2, .bool o2, .int .i64 lm2, .slice At2 nt2 ct2, .slice none 0 0, .slice none 0 0] 34); have z0 := hz.cell 0 _ rfl; have fz0 := hz.frozen 0; have z1 := hz.cell 1 _ rfl; have fz1 := hz.frozen 1; have z2 := hz.cell 2 _ rfl; have fz2 := hz.frozen 2; have z3 := hz.cell 3 _ rfl; have fz3 := hz.frozen 3; have z4 := hz.cell 4 _ rfl; have fz4 := hz.frozen 4; have z5 := hz.cell 5 _ rfl; have fz5 := hz.frozen 5; have z6 := hz.cell 6 _ rfl; have fz6 := hz.frozen 6; have z7 := hz.cell 7 _ rfl; have fz7 := hz.frozen 7; have z8 := hz.cell 8 _ rfl; have fz8 := hz.frozen 8; have z9 := hz.cell 9 _ rfl; have fz9 := hz.frozen 9; have z10 := hz.cell 10 _ rfl; have fz10 := hz.frozen 10; have z11 := hz.cell 11 _ rfl; have fz11 := hz.frozen 11; clear hz; have Hwb := Lib.hid (btr Hwz.out hbb); have Hs2 := Lib.hid hbb; clear hbb))))
    all_goals go_wp2_with fail
    all_goals go_meet
    all_goals (first
      | (refine ⟨Lib.hid ?hb, wb.heap.size + 1, wb.heap.size, k1, m1, p1, lm1, o1, An1, Ak1, At1, nn1, cn1, nk1, ck1, nt1, ct1, k2, m2, p2, lm2, o2, An2, Ak2, At2, nn2, cn2, nk2, ck2, nt2, ct2, rfl, Lib.hid ?_, Lib.hid ?_, Lib.hid ?_, Lib.hid ?_⟩
         case hb => exact bal (bal (btr Hb.out Hwb.out) _) _
         · exact bk_newN (wb.alloc (.cells #[.int .i64 2, .slice none 0 0, .int .i64 k2, .int .i64 m2, .int .i64 p2, .slice An2 nn2 cn2, .slice Ak2 nk2 ck2, .bool o2, .int .i64 lm2, .slice At2 nt2 ct2, .slice none 0 0, .slice none 0 0] 34)) (wb.heap.size + 1) [.int .i64 2, .slice none 0 0, .int .i64 k1, .int .i64 m1, .int .i64 p1, .slice An1 nn1 cn1, .slice Ak1 nk1 ck1, .bool o1, .int .i64 lm1, .slice At1 nt1 ct1, .slice none 0 0, .slice (some ⟨wb.heap.size, 0, none⟩) 1 1] 34 (by simp)
         · exact (Bk.new wb [.int .i64 2, .slice none 0 0, .int .i64 k2, .int .i64 m2, .int .i64 p2, .slice An2 nn2 cn2, .slice Ak2 nk2 ck2, .bool o2, .int .i64 lm2, .slice At2 nt2 ct2, .slice none 0 0, .slice none 0 0] 34).alloc _
         · exact fun W hW => HT1.out W (new_of Hs1.out Hs2.out (btr (bal (bal (Below.refl _ wb) _) _) hW))
         · exact fun W hW => HT2.out W (New.of_below (btr (bal (bal (Below.refl _ wb) _) _) hW)))
      | (refine ⟨Lib.hid ?hb, wb.heap.size, wb.heap.size + 1, k1, m1, p1, lm1, o1, An1, Ak1, At1, nn1, cn1, nk1, ck1, nt1, ct1, k2, m2, p2, lm2, o2, An2, Ak2, At2, nn2, cn2, nk2, ck2, nt2, ct2, rfl, Lib.hid ?_, Lib.hid ?_, Lib.hid ?_, Lib.hid ?_⟩
         case hb => exact bal (bal (btr Hb.out Hwb.out) _) _
         · exact (Bk.new wb [.int .i64 2, .slice none 0 0, .int .i64 k1, .int .i64 m1, .int .i64 p1, .slice An1 nn1 cn1, .slice Ak1 nk1 ck1, .bool o1, .int .i64 lm1, .slice At1 nt1 ct1, .slice none 0 0, .slice (some ⟨wb.heap.size + 1, 0, none⟩) 1 1] 34).alloc _
         · exact bk_newN (wb.alloc (.cells #[.int .i64 2, .slice none 0 0, .int .i64 k1, .int .i64 m1, .int .i64 p1, .slice An1 nn1 cn1, .slice Ak1 nk1 ck1, .bool o1, .int .i64 lm1, .slice At1 nt1 ct1, .slice none 0 0, .slice (some ⟨wb.heap.size + 1, 0, none⟩) 1 1] 34)) (wb.heap.size + 1) [.int .i64 2, .slice none 0 0, .int .i64 k2, .int .i64 m2, .int .i64 p2, .slice An2 nn2 cn2, .slice Ak2 nk2 ck2, .bool o2, .int .i64 lm2, .slice At2 nt2 ct2, .slice none 0 0, .slice none 0 0] 34 (by simp)
         · exact fun W hW => HT1.out W (new_of Hs1.out Hs2.out (btr (bal (bal (Below.refl _ wb) _) _) hW))
         · exact fun W hW => HT2.out W (New.of_below (btr (bal (bal (Below.refl _ wb) _) _) hW)))
      | (refine ⟨Lib.hid ?hb, wa.heap.size, wb.heap.size, k1, m1, p1, lm1, o1, An1, Ak1, At1, nn1, cn1, nk1, ck1, nt1, ct1, k2, m2, p2, lm2, o2, An2, Ak2, At2, nn2, cn2, nk2, ck2, nt2, ct2, rfl, Lib.hid ?_, Lib.hid ?_, Lib.hid ?_, Lib.hid ?_⟩
         case hb => exact (Below.setCell (Below.setCell (Below.setCell (Below.setCell (Below.setCell (Below.setCell (Below.setCell (Below.setCell (Below.setCell (Below.setCell (Below.setCell (Below.setCell (bal (btr Hb.out Hwb.out) _) (Nat.le_trans Hb.out.size Hwa.out.size) _) (Nat.le_trans Hb.out.size Hwa.out.size) _) (Nat.le_trans Hb.out.size Hwa.out.size) _) (Nat.le_trans Hb.out.size Hwa.out.size) _) (Nat.le_trans Hb.out.size Hwa.out.size) _) (Nat.le_trans Hb.out.size Hwa.out.size) _) (Nat.le_trans Hb.out.size Hwa.out.size) _) (Nat.le_trans Hb.out.size Hwa.out.size) _) (Nat.le_trans Hb.out.size Hwa.out.size) _) (Nat.le_trans Hb.out.size Hwa.out.size) _) (Nat.le_trans Hb.out.size Hwa.out.size) _) (Nat.le_trans Hb.out.size Hwa.out.size) _)
         · exact bk_eq (Bk.set (Bk.set (Bk.set (Bk.set (Bk.set (Bk.set (Bk.set (Bk.set (Bk.set (Bk.set (Bk.set (Bk.set (Bk.alloc HZb.out (.cells #[.int .i64 2, .slice none 0 0, .int .i64 k2, .int .i64 m2, .int .i64 p2, .slice An2 nn2 cn2, .slice Ak2 nk2 ck2, .bool o2, .int .i64 lm2, .slice At2 nt2 ct2, .slice none 0 0, .slice none 0 0] 34)) 0 _) 1 _) 2 _) 3 _) 4 _) 5 _) 6 _) 7 _) 8 _) 9 _) 10 _) 11 _) rfl
         · have hne9 := Nat.ne_of_lt HZb.out.lt
           exact (Bk.other (Bk.other (Bk.other (Bk.other (Bk.other (Bk.other (Bk.other (Bk.other (Bk.other (Bk.other (Bk.other (Bk.other (Bk.new wb [.int .i64 2, .slice none 0 0, .int .i64 k2, .int .i64 m2, .int .i64 p2, .slice An2 nn2 cn2, .slice Ak2 nk2 ck2, .bool o2, .int .i64 lm2, .slice At2 nt2 ct2, .slice none 0 0, .slice none 0 0] 34) hne9 0 _) hne9 1 _) hne9 2 _) hne9 3 _) hne9 4 _) hne9 5 _) hne9 6 _) hne9 7 _) hne9 8 _) hne9 9 _) hne9 10 _) hne9 11 _)
         · exact fun W hW => HT1.out W (new_set (Mv.set (Mv.set (Mv.set (Mv.set (Mv.set (Mv.set (Mv.set (Mv.set (Mv.set (Mv.set (Mv.set (Mv.set ((Mv.refl _ wb).alloc (.cells #[.int .i64 2, .slice none 0 0, .int .i64 k2, .int .i64 m2, .int .i64 p2, .slice An2 nn2 cn2, .slice Ak2 nk2 ck2, .bool o2, .int .i64 lm2, .slice At2 nt2 ct2, .slice none 0 0, .slice none 0 0] 34)) 0 _) 1 _) 2 _) 3 _) 4 _) 5 _) 6 _) 7 _) 8 _) 9 _) 10 _) 11 _) (fun k _ h => Nat.ne_of_lt h) (btr (bal (Below.refl _ wa) _) Hs2.out) hW)
         · exact fun W hW => HT2.out W (new_set2 (Mv.set (Mv.set (Mv.set (Mv.set (Mv.set (Mv.set (Mv.set (Mv.set (Mv.set (Mv.set (Mv.set (Mv.set ((Mv.refl _ wb).alloc (.cells #[.int .i64 2, .slice none 0 0, .int .i64 k2, .int .i64 m2, .int .i64 p2, .slice An2 nn2 cn2, .slice Ak2 nk2 ck2, .bool o2, .int .i64 lm2, .slice At2 nt2 ct2, .slice none 0 0, .slice none 0 0] 34)) 0 _) 1 _) 2 _) 3 _) 4 _) 5 _) 6 _) 7 _) 8 _) 9 _) 10 _) 11 _) (by simp) hW))
      | (refine ⟨Lib.hid ?hb, w.heap.size + 2, wb.heap.size, k1, m1, p1, lm1, o1, An1, Ak1, At1, nn1, cn1, nk1, ck1, nt1, ct1, k2, m2, p2, lm2, o2, An2, Ak2, At2, nn2, cn2, nk2, ck2, nt2, ct2, rfl, Lib.hid ?_, Lib.hid ?_, Lib.hid ?_, Lib.hid ?_⟩
         case hb => exact (Below.setCell (Below.setCell (Below.setCell (Below.setCell (Below.setCell (Below.setCell (Below.setCell (Below.setCell (Below.setCell (Below.setCell (Below.setCell (Below.setCell (bal (btr Hb.out Hwb.out) _) (Nat.le_add_right _ _) _) (Nat.le_add_right _ _) _) (Nat.le_add_right _ _) _) (Nat.le_add_right _ _) _) (Nat.le_add_right _ _) _) (Nat.le_add_right _ _) _) (Nat.le_add_right _ _) _) (Nat.le_add_right _ _) _) (Nat.le_add_right _ _) _) (Nat.le_add_right _ _) _) (Nat.le_add_right _ _) _) (Nat.le_add_right _ _) _)
         · exact bk_eq (Bk.set (Bk.set (Bk.set (Bk.set (Bk.set (Bk.set (Bk.set (Bk.set (Bk.set (Bk.set (Bk.set (Bk.set (Bk.alloc HZb.out (.cells #[.int .i64 2, .slice none 0 0, .int .i64 k2, .int .i64 m2, .int .i64 p2, .slice An2 nn2 cn2, .slice Ak2 nk2 ck2, .bool o2, .int .i64 lm2, .slice At2 nt2 ct2, .slice none 0 0, .slice none 0 0] 34)) 0 _) 1 _) 2 _) 3 _) 4 _) 5 _) 6 _) 7 _) 8 _) 9 _) 10 _) 11 _) rfl
         · have hne9 := Nat.ne_of_lt HZb.out.lt
           exact (Bk.other (Bk.other (Bk.other (Bk.other (Bk.other (Bk.other (Bk.other (Bk.other (Bk.other (Bk.other (Bk.other (Bk.other (Bk.new wb [.int .i64 2, .slice none 0 0, .int .i64 k2, .int .i64 m2, .int .i64 p2, .slice An2 nn2 cn2, .slice Ak2 nk2 ck2, .bool o2, .int .i64 lm2, .slice At2 nt2 ct2, .slice none 0 0, .slice none 0 0] 34) hne9 0 _) hne9 1 _) hne9 2 _) hne9 3 _) hne9 4 _) hne9 5 _) hne9 6 _) hne9 7 _) hne9 8 _) hne9 9 _) hne9 10 _) hne9 11 _)
         · exact fun W hW => HT1.out W (new_set (Mv.set (Mv.set (Mv.set (Mv.set (Mv.set (Mv.set (Mv.set (Mv.set (Mv.set (Mv.set (Mv.set (Mv.set ((Mv.refl _ wb).alloc (.cells #[.int .i64 2, .slice none 0 0, .int .i64 k2, .int .i64 m2, .int .i64 p2, .slice An2 nn2 cn2, .slice Ak2 nk2 ck2, .bool o2, .int .i64 lm2, .slice At2 nt2 ct2, .slice none 0 0, .slice none 0 0] 34)) 0 _) 1 _) 2 _) 3 _) 4 _) 5 _) 6 _) 7 _) 8 _) 9 _) 10 _) 11 _) (fun k h _ => by simp at h; omega) Hs2.out hW)
         · exact fun W hW => HT2.out W (new_set2 (Mv.set (Mv.set (Mv.set (Mv.set (Mv.set (Mv.set (Mv.set (Mv.set (Mv.set (Mv.set (Mv.set (Mv.set ((Mv.refl _ wb).alloc (.cells #[.int .i64 2, .slice none 0 0, .int .i64 k2, .int .i64 m2, .int .i64 p2, .slice An2 nn2 cn2, .slice Ak2 nk2 ck2, .bool o2, .int .i64 lm2, .slice At2 nt2 ct2, .slice none 0 0, .slice none 0 0] 34)) 0 _) 1 _) 2 _) 3 _) 4 _) 5 _) 6 _) 7 _) 8 _) 9 _) 10 _) 11 _) HZa.out.lt hW)))
  case rest =>
    obtain ⟨Hb5, cb, eb, k1, m1, p1, lm1, o1, An1, Ak1, At1, nn1, cn1, nk1, ck1, nt1, ct1, k2, m2, p2, lm2, o2, An2, Ak2, At2, nn2, cn2, nk2, ck2, nt2, ct2, rfl, HC, HE, HT1, HT2⟩ := hcut
    clear Hs12 HZA HbA HbB HSk C1 C2 HX HY Hx Hy hs Hb
    have hv2 := fun (W : World) (hW : Below wc.heap.size wc W) => (show CmdV W (.mk 2 [] (testN 0 y) [] []) [.int .i64 2, .slice none 0 0, .int .i64 k2, .int .i64 m2, .int .i64 p2, .slice An2 nn2 cn2, .slice Ak2 nk2 ck2, .bool o2, .int .i64 lm2, .slice At2 nt2 ct2, .slice none 0 0, .slice none 0 0] from cmdV_mk (HT2.out W hW) (by unfold CmdsAt; trivial) (by unfold CmdsAt; trivial) rfl rfl (by simp) (by simp))
    have hvA := fun (W : World) (hW : Below wc.heap.size wc W) => (show CmdV W (cA x y) [.int .i64 2, .slice none 0 0, .int .i64 k1, .int .i64 m1, .int .i64 p1, .slice An1 nn1 cn1, .slice Ak1 nk1 ck1, .bool o1, .int .i64 lm1, .slice At1 nt1 ct1, .slice none 0 0, .slice (some ⟨eb, 0, none⟩) 1 1] from cmdV_mk (HT1.out W hW) (by unfold CmdsAt; trivial) (cmdsAt_one (hv2 W hW) (HE.out.later hW)) rfl rfl (by simp) (by simp))
    have hsh := show_one (cA x y) [.int .i64 2, .slice none 0 0, .int .i64 k1, .int .i64 m1, .int .i64 p1, .slice An1 nn1 cn1, .slice Ak1 nk1 ck1, .bool o1, .int .i64 lm1, .slice At1 nt1 ct1, .slice none 0 0, .slice (some ⟨eb, 0, none⟩) 1 1] wc.heap.size (wc.alloc (.cells #[.int .i64 2, .slice none 0 0, .int .i64 k1, .int .i64 m1, .int .i64 p1, .slice An1 nn1 cn1, .slice Ak1 nk1 ck1, .bool o1, .int .i64 lm1, .slice At1 nt1 ct1, .slice none 0 0, .slice (some ⟨eb, 0, none⟩) 1 1] 34)) (ok_A x y) (hvA _ (bal (Below.refl _ _) _)) (Bk.new _ _ _) (Htab.out.later (btr Hb5.out (bal (Below.refl _ _) _))) (by have := len_A x y; omega) (chk_A x y)
    have hcnt := cnt_A x y
    have hlen := len_A x y
    generalize cmdsTk [cA x y] = LA at *
    have x0 := HC.out.cell 0 _ rfl
    have x1 := HC.out.cell 1 _ rfl
    have x2 := HC.out.cell 2 _ rfl
    have x3 := HC.out.cell 3 _ rfl
    have x4 := HC.out.cell 4 _ rfl
    have x5 := HC.out.cell 5 _ rfl
    have x6 := HC.out.cell 6 _ rfl
    have x7 := HC.out.cell 7 _ rfl
    have x8 := HC.out.cell 8 _ rfl
    have x9 := HC.out.cell 9 _ rfl
    have x10 := HC.out.cell 10 _ rfl
    have x11 := HC.out.cell 11 _ rfl
    have Hsh := Lib.hid hsh
    have Hcnt := Lib.hid hcnt
    have Hv2 := Lib.hid hv2
    clear hsh hcnt hv2 hvA
    have hal := bal (Below.refl _ wc) (.cells #[.int .i64 2, .slice none 0 0, .int .i64 k1, .int .i64 m1, .int .i64 p1, .slice An1 nn1 cn1, .slice Ak1 nk1 ck1, .bool o1, .int .i64 lm1, .slice At1 nt1 ct1, .slice none 0 0, .slice (some ⟨eb, 0, none⟩) 1 1] 34)
    have Hal := Lib.hid hal
    clear hal
    go_upto_region 3 with (go_at_call 17; (with_reducible refine Hsh.out.mono ?_); rintro e w6 ⟨A6, c6, rfl, HR6, hb6⟩; have Hb6 := Lib.hid (btr Hal.out hb6); clear hb6 Hsh)
    clear x0 x1 x2 x3 x4 x5 x6 x7 x8 x9 x10 x11
    go_wp2_with fail
    go_loopw [8, 9] (fun one i wr => ∃ j : Nat, j ≤ LA.length ∧ i = .int .i64 j ∧ one = .int .i64 (cntW elsifS (LA.take j) : Nat) ∧ wr = w6) (fun _ i _ => LA.length - (intOf i).toNat)
    case atStart => exact ⟨0, Nat.zero_le _, rfl, rfl, rfl⟩
    case round =>
      obtain ⟨j, hj, rfl, rfl, rfl⟩ := hrel
      have hcle := cntW_le elsifS LA j
      by_cases hlt : j < LA.length
      · obtain ⟨tk, htk⟩ : ∃ t, LA[j]? = some t := ⟨LA[j], by simp [hlt]⟩
        obtain ⟨g, off, rfl, hcell⟩ := HR6.out.resolve_left (by rintro rfl; simp at hlt)
        obtain ⟨t0, t1, _⟩ := hcell j tk htk
        have hne := cntW_mem Hcnt.out.2 htk
        have hct := cntW_take (s := elsifS) htk
        obtain ⟨kk, tt, nn⟩ := tk
        dsimp only at t0 t1
        have hj0 : (0 : Int) ≤ (j : Int) := by omega
        have hjn : (j : Int) < (LA.length : Int) := by omega
        have Hct := Lib.hid hct
        clear hct hcell htk
        generalize cntW elsifS (LA.take j) = cn at *
        by_cases hk : kk = 1
        · subst hk
          have hn2 : tt ≠ elseS := by rintro rfl; simp [isW] at hne
          have n2 := eqS_no (l := [101, 108, 115, 101]) rfl hn2
          by_cases h1 : tt = elsifS
          · have n1 := eqS_yes (l := [101, 108, 115, 105, 102]) rfl h1
            have hct := Hct.out
            rw [show isW elsifS ⟨1, tt, nn⟩ = true by simp [isW, h1], if_pos rfl] at hct
            have Hct2 := Lib.hid hct
            clear hct Hct h1 hn2 hne
            go_wp2_with fail
            go_roundw
            case rel => exact ⟨j + 1, by omega, by go_num, by rw [Hct2.out]; go_num, by first | rfl | trivial⟩
            case measure => simp [intOf]; omega
          · have n1 := eqS_no (l := [101, 108, 115, 105, 102]) rfl h1
            have hct := Hct.out
            rw [show isW elsifS ⟨1, tt, nn⟩ = false by simp [isW, h1], if_neg (by decide), Nat.add_zero] at hct
            have Hct2 := Lib.hid hct
            clear hct Hct h1 hn2 hne
            go_wp2_with fail
            go_roundw
            case rel => exact ⟨j + 1, by omega, by go_num, by first | (rw [Hct2.out]; done) | (rw [Hct2.out]; rfl) | (rw [Hct2.out]; go_num), by first | rfl | trivial⟩
            case measure => simp [intOf]; omega
        · have hkb : (kk == 1) = false := by rw [beq_eq_false_iff_ne]; exact hk
          have hct := Hct.out
          rw [show isW elsifS ⟨kk, tt, nn⟩ = false from isW_kind hk, if_neg (by decide), Nat.add_zero] at hct
          have Hct2 := Lib.hid hct
          clear hct Hct hne hk
          go_wp2_with fail
          go_roundw
          case rel => exact ⟨j + 1, by omega, by go_num, by first | (rw [Hct2.out]; done) | (rw [Hct2.out]; rfl) | (rw [Hct2.out]; go_num), by first | rfl | trivial⟩
          case measure => simp [intOf]; omega
      · obtain rfl : j = LA.length := by omega
        have hone := Hcnt.out.1
        rw [List.take_length] at *
        rw [hone] at *
        obtain ⟨wo, hwo⟩ : ∃ wo, wo = wr := ⟨_, rfl⟩
        subst hwo
        clear HR6 hcle hlt Hcnt hone hj
        have HC6 := Lib.hid (HC.out.later Hb6.out)
        have HE6 := Lib.hid (HE.out.later Hb6.out)
        have x0 := HC6.out.cell 0 _ rfl
        have x1 := HC6.out.cell 1 _ rfl
        have x2 := HC6.out.cell 2 _ rfl
        have x3 := HC6.out.cell 3 _ rfl
        have x4 := HC6.out.cell 4 _ rfl
        have x5 := HC6.out.cell 5 _ rfl
        have x6 := HC6.out.cell 6 _ rfl
        have x7 := HC6.out.cell 7 _ rfl
        have x8 := HC6.out.cell 8 _ rfl
        have x9 := HC6.out.cell 9 _ rfl
        have x10 := HC6.out.cell 10 _ rfl
        have x11 := HC6.out.cell 11 _ rfl
        go_upto_region 12 with fail
        have HD7 := Lib.hid (Bk.new wo [.int .i64 2, .slice none 0 0, .int .i64 k1, .int .i64 m1, .int .i64 p1, .slice An1 nn1 cn1, .slice Ak1 nk1 ck1, .bool o1, .int .i64 lm1, .slice At1 nt1 ct1, .slice none 0 0, .slice (some ⟨eb, 0, none⟩) 1 1] 34)
        have HC7 := Lib.hid (HC6.out.alloc (.cells #[.int .i64 2, .slice none 0 0, .int .i64 k1, .int .i64 m1, .int .i64 p1, .slice An1 nn1 cn1, .slice Ak1 nk1 ck1, .bool o1, .int .i64 lm1, .slice At1 nt1 ct1, .slice none 0 0, .slice (some ⟨eb, 0, none⟩) 1 1] 34))
        have HE7 := Lib.hid (HE6.out.alloc (.cells #[.int .i64 2, .slice none 0 0, .int .i64 k1, .int .i64 m1, .int .i64 p1, .slice An1 nn1 cn1, .slice Ak1 nk1 ck1, .bool o1, .int .i64 lm1, .slice At1 nt1 ct1, .slice none 0 0, .slice (some ⟨eb, 0, none⟩) 1 1] 34))
        have Hb7 := Lib.hid (btr Hb6.out (bal (Below.refl _ wo) (.cells #[.int .i64 2, .slice none 0 0, .int .i64 k1, .int .i64 m1, .int .i64 p1, .slice An1 nn1 cn1, .slice Ak1 nk1 ck1, .bool o1, .int .i64 lm1, .slice At1 nt1 ct1, .slice none 0 0, .slice (some ⟨eb, 0, none⟩) 1 1] 34)))
        have hs7 : wo.heap.size < (wo.alloc (.cells #[.int .i64 2, .slice none 0 0, .int .i64 k1, .int .i64 m1, .int .i64 p1, .slice An1 nn1 cn1, .slice Ak1 nk1 ck1, .bool o1, .int .i64 lm1, .slice At1 nt1 ct1, .slice none 0 0, .slice (some ⟨eb, 0, none⟩) 1 1] 34)).heap.size := by simp
        clear x0 x1 x2 x3 x4 x5 x6 x7 x8 x9 x10 x11 HC6 HE6
        generalize wo.alloc (.cells #[.int .i64 2, .slice none 0 0, .int .i64 k1, .int .i64 m1, .int .i64 p1, .slice An1 nn1 cn1, .slice Ak1 nk1 ck1, .bool o1, .int .i64 lm1, .slice At1 nt1 ct1, .slice none 0 0, .slice (some ⟨eb, 0, none⟩) 1 1] 34) = w7 at *
        obtain ⟨i0, hi, hz0, hz1, hz2⟩ := info_parts info_cmd
        have hrow := own_oneS (base := w7.heap.size) (Bk.new w7 [.int .i64 3, .slice none 0 0, .int .i64 0, .int .i64 0, .int .i64 0, .slice none 0 0, .slice none 0 0, .bool false, .int .i64 0, .slice none 0 0, .slice none 0 0, .slice none 0 0] 34) (Nat.le_refl _) rfl
        have hnw := bk_news (HE7.out.alloc (.cells #[.int .i64 3, .slice none 0 0, .int .i64 0, .int .i64 0, .int .i64 0, .slice none 0 0, .slice none 0 0, .bool false, .int .i64 0, .slice none 0 0, .slice none 0 0, .slice none 0 0] 34))
        have v11 := (HC7.out.alloc (.cells #[.int .i64 3, .slice none 0 0, .int .i64 0, .int .i64 0, .int .i64 0, .slice none 0 0, .slice none 0 0, .bool false, .int .i64 0, .slice none 0 0, .slice none 0 0, .slice none 0 0] 34)).cell 11 _ rfl
        have hfin : ∀ (v' : Value) (w9 : World), w9.ownsRow w7.heap.size 34 12 v' 2 ([.int .i64 3, .slice none 0 0, .int .i64 0, .int .i64 0, .int .i64 0, .slice none 0 0, .slice none 0 0, .bool false, .int .i64 0, .slice none 0 0, .slice none 0 0, .slice none 0 0] ++ [.int .i64 2, .slice none 0 0, .int .i64 k2, .int .i64 m2, .int .i64 p2, .slice An2 nn2 cn2, .slice Ak2 nk2 ck2, .bool o2, .int .i64 lm2, .slice At2 nt2 ct2, .slice none 0 0, .slice none 0 0]) → (w7.alloc (.cells #[.int .i64 3, .slice none 0 0, .int .i64 0, .int .i64 0, .int .i64 0, .slice none 0 0, .slice none 0 0, .bool false, .int .i64 0, .slice none 0 0, .slice none 0 0, .slice none 0 0] 34)).grownBy w9 (Value.ownBlock (.slice (some ⟨w7.heap.size, 0, none⟩) 1 1)) → ∃ g9 cap9, v' = .slice (some ⟨g9, 0, none⟩) 2 cap9 ∧ w9.cell? ⟨wo.heap.size, 11, none⟩ = some (.slice (some ⟨eb, 0, none⟩) 1 1) ∧ w9.frozen? ⟨wo.heap.size, 11, none⟩ = false ∧ Hid (Bk (w9.setCell ⟨wo.heap.size, 11, none⟩ (.slice (some ⟨g9, 0, none⟩) 2 cap9)) wo.heap.size [.int .i64 2, .slice none 0 0, .int .i64 k1, .int .i64 m1, .int .i64 p1, .slice An1 nn1 cn1, .slice Ak1 nk1 ck1, .bool o1, .int .i64 lm1, .slice At1 nt1 ct1, .slice none 0 0, .slice (some ⟨g9, 0, none⟩) 2 cap9] 34 ∧ (∃ cs, Bk (w9.setCell ⟨wo.heap.size, 11, none⟩ (.slice (some ⟨g9, 0, none⟩) 2 cap9)) g9 cs 34 ∧ cs.take 24 = [.int .i64 3, .slice none 0 0, .int .i64 0, .int .i64 0, .int .i64 0, .slice none 0 0, .slice none 0 0, .bool false, .int .i64 0, .slice none 0 0, .slice none 0 0, .slice none 0 0] ++ [.int .i64 2, .slice none 0 0, .int .i64 k2, .int .i64 m2, .int .i64 p2, .slice An2 nn2 cn2, .slice Ak2 nk2 ck2, .bool o2, .int .i64 lm2, .slice At2 nt2 ct2, .slice none 0 0, .slice none 0 0]) ∧ 2 ≤ cap9 ∧ Below wc.heap.size wc (w9.setCell ⟨wo.heap.size, 11, none⟩ (.slice (some ⟨g9, 0, none⟩) 2 cap9))) := fun v' w9 hown hgr => by
          obtain ⟨g9, cap9, rfl, hg1, hg2, cs, hcs, htk⟩ := own_bkS (by decide) hown
          have hD9 := (HD7.out.alloc (.cells #[.int .i64 3, .slice none 0 0, .int .i64 0, .int .i64 0, .int .i64 0, .slice none 0 0, .slice none 0 0, .bool false, .int .i64 0, .slice none 0 0, .slice none 0 0, .slice none 0 0] 34)).grown hgr (by simp [Value.ownBlock]; omega)
          exact ⟨g9, cap9, rfl, hD9.cell 11 _ rfl, hD9.frozen 11, Lib.hid ⟨hD9.set 11 _, ⟨cs, hcs.other (by omega) 11 _, htk⟩, hg2, (((Hb7.out.alloc Hb7.out.size _).grown hgr (by have := Hb7.out.size; simp; omega) (fun k e => Nat.le_trans Hb7.out.size (own_base' hrow k e))).setCell (p := ⟨wo.heap.size, 11, none⟩) Hb6.out.size _)⟩⟩
        have Hfin := Lib.hid hfin
        clear hfin
        go_upto_region 13 with (at_builtin; refine wpList_append_own _ rfl _ _ 32 rfl w7.heap.size 34 i0 (.agg #[.int .i64 0, .slice none 0 0, .int .i64 0, .int .i64 0, .int .i64 0, .slice none 0 0, .slice none 0 0, .bool false, .int .i64 0, .slice none 0 0, .slice none 0 0, .slice none 0 0]) 12 192 Tryd.underlying32 hi hz0 hz1 hz2 rfl (by decide) _ _ _ rfl hrow ⟨eb, 0, none⟩ 1 1 [.int .i64 2, .slice none 0 0, .int .i64 k2, .int .i64 m2, .int .i64 p2, .slice An2 nn2 cn2, .slice Ak2 nk2 ck2, .bool o2, .int .i64 lm2, .slice At2 nt2 ct2, .slice none 0 0, .slice none 0 0] rfl rfl hnw (by simp [Value.oneCell']) (by unfold maxLen; omega) (by omega) (by simp) ?_; intro v' w9 hown' hgrow _; obtain ⟨g9, cap9, rfl, d0, d1, Hf⟩ := Hfin.out _ w9 hown' hgrow; clear hgrow hnw hown' hrow)
        obtain ⟨hD, ⟨cs9, hG, htk⟩, hcap, hb10⟩ := Hf.out
        have HD := Lib.hid hD
        have HG := Lib.hid hG
        have Hb10 := Lib.hid hb10
        clear hD hG hb10 Hf d0 d1 Hfin v11 HD7 HC7 HE7 Hb7
        generalize w9.setCell ⟨wo.heap.size, 11, none⟩ (.slice (some ⟨g9, 0, none⟩) 2 cap9) = w10 at *
        have hal := bal (Below.refl _ w10) (.cells #[.int .i64 2, .slice none 0 0, .int .i64 k1, .int .i64 m1, .int .i64 p1, .slice An1 nn1 cn1, .slice Ak1 nk1 ck1, .bool o1, .int .i64 lm1, .slice At1 nt1 ct1, .slice none 0 0, .slice (some ⟨g9, 0, none⟩) 2 cap9] 34)
        have hvB := (show CmdV (w10.alloc (.cells #[.int .i64 2, .slice none 0 0, .int .i64 k1, .int .i64 m1, .int .i64 p1, .slice An1 nn1 cn1, .slice Ak1 nk1 ck1, .bool o1, .int .i64 lm1, .slice At1 nt1 ct1, .slice none 0 0, .slice (some ⟨g9, 0, none⟩) 2 cap9] 34)) (cB x y) [.int .i64 2, .slice none 0 0, .int .i64 k1, .int .i64 m1, .int .i64 p1, .slice An1 nn1 cn1, .slice Ak1 nk1 ck1, .bool o1, .int .i64 lm1, .slice At1 nt1 ct1, .slice none 0 0, .slice (some ⟨g9, 0, none⟩) 2 cap9] from cmdV_mk (HT1.out _ (btr Hb10.out hal)) (by unfold CmdsAt; trivial) (cmdsAt_two (cmdV_keep _) (Hv2.out _ (btr Hb10.out hal)) rfl rfl (HG.out.later hal) htk) rfl rfl (by simp) (by simp; omega))
        have hsh := show_one (cB x y) [.int .i64 2, .slice none 0 0, .int .i64 k1, .int .i64 m1, .int .i64 p1, .slice An1 nn1 cn1, .slice Ak1 nk1 ck1, .bool o1, .int .i64 lm1, .slice At1 nt1 ct1, .slice none 0 0, .slice (some ⟨g9, 0, none⟩) 2 cap9] w10.heap.size (w10.alloc (.cells #[.int .i64 2, .slice none 0 0, .int .i64 k1, .int .i64 m1, .int .i64 p1, .slice An1 nn1 cn1, .slice Ak1 nk1 ck1, .bool o1, .int .i64 lm1, .slice At1 nt1 ct1, .slice none 0 0, .slice (some ⟨g9, 0, none⟩) 2 cap9] 34)) (ok_B x y) hvB (Bk.new _ _ _) (Htab.out.later (btr Hb5.out (btr Hb10.out hal))) (by have := len_B x y; omega) (chk_B x y)
        have hcntB := cnt_B x y
        have hlenB := len_B x y
        generalize cmdsTk [cB x y] = LB at *
        have x0 := HD.out.cell 0 _ rfl
        have x1 := HD.out.cell 1 _ rfl
        have x2 := HD.out.cell 2 _ rfl
        have x3 := HD.out.cell 3 _ rfl
        have x4 := HD.out.cell 4 _ rfl
        have x5 := HD.out.cell 5 _ rfl
        have x6 := HD.out.cell 6 _ rfl
        have x7 := HD.out.cell 7 _ rfl
        have x8 := HD.out.cell 8 _ rfl
        have x9 := HD.out.cell 9 _ rfl
        have x10 := HD.out.cell 10 _ rfl
        have x11 := HD.out.cell 11 _ rfl
        have Hsh := Lib.hid hsh
        have HcntB := Lib.hid hcntB
        have Hal2 := Lib.hid hal
        clear hsh hcntB hal hvB htk
        go_upto_region 14 with (go_at_call 17; (with_reducible refine Hsh.out.mono ?_); rintro e w11 ⟨A7, c7, rfl, HR7, hb7⟩; have Hb11 := Lib.hid (btr Hal2.out hb7); clear hb7 Hsh)
        clear x0 x1 x2 x3 x4 x5 x6 x7 x8 x9 x10 x11
        go_wp2_with fail
        go_loopw [13, 14] (fun one i wr => ∃ j : Nat, j ≤ LB.length ∧ i = .int .i64 j ∧ one = .int .i64 (cntW elseS (LB.take j) : Nat) ∧ wr = w11) (fun _ i _ => LB.length - (intOf i).toNat)
        case atStart => exact ⟨0, Nat.zero_le _, rfl, rfl, rfl⟩
        case round =>
          obtain ⟨j, hj, rfl, rfl, rfl⟩ := hrel
          have hcle := cntW_le elseS LB j
          by_cases hlt : j < LB.length
          · obtain ⟨tk, htk⟩ : ∃ t, LB[j]? = some t := ⟨LB[j], by simp [hlt]⟩
            obtain ⟨g, off, rfl, hcell⟩ := HR7.out.resolve_left (by rintro rfl; simp at hlt)
            obtain ⟨t0, t1, _⟩ := hcell j tk htk
            have hct := cntW_take (s := elseS) htk
            obtain ⟨kk, tt, nn⟩ := tk
            dsimp only at t0 t1
            have hj0 : (0 : Int) ≤ (j : Int) := by omega
            have hjn : (j : Int) < (LB.length : Int) := by omega
            have Hct := Lib.hid hct
            clear hct hcell htk
            generalize cntW elseS (LB.take j) = cn at *
            by_cases hk : kk = 1
            · subst hk
              by_cases h1 : tt = elseS
              · have n1 := eqS_yes (l := [101, 108, 115, 101]) rfl h1
                have hct := Hct.out
                rw [show isW elseS ⟨1, tt, nn⟩ = true by simp [isW, h1], if_pos rfl] at hct
                have Hct2 := Lib.hid hct
                clear hct Hct h1
                go_wp2_with fail
                go_roundw
                case rel => exact ⟨j + 1, by omega, by go_num, by rw [Hct2.out]; go_num, by first | rfl | trivial⟩
                case measure => simp [intOf]; omega
              · have n1 := eqS_no (l := [101, 108, 115, 101]) rfl h1
                have hct := Hct.out
                rw [show isW elseS ⟨1, tt, nn⟩ = false by simp [isW, h1], if_neg (by decide), Nat.add_zero] at hct
                have Hct2 := Lib.hid hct
                clear hct Hct h1
                go_wp2_with fail
                go_roundw
                case rel => exact ⟨j + 1, by omega, by go_num, by first | (rw [Hct2.out]; done) | (rw [Hct2.out]; rfl) | (rw [Hct2.out]; go_num), by first | rfl | trivial⟩
                case measure => simp [intOf]; omega
            · have hkb : (kk == 1) = false := by rw [beq_eq_false_iff_ne]; exact hk
              have hct := Hct.out
              rw [show isW elseS ⟨kk, tt, nn⟩ = false from isW_kind hk, if_neg (by decide), Nat.add_zero] at hct
              have Hct2 := Lib.hid hct
              clear hct Hct hk
              go_wp2_with fail
              go_roundw
              case rel => exact ⟨j + 1, by omega, by go_num, by first | (rw [Hct2.out]; done) | (rw [Hct2.out]; rfl) | (rw [Hct2.out]; go_num), by first | rfl | trivial⟩
              case measure => simp [intOf]; omega
          · obtain rfl : j = LB.length := by omega
            have hone := HcntB.out
            rw [List.take_length] at *
            rw [hone] at *
            go_wp2_with fail
            go_ret
            exact ⟨rfl, btr Hb5.out (btr Hb10.out Hb11.out)⟩
end Go.Proofs.YtgmnoemkdigafaaDoor
