/- The helper Command of the statements: an if (at each of its places). The helper Command of the statements: an if where it is deep (at each of its places). The helper Command of the statements: kind 3. The helper Command of the statements: kind 4. The helper Command of the statements: kind 5. -/
import Derived.Test.YtgmnoemkdigafaaDoorZB1
import Derived.Test.YtgmnoemkdigafaaDoorZB18
import Derived.Laws.Rows
import Derived.Deep.RegionLaw
import Derived.Deep.AppendLies
import Derived.Deep.DeepCutAuto
import Derived.Deep.CutBlock
import Derived.RegionTactic
import Derived.BigRegion
import Derived.IntWalk
import Derived.Test.YtgmnoemkdigafaaDoorZB12
namespace Go.Proofs.YtgmnoemkdigafaaDoor
open Go.RowKit
set_option linter.unusedVariables false

set_option maxRecDepth 100000 in
set_option maxHeartbeats 8000000 in
theorem cmd_i (v : Nat) (hv : v = 1 ∨ v = 3 ∨ v = 5 ∨ v = 11) (kk a b : Int) (s t : ByteArray) (inn : List Stk) (A : Option Addr) (c : Nat) (d : Int) (w : World) (hd0 : 0 ≤ d) (hd : d ≤ 1000) (h2 : d < 2) (hsz : inn.length ≤ 140737488351232) (cf : List Stk → List Cmd) (hcfl : ∀ l, (cf l).length ≤ 4) (ihc : ∀ (l : List Stk) (A : Option Addr) (c : Nat) (W : World), (∀ s ∈ l, s ∈ inn) → StksAt W l A → l.length ≤ 140737488351232 → Calls Tryd.prog 31 #[.slice A l.length c, .int .i64 (d + 1)] W (CmdsA (cf l) W)) (hP12 : pickN kk 12 = v) (hB : StkB kk a b s t inn.length c) (hA : StksAt w inn A) :
    Calls Tryd.prog 47 #[.agg #[.int .i64 kk, .int .i64 a, .int .i64 b, .string s, .string t, .slice A inn.length c], .int .i64 d] w fun e w' => ∃ tv, e = .returned (.agg (List.toArray tv)) ∧ (∀ W, New w.heap.size w' W → CmdV W (.mk 2 [] (testN 2 (Stk.mk kk a b s t inn).tst) (cf (inn.take ((inn.length + 1) / 2))) (cf (inn.drop ((inn.length + 1) / 2)))) tv) ∧ Below w.heap.size w w' := by
  have hB0 := hB
  obtain ⟨wk, wa, wb, ws, wt, hc1, hc2⟩ := hB
  unfold maxLen at ws wt hc2
  have hX := Bk.new w [.int .i64 kk, .int .i64 a, .int .i64 b, .string s, .string t, .slice A inn.length c] 39
  have hbx : Below w.heap.size w (w.alloc (.cells #[.int .i64 kk, .int .i64 a, .int .i64 b, .string s, .string t, .slice A inn.length c] 39)) := bal (Below.refl _ _) _
  have HX := Lib.hid hX
  have Hbx := Lib.hid hbx
  clear hX hbx
  have P12 : ∀ W : World, Calls Tryd.prog 13 #[.int .i64 kk, .int .i64 12] W fun e w' => e = .returned (.int .i64 ((v : Nat) : Int)) ∧ W = w' := fun W => by
    have h := picked_calls kk 12 W wk (by decide) (by decide)
    rw [hP12] at h
    exact h
  have HB0 := Lib.hid hB0
  have Hihc := Lib.hid ihc
  have HA := Lib.hid hA
  clear ihc hA hB0
  go_enter Tryd.func47, Tryd.ntmps47
  go_upto_region 1 with fail
  have hR := Bk.new (w.alloc (.cells #[.int .i64 kk, .int .i64 a, .int .i64 b, .string s, .string t, .slice A inn.length c] 39)) [.int .i64 0, .slice none 0 0, .int .i64 0, .int .i64 0, .int .i64 0, .slice none 0 0, .slice none 0 0, .bool false, .int .i64 0, .slice none 0 0, .slice none 0 0, .slice none 0 0] 34
  have hX2 := HX.out.alloc (.cells #[.int .i64 0, .slice none 0 0, .int .i64 0, .int .i64 0, .int .i64 0, .slice none 0 0, .slice none 0 0, .bool false, .int .i64 0, .slice none 0 0, .slice none 0 0, .slice none 0 0] 34)
  have hb2 := bal Hbx.out (.cells #[.int .i64 0, .slice none 0 0, .int .i64 0, .int .i64 0, .int .i64 0, .slice none 0 0, .slice none 0 0, .bool false, .int .i64 0, .slice none 0 0, .slice none 0 0, .slice none 0 0] 34)
  have hs1 : (w.alloc (.cells #[.int .i64 kk, .int .i64 a, .int .i64 b, .string s, .string t, .slice A inn.length c] 39)).heap.size = w.heap.size + 1 := by simp
  rw [hs1] at hR
  have hs2 : ((w.alloc (.cells #[.int .i64 kk, .int .i64 a, .int .i64 b, .string s, .string t, .slice A inn.length c] 39)).alloc (.cells #[.int .i64 0, .slice none 0 0, .int .i64 0, .int .i64 0, .int .i64 0, .slice none 0 0, .slice none 0 0, .bool false, .int .i64 0, .slice none 0 0, .slice none 0 0, .slice none 0 0] 34)).heap.size = w.heap.size + 2 := by simp
  have HR := Lib.hid hR
  have HX2 := Lib.hid hX2
  have Hb2 := Lib.hid hb2
  clear hR hX2 hb2 hs1 HX Hbx
  generalize (w.alloc (.cells #[.int .i64 kk, .int .i64 a, .int .i64 b, .string s, .string t, .slice A inn.length c] 39)).alloc (.cells #[.int .i64 0, .slice none 0 0, .int .i64 0, .int .i64 0, .int .i64 0, .slice none 0 0, .slice none 0 0, .bool false, .int .i64 0, .slice none 0 0, .slice none 0 0, .slice none 0 0] 34) = w2 at *
  have x0 := HX2.out.cell 0 _ rfl

  have hv2 : (v : Int) < 12 := by omega
  have hv3 : (0 : Int) ≤ (v : Int) := by omega
  have z0 : ([.int .i64 3, .int .i64 2, .int .i64 5, .int .i64 2, .int .i64 6, .int .i64 2, .int .i64 4, .int .i64 8, .int .i64 9, .int .i64 7, .int .i64 10, .int .i64 2] : List Value)[v]? = some (.int .i64 2) := by rcases hv with rfl | rfl | rfl | rfl <;> rfl
  clear hv
  go_upto_region 2 with (go_at_call 13; refine (P12 _).mono ?_; rintro e w' ⟨rfl, rfl⟩)
  clear P12 x0
  have hs3 : (w2.alloc (.cells #[.int .i64 3, .int .i64 2, .int .i64 5, .int .i64 2, .int .i64 6, .int .i64 2, .int .i64 4, .int .i64 8, .int .i64 9, .int .i64 7, .int .i64 10, .int .i64 2] 3)).heap.size = w.heap.size + 3 := by first | (simp; done) | (simp; omega)
  have hR3 : Bk (w2.alloc (.cells #[.int .i64 3, .int .i64 2, .int .i64 5, .int .i64 2, .int .i64 6, .int .i64 2, .int .i64 4, .int .i64 8, .int .i64 9, .int .i64 7, .int .i64 10, .int .i64 2] 3)) (w.heap.size + 1) [.int .i64 0, .slice none 0 0, .int .i64 0, .int .i64 0, .int .i64 0, .slice none 0 0, .slice none 0 0, .bool false, .int .i64 0, .slice none 0 0, .slice none 0 0, .slice none 0 0] 34 := (Bk.alloc HR.out (.cells #[.int .i64 3, .int .i64 2, .int .i64 5, .int .i64 2, .int .i64 6, .int .i64 2, .int .i64 4, .int .i64 8, .int .i64 9, .int .i64 7, .int .i64 10, .int .i64 2] 3))
  have hX3 : Bk (w2.alloc (.cells #[.int .i64 3, .int .i64 2, .int .i64 5, .int .i64 2, .int .i64 6, .int .i64 2, .int .i64 4, .int .i64 8, .int .i64 9, .int .i64 7, .int .i64 10, .int .i64 2] 3)) w.heap.size [.int .i64 kk, .int .i64 a, .int .i64 b, .string s, .string t, .slice A inn.length c] 39 := (Bk.alloc HX2.out (.cells #[.int .i64 3, .int .i64 2, .int .i64 5, .int .i64 2, .int .i64 6, .int .i64 2, .int .i64 4, .int .i64 8, .int .i64 9, .int .i64 7, .int .i64 10, .int .i64 2] 3))
  have hL3 : Bk (w2.alloc (.cells #[.int .i64 3, .int .i64 2, .int .i64 5, .int .i64 2, .int .i64 6, .int .i64 2, .int .i64 4, .int .i64 8, .int .i64 9, .int .i64 7, .int .i64 10, .int .i64 2] 3)) (w.heap.size + 2) [.int .i64 3, .int .i64 2, .int .i64 5, .int .i64 2, .int .i64 6, .int .i64 2, .int .i64 4, .int .i64 8, .int .i64 9, .int .i64 7, .int .i64 10, .int .i64 2] 3 := (bk_newN (w2) (w.heap.size + 2) [.int .i64 3, .int .i64 2, .int .i64 5, .int .i64 2, .int .i64 6, .int .i64 2, .int .i64 4, .int .i64 8, .int .i64 9, .int .i64 7, .int .i64 10, .int .i64 2] 3 (by first | omega | (simp; done) | (simp; omega)))
  have hb3 : Below w.heap.size w (w2.alloc (.cells #[.int .i64 3, .int .i64 2, .int .i64 5, .int .i64 2, .int .i64 6, .int .i64 2, .int .i64 4, .int .i64 8, .int .i64 9, .int .i64 7, .int .i64 10, .int .i64 2] 3)) := (bal Hb2.out _)
  have HR3 := Lib.hid hR3
  have HX3 := Lib.hid hX3
  have HL3 := Lib.hid hL3
  have HB3 := Lib.hid hb3
  clear hR3 hX3 hL3 hb3 HR HX2 Hb2
  generalize w2.alloc (.cells #[.int .i64 3, .int .i64 2, .int .i64 5, .int .i64 2, .int .i64 6, .int .i64 2, .int .i64 4, .int .i64 8, .int .i64 9, .int .i64 7, .int .i64 10, .int .i64 2] 3) = w3 at *
  go_upto_region 5 with fail
  have hs4 : (w3.alloc (.cells #[.int .i64 2, .slice none 0 0, .int .i64 0, .int .i64 0, .int .i64 0, .slice none 0 0, .slice none 0 0, .bool false, .int .i64 0, .slice none 0 0, .slice none 0 0, .slice none 0 0] 34)).heap.size = w.heap.size + 4 := by first | (simp; done) | (simp; omega)
  have hR4 : Bk (w3.alloc (.cells #[.int .i64 2, .slice none 0 0, .int .i64 0, .int .i64 0, .int .i64 0, .slice none 0 0, .slice none 0 0, .bool false, .int .i64 0, .slice none 0 0, .slice none 0 0, .slice none 0 0] 34)) (w.heap.size + 1) [.int .i64 0, .slice none 0 0, .int .i64 0, .int .i64 0, .int .i64 0, .slice none 0 0, .slice none 0 0, .bool false, .int .i64 0, .slice none 0 0, .slice none 0 0, .slice none 0 0] 34 := (Bk.alloc HR3.out (.cells #[.int .i64 2, .slice none 0 0, .int .i64 0, .int .i64 0, .int .i64 0, .slice none 0 0, .slice none 0 0, .bool false, .int .i64 0, .slice none 0 0, .slice none 0 0, .slice none 0 0] 34))
  have hX4 : Bk (w3.alloc (.cells #[.int .i64 2, .slice none 0 0, .int .i64 0, .int .i64 0, .int .i64 0, .slice none 0 0, .slice none 0 0, .bool false, .int .i64 0, .slice none 0 0, .slice none 0 0, .slice none 0 0] 34)) w.heap.size [.int .i64 kk, .int .i64 a, .int .i64 b, .string s, .string t, .slice A inn.length c] 39 := (Bk.alloc HX3.out (.cells #[.int .i64 2, .slice none 0 0, .int .i64 0, .int .i64 0, .int .i64 0, .slice none 0 0, .slice none 0 0, .bool false, .int .i64 0, .slice none 0 0, .slice none 0 0, .slice none 0 0] 34))
  have hL4 : Bk (w3.alloc (.cells #[.int .i64 2, .slice none 0 0, .int .i64 0, .int .i64 0, .int .i64 0, .slice none 0 0, .slice none 0 0, .bool false, .int .i64 0, .slice none 0 0, .slice none 0 0, .slice none 0 0] 34)) (w.heap.size + 2) [.int .i64 3, .int .i64 2, .int .i64 5, .int .i64 2, .int .i64 6, .int .i64 2, .int .i64 4, .int .i64 8, .int .i64 9, .int .i64 7, .int .i64 10, .int .i64 2] 3 := (Bk.alloc HL3.out (.cells #[.int .i64 2, .slice none 0 0, .int .i64 0, .int .i64 0, .int .i64 0, .slice none 0 0, .slice none 0 0, .bool false, .int .i64 0, .slice none 0 0, .slice none 0 0, .slice none 0 0] 34))
  have hT4 : Bk (w3.alloc (.cells #[.int .i64 2, .slice none 0 0, .int .i64 0, .int .i64 0, .int .i64 0, .slice none 0 0, .slice none 0 0, .bool false, .int .i64 0, .slice none 0 0, .slice none 0 0, .slice none 0 0] 34)) (w.heap.size + 3) [.int .i64 2, .slice none 0 0, .int .i64 0, .int .i64 0, .int .i64 0, .slice none 0 0, .slice none 0 0, .bool false, .int .i64 0, .slice none 0 0, .slice none 0 0, .slice none 0 0] 34 := (bk_newN (w3) (w.heap.size + 3) [.int .i64 2, .slice none 0 0, .int .i64 0, .int .i64 0, .int .i64 0, .slice none 0 0, .slice none 0 0, .bool false, .int .i64 0, .slice none 0 0, .slice none 0 0, .slice none 0 0] 34 (by first | omega | (simp; done) | (simp; omega)))
  have hb4 : Below w.heap.size w (w3.alloc (.cells #[.int .i64 2, .slice none 0 0, .int .i64 0, .int .i64 0, .int .i64 0, .slice none 0 0, .slice none 0 0, .bool false, .int .i64 0, .slice none 0 0, .slice none 0 0, .slice none 0 0] 34)) := (bal HB3.out _)
  have HR4 := Lib.hid hR4
  have HX4 := Lib.hid hX4
  have HL4 := Lib.hid hL4
  have HT4 := Lib.hid hT4
  have HB4 := Lib.hid hb4
  clear hR4 hX4 hL4 hT4 hb4 HR3 HX3 HL3 HB3
  generalize w3.alloc (.cells #[.int .i64 2, .slice none 0 0, .int .i64 0, .int .i64 0, .int .i64 0, .slice none 0 0, .slice none 0 0, .bool false, .int .i64 0, .slice none 0 0, .slice none 0 0, .slice none 0 0] 34) = w4 at *
  have x1 := HX4.out.cell 1 _ rfl
  have x2 := HX4.out.cell 2 _ rfl
  have x3 := HX4.out.cell 3 _ rfl
  have x4 := HX4.out.cell 4 _ rfl
  go_upto_region 8 with fail
  have hs5 : (w4.alloc (.cells #[.int .i64 a, .int .i64 b, .int .i64 a, .string s, .string t, .slice none 0 0] 39)).heap.size = w.heap.size + 5 := by first | (simp; done) | (simp; omega)
  have hR5 : Bk (w4.alloc (.cells #[.int .i64 a, .int .i64 b, .int .i64 a, .string s, .string t, .slice none 0 0] 39)) (w.heap.size + 1) [.int .i64 0, .slice none 0 0, .int .i64 0, .int .i64 0, .int .i64 0, .slice none 0 0, .slice none 0 0, .bool false, .int .i64 0, .slice none 0 0, .slice none 0 0, .slice none 0 0] 34 := (Bk.alloc HR4.out (.cells #[.int .i64 a, .int .i64 b, .int .i64 a, .string s, .string t, .slice none 0 0] 39))
  have hX5 : Bk (w4.alloc (.cells #[.int .i64 a, .int .i64 b, .int .i64 a, .string s, .string t, .slice none 0 0] 39)) w.heap.size [.int .i64 kk, .int .i64 a, .int .i64 b, .string s, .string t, .slice A inn.length c] 39 := (Bk.alloc HX4.out (.cells #[.int .i64 a, .int .i64 b, .int .i64 a, .string s, .string t, .slice none 0 0] 39))
  have hL5 : Bk (w4.alloc (.cells #[.int .i64 a, .int .i64 b, .int .i64 a, .string s, .string t, .slice none 0 0] 39)) (w.heap.size + 2) [.int .i64 3, .int .i64 2, .int .i64 5, .int .i64 2, .int .i64 6, .int .i64 2, .int .i64 4, .int .i64 8, .int .i64 9, .int .i64 7, .int .i64 10, .int .i64 2] 3 := (Bk.alloc HL4.out (.cells #[.int .i64 a, .int .i64 b, .int .i64 a, .string s, .string t, .slice none 0 0] 39))
  have hT5 : Bk (w4.alloc (.cells #[.int .i64 a, .int .i64 b, .int .i64 a, .string s, .string t, .slice none 0 0] 39)) (w.heap.size + 3) [.int .i64 2, .slice none 0 0, .int .i64 0, .int .i64 0, .int .i64 0, .slice none 0 0, .slice none 0 0, .bool false, .int .i64 0, .slice none 0 0, .slice none 0 0, .slice none 0 0] 34 := (Bk.alloc HT4.out (.cells #[.int .i64 a, .int .i64 b, .int .i64 a, .string s, .string t, .slice none 0 0] 39))
  have hI5 : Bk (w4.alloc (.cells #[.int .i64 a, .int .i64 b, .int .i64 a, .string s, .string t, .slice none 0 0] 39)) (w.heap.size + 4) [.int .i64 a, .int .i64 b, .int .i64 a, .string s, .string t, .slice none 0 0] 39 := (bk_newN (w4) (w.heap.size + 4) [.int .i64 a, .int .i64 b, .int .i64 a, .string s, .string t, .slice none 0 0] 39 (by first | omega | (simp; done) | (simp; omega)))
  have hb5 : Below w.heap.size w (w4.alloc (.cells #[.int .i64 a, .int .i64 b, .int .i64 a, .string s, .string t, .slice none 0 0] 39)) := (bal HB4.out _)
  have HR5 := Lib.hid hR5
  have HX5 := Lib.hid hX5
  have HL5 := Lib.hid hL5
  have HT5 := Lib.hid hT5
  have HI5 := Lib.hid hI5
  have HB5 := Lib.hid hb5
  clear hR5 hX5 hL5 hT5 hI5 hb5 HR4 HX4 HL4 HT4 HB4
  generalize w4.alloc (.cells #[.int .i64 a, .int .i64 b, .int .i64 a, .string s, .string t, .slice none 0 0] 39) = w5 at *
  clear x1 x2 x3 x4
  have x5 := HX5.out.cell 5 _ rfl
  go_upto_if 39 with fail
  go_cut [] from 36 to 46 (fun wx => wx.heap.size = w.heap.size + 5 ∧ ∃ (A1 : Option Addr) (c1 : Nat), Hid (Bk wx (w.heap.size + 4) [.int .i64 a, .int .i64 b, .int .i64 a, .string s, .string t, .slice A1 (inn.take 1).length c1] 39) ∧ Hid (StkV w (Stk.mk kk a b s t inn).tst [.int .i64 a, .int .i64 b, .int .i64 a, .string s, .string t, .slice A1 (inn.take 1).length c1]) ∧ Hid (Bk wx (w.heap.size + 3) [.int .i64 2, .slice none 0 0, .int .i64 0, .int .i64 0, .int .i64 0, .slice none 0 0, .slice none 0 0, .bool false, .int .i64 0, .slice none 0 0, .slice none 0 0, .slice none 0 0] 34) ∧ Hid (Bk wx (w.heap.size + 1) [.int .i64 0, .slice none 0 0, .int .i64 0, .int .i64 0, .int .i64 0, .slice none 0 0, .slice none 0 0, .bool false, .int .i64 0, .slice none 0 0, .slice none 0 0, .slice none 0 0] 34) ∧ Hid (Bk wx w.heap.size [.int .i64 kk, .int .i64 a, .int .i64 b, .string s, .string t, .slice A inn.length c] 39) ∧ Hid (Below w.heap.size w wx))
  case first =>
    by_cases hn : inn.length = 0
    · have hi0 : inn = [] := List.length_eq_zero_iff.1 hn
      subst hi0
      go_wp2_with fail
      go_meet
      exact ⟨hs5, none, 0, HI5, Lib.hid (stkV_tst HB0.out (by unfold StksAt; trivial) (by simp)), HT5, HR5, HX5, HB5⟩
    · have hn0 : (0 : Int) < (inn.length : Int) := by omega
      obtain ⟨g, off, rfl⟩ := stksAt_ptr HA.out (by rintro rfl; exact hn rfl)
      have hn1 : (inn.take 1).length = 1 := by rw [List.length_take]; omega
      have f5 := HI5.out.frozen 5
      have y5 := HI5.out.cell 5 _ rfl
      have hw1 : IntKind.i64.wrap 1 = 1 := by decide
      have hc0 : (1 : Int) ≤ (c : Int) := by omega
      go_wp2_with fail
      go_meet
      refine ⟨by simp; omega, some ⟨g, off, none⟩, c, Lib.hid ?_, Lib.hid (stkV_tst HB0.out (stksAt_take inn _ 1 HA.out) ⟨by omega, by unfold maxLen; omega⟩), Lib.hid (Bk.other (c := w.heap.size + 4) HT5.out (by omega) 5 _), Lib.hid (Bk.other (c := w.heap.size + 4) HR5.out (by omega) 5 _), Lib.hid (Bk.other (c := w.heap.size + 4) HX5.out (by omega) 5 _), Lib.hid ?_⟩
      · exact bk_eq (Bk.set HI5.out 5 _) (by rw [hn1]; rfl)
      · exact Below.setCell (p := ⟨w.heap.size + 4, 5, none⟩) HB5.out (Nat.le_add_right _ _) _
  case rest =>
    obtain ⟨hs6, A1, c1, HI, HTs, HT, HR, HX, HB⟩ := hcut
    clear x5 HR5 HX5 HL5 HT5 HI5 HB5 hs5
    have i0 := HI.out.cell 0 _ rfl
    have i1 := HI.out.cell 1 _ rfl
    have i2 := HI.out.cell 2 _ rfl
    have i3 := HI.out.cell 3 _ rfl
    have i4 := HI.out.cell 4 _ rfl
    have i5 := HI.out.cell 5 _ rfl
    have hcall := testn_calls 2 (Stk.mk kk a b s t inn).tst 1 _ wc (by decide) (by decide) (stkV_later HB.out _ _ HTs.out)
    have Hcall := Lib.hid hcall
    clear hcall HTs
    generalize (inn.take 1).length = n1 at *
    go_upto_region 11 with (go_at_call 16; (refine Hcall.out.mono ?_); rintro e w9 ⟨k1, m1, p1, lm1, o1, An1, Ak1, At1, nn1, cn1, nk1, ck1, nt1, ct1, rfl, HTy, hb9⟩; have h9 := HT.out.later hb9; have y2 := h9.cell 2 _ rfl; have f2 := h9.frozen 2; have y3 := h9.cell 3 _ rfl; have f3 := h9.frozen 3; have y4 := h9.cell 4 _ rfl; have f4 := h9.frozen 4; have y5 := h9.cell 5 _ rfl; have f5 := h9.frozen 5; have y6 := h9.cell 6 _ rfl; have f6 := h9.frozen 6; have y7 := h9.cell 7 _ rfl; have f7 := h9.frozen 7; have y8 := h9.cell 8 _ rfl; have f8 := h9.frozen 8; have y9 := h9.cell 9 _ rfl; have f9 := h9.frozen 9; have HT9 := Lib.hid h9; have HR9 := Lib.hid (HR.out.later hb9); have HX9 := Lib.hid (HX.out.later hb9); have HB9 := Lib.hid (btr HB.out hb9); have Hb9 := Lib.hid hb9; clear h9 hb9)
    have hT10 : Bk ((((((((w9.setCell ⟨w.heap.size + 3, 2, none⟩ (.int .i64 k1)).setCell ⟨w.heap.size + 3, 3, none⟩ (.int .i64 m1)).setCell ⟨w.heap.size + 3, 4, none⟩ (.int .i64 p1)).setCell ⟨w.heap.size + 3, 5, none⟩ (.slice An1 nn1 cn1)).setCell ⟨w.heap.size + 3, 6, none⟩ (.slice Ak1 nk1 ck1)).setCell ⟨w.heap.size + 3, 7, none⟩ (.bool o1)).setCell ⟨w.heap.size + 3, 8, none⟩ (.int .i64 lm1)).setCell ⟨w.heap.size + 3, 9, none⟩ (.slice At1 nt1 ct1)) (w.heap.size + 3) [.int .i64 2, .slice none 0 0, .int .i64 k1, .int .i64 m1, .int .i64 p1, .slice An1 nn1 cn1, .slice Ak1 nk1 ck1, .bool o1, .int .i64 lm1, .slice At1 nt1 ct1, .slice none 0 0, .slice none 0 0] 34 := bk_eq (Bk.set (Bk.set (Bk.set (Bk.set (Bk.set (Bk.set (Bk.set (Bk.set HT9.out 2 _) 3 _) 4 _) 5 _) 6 _) 7 _) 8 _) 9 _) rfl
    have hR10 : Bk ((((((((w9.setCell ⟨w.heap.size + 3, 2, none⟩ (.int .i64 k1)).setCell ⟨w.heap.size + 3, 3, none⟩ (.int .i64 m1)).setCell ⟨w.heap.size + 3, 4, none⟩ (.int .i64 p1)).setCell ⟨w.heap.size + 3, 5, none⟩ (.slice An1 nn1 cn1)).setCell ⟨w.heap.size + 3, 6, none⟩ (.slice Ak1 nk1 ck1)).setCell ⟨w.heap.size + 3, 7, none⟩ (.bool o1)).setCell ⟨w.heap.size + 3, 8, none⟩ (.int .i64 lm1)).setCell ⟨w.heap.size + 3, 9, none⟩ (.slice At1 nt1 ct1)) (w.heap.size + 1) [.int .i64 0, .slice none 0 0, .int .i64 0, .int .i64 0, .int .i64 0, .slice none 0 0, .slice none 0 0, .bool false, .int .i64 0, .slice none 0 0, .slice none 0 0, .slice none 0 0] 34 := (Bk.other (c := w.heap.size + 3) (Bk.other (c := w.heap.size + 3) (Bk.other (c := w.heap.size + 3) (Bk.other (c := w.heap.size + 3) (Bk.other (c := w.heap.size + 3) (Bk.other (c := w.heap.size + 3) (Bk.other (c := w.heap.size + 3) (Bk.other (c := w.heap.size + 3) HR9.out (by omega) 2 _) (by omega) 3 _) (by omega) 4 _) (by omega) 5 _) (by omega) 6 _) (by omega) 7 _) (by omega) 8 _) (by omega) 9 _)
    have hX10 : Bk ((((((((w9.setCell ⟨w.heap.size + 3, 2, none⟩ (.int .i64 k1)).setCell ⟨w.heap.size + 3, 3, none⟩ (.int .i64 m1)).setCell ⟨w.heap.size + 3, 4, none⟩ (.int .i64 p1)).setCell ⟨w.heap.size + 3, 5, none⟩ (.slice An1 nn1 cn1)).setCell ⟨w.heap.size + 3, 6, none⟩ (.slice Ak1 nk1 ck1)).setCell ⟨w.heap.size + 3, 7, none⟩ (.bool o1)).setCell ⟨w.heap.size + 3, 8, none⟩ (.int .i64 lm1)).setCell ⟨w.heap.size + 3, 9, none⟩ (.slice At1 nt1 ct1)) w.heap.size [.int .i64 kk, .int .i64 a, .int .i64 b, .string s, .string t, .slice A inn.length c] 39 := (Bk.other (c := w.heap.size + 3) (Bk.other (c := w.heap.size + 3) (Bk.other (c := w.heap.size + 3) (Bk.other (c := w.heap.size + 3) (Bk.other (c := w.heap.size + 3) (Bk.other (c := w.heap.size + 3) (Bk.other (c := w.heap.size + 3) (Bk.other (c := w.heap.size + 3) HX9.out (by omega) 2 _) (by omega) 3 _) (by omega) 4 _) (by omega) 5 _) (by omega) 6 _) (by omega) 7 _) (by omega) 8 _) (by omega) 9 _)
    have hB10 : Below w.heap.size w ((((((((w9.setCell ⟨w.heap.size + 3, 2, none⟩ (.int .i64 k1)).setCell ⟨w.heap.size + 3, 3, none⟩ (.int .i64 m1)).setCell ⟨w.heap.size + 3, 4, none⟩ (.int .i64 p1)).setCell ⟨w.heap.size + 3, 5, none⟩ (.slice An1 nn1 cn1)).setCell ⟨w.heap.size + 3, 6, none⟩ (.slice Ak1 nk1 ck1)).setCell ⟨w.heap.size + 3, 7, none⟩ (.bool o1)).setCell ⟨w.heap.size + 3, 8, none⟩ (.int .i64 lm1)).setCell ⟨w.heap.size + 3, 9, none⟩ (.slice At1 nt1 ct1)) := (Below.setCell (p := ⟨w.heap.size + 3, 9, none⟩) (Below.setCell (p := ⟨w.heap.size + 3, 8, none⟩) (Below.setCell (p := ⟨w.heap.size + 3, 7, none⟩) (Below.setCell (p := ⟨w.heap.size + 3, 6, none⟩) (Below.setCell (p := ⟨w.heap.size + 3, 5, none⟩) (Below.setCell (p := ⟨w.heap.size + 3, 4, none⟩) (Below.setCell (p := ⟨w.heap.size + 3, 3, none⟩) (Below.setCell (p := ⟨w.heap.size + 3, 2, none⟩) HB9.out (Nat.le_add_right _ _) _) (Nat.le_add_right _ _) _) (Nat.le_add_right _ _) _) (Nat.le_add_right _ _) _) (Nat.le_add_right _ _) _) (Nat.le_add_right _ _) _) (Nat.le_add_right _ _) _) (Nat.le_add_right _ _) _)
    have hK10 : New wc.heap.size w9 ((((((((w9.setCell ⟨w.heap.size + 3, 2, none⟩ (.int .i64 k1)).setCell ⟨w.heap.size + 3, 3, none⟩ (.int .i64 m1)).setCell ⟨w.heap.size + 3, 4, none⟩ (.int .i64 p1)).setCell ⟨w.heap.size + 3, 5, none⟩ (.slice An1 nn1 cn1)).setCell ⟨w.heap.size + 3, 6, none⟩ (.slice Ak1 nk1 ck1)).setCell ⟨w.heap.size + 3, 7, none⟩ (.bool o1)).setCell ⟨w.heap.size + 3, 8, none⟩ (.int .i64 lm1)).setCell ⟨w.heap.size + 3, 9, none⟩ (.slice At1 nt1 ct1)) := (New.setN (b := w.heap.size + 3) (j := 9) (New.setN (b := w.heap.size + 3) (j := 8) (New.setN (b := w.heap.size + 3) (j := 7) (New.setN (b := w.heap.size + 3) (j := 6) (New.setN (b := w.heap.size + 3) (j := 5) (New.setN (b := w.heap.size + 3) (j := 4) (New.setN (b := w.heap.size + 3) (j := 3) (New.setN (b := w.heap.size + 3) (j := 2) (New.refl wc.heap.size w9) (by omega)) (by omega)) (by omega)) (by omega)) (by omega)) (by omega)) (by omega)) (by omega))
    have hs10 : w9.heap.size ≤ ((((((((w9.setCell ⟨w.heap.size + 3, 2, none⟩ (.int .i64 k1)).setCell ⟨w.heap.size + 3, 3, none⟩ (.int .i64 m1)).setCell ⟨w.heap.size + 3, 4, none⟩ (.int .i64 p1)).setCell ⟨w.heap.size + 3, 5, none⟩ (.slice An1 nn1 cn1)).setCell ⟨w.heap.size + 3, 6, none⟩ (.slice Ak1 nk1 ck1)).setCell ⟨w.heap.size + 3, 7, none⟩ (.bool o1)).setCell ⟨w.heap.size + 3, 8, none⟩ (.int .i64 lm1)).setCell ⟨w.heap.size + 3, 9, none⟩ (.slice At1 nt1 ct1)).heap.size := by simp
    have HT10 := Lib.hid hT10
    have HR10 := Lib.hid hR10
    have HX10 := Lib.hid hX10
    have HB10 := Lib.hid hB10
    have HK10 := Lib.hid hK10
    clear hT10 hR10 hX10 hB10 hK10 HT9 HR9 HX9 HB9 HT HR HX HI Hcall y2 f2 y3 f3 y4 f4 y5 f5 y6 f6 y7 f7 y8 f8 y9 f9 i0 i1 i2 i3 i4 i5
    generalize (((((((w9.setCell ⟨w.heap.size + 3, 2, none⟩ (.int .i64 k1)).setCell ⟨w.heap.size + 3, 3, none⟩ (.int .i64 m1)).setCell ⟨w.heap.size + 3, 4, none⟩ (.int .i64 p1)).setCell ⟨w.heap.size + 3, 5, none⟩ (.slice An1 nn1 cn1)).setCell ⟨w.heap.size + 3, 6, none⟩ (.slice Ak1 nk1 ck1)).setCell ⟨w.heap.size + 3, 7, none⟩ (.bool o1)).setCell ⟨w.heap.size + 3, 8, none⟩ (.int .i64 lm1)).setCell ⟨w.heap.size + 3, 9, none⟩ (.slice At1 nt1 ct1) = w10 at *
    have x5 := HX10.out.cell 5 _ rfl
    have hq1 : Int.tdiv ((inn.length : Int) + 1) 2 = (((inn.length + 1) / 2 : Nat) : Int) := by rw [Int.tdiv_eq_ediv_of_nonneg (by omega)]; omega
    have hq2 : ((inn.length : Int) + 1) / 2 = (((inn.length + 1) / 2 : Nat) : Int) := by omega
    have hhl : (inn.length + 1) / 2 ≤ inn.length := by omega
    have hnn : (inn.length : Int) ≤ 140737488351232 := by omega
    have hwr : IntKind.i64.wrap ((inn.length : Int) + 1) = (inn.length : Int) + 1 := IntWalk.i64_in _ (by omega)
    generalize hh : (inn.length + 1) / 2 = hf at *
    have Hh := Lib.hid hh
    clear hh
    have hh0 : (0 : Int) ≤ (hf : Int) := by omega
    have hhc : (hf : Int) ≤ (c : Int) := by omega
    have hhl2 : (hf : Int) ≤ (inn.length : Int) := by omega
    have hcl := Hihc.out (inn.take hf) A c w10 (fun s hs => List.mem_of_mem_take hs) (stksAt_take inn A hf (stksAt_later HB10.out inn A HA.out)) (by rw [List.length_take]; omega)
    rw [show (inn.take hf).length = hf by rw [List.length_take]; omega] at hcl
    have Hcl := Lib.hid hcl
    clear hcl
    go_upto_region 12 with (go_at_call 31; (refine Hcl.out.mono ?_); rintro e w11 ⟨A11, c11, rfl, hle11, HC11, _, hb11⟩; have h11 := HT10.out.later hb11; have y10 := h11.cell 10 _ rfl; have f10 := h11.frozen 10; have HT11 := Lib.hid h11; have HR11 := Lib.hid (HR10.out.later hb11); have HX11 := Lib.hid (HX10.out.later hb11); have HB11 := Lib.hid (btr HB10.out hb11); have Hb11 := Lib.hid hb11; clear h11 hb11)
    generalize hn11 : (cf (List.take hf inn)).length = n11 at *
    have Hn11 := Lib.hid hn11
    clear hn11 x5 Hcl
    have hT12 : Bk (w11.setCell ⟨w.heap.size + 3, 10, none⟩ (.slice A11 n11 c11)) (w.heap.size + 3) [.int .i64 2, .slice none 0 0, .int .i64 k1, .int .i64 m1, .int .i64 p1, .slice An1 nn1 cn1, .slice Ak1 nk1 ck1, .bool o1, .int .i64 lm1, .slice At1 nt1 ct1, .slice A11 n11 c11, .slice none 0 0] 34 := bk_eq (Bk.set HT11.out 10 _) rfl
    have hR12 : Bk (w11.setCell ⟨w.heap.size + 3, 10, none⟩ (.slice A11 n11 c11)) (w.heap.size + 1) [.int .i64 0, .slice none 0 0, .int .i64 0, .int .i64 0, .int .i64 0, .slice none 0 0, .slice none 0 0, .bool false, .int .i64 0, .slice none 0 0, .slice none 0 0, .slice none 0 0] 34 := Bk.other (c := w.heap.size + 3) HR11.out (by omega) 10 _
    have hX12 : Bk (w11.setCell ⟨w.heap.size + 3, 10, none⟩ (.slice A11 n11 c11)) w.heap.size [.int .i64 kk, .int .i64 a, .int .i64 b, .string s, .string t, .slice A inn.length c] 39 := Bk.other (c := w.heap.size + 3) HX11.out (by omega) 10 _
    have hB12 : Below w.heap.size w (w11.setCell ⟨w.heap.size + 3, 10, none⟩ (.slice A11 n11 c11)) := Below.setCell (p := ⟨w.heap.size + 3, 10, none⟩) HB11.out (Nat.le_add_right _ _) _
    have hK12 : New wc.heap.size w11 (w11.setCell ⟨w.heap.size + 3, 10, none⟩ (.slice A11 n11 c11)) := New.setN (b := w.heap.size + 3) (j := 10) (New.refl wc.heap.size w11) (by omega)
    have hs12 : w11.heap.size ≤ (w11.setCell ⟨w.heap.size + 3, 10, none⟩ (.slice A11 n11 c11)).heap.size := by simp
    have HT12 := Lib.hid hT12
    have HR12 := Lib.hid hR12
    have HX12 := Lib.hid hX12
    have HB12 := Lib.hid hB12
    have HK12 := Lib.hid hK12
    clear hT12 hR12 hX12 hB12 hK12 HT11 HR11 HX11 HB11 HT10 HR10 HX10 y10 f10
    generalize w11.setCell ⟨w.heap.size + 3, 10, none⟩ (.slice A11 n11 c11) = w12 at *
    have x5 := HX12.out.cell 5 _ rfl
    obtain ⟨A2, hrun, hA2⟩ := stk_slice c hf HA.out (by omega) hc1
    have hcl := Hihc.out (inn.drop hf) A2 (c - hf) w12 (fun s hs => List.mem_of_mem_drop hs) (stksAt_later HB12.out _ A2 hA2) (by rw [List.length_drop]; omega)
    rw [List.length_drop] at hcl
    have Hcl := Lib.hid hcl
    clear hcl hA2
    go_upto_region 22 with (go_at_call 31; (refine Hcl.out.mono ?_); rintro e w13 ⟨A13, c13, rfl, hle13, HC13, _, hb13⟩; have h13 := HT12.out.later hb13; have y11 := h13.cell 11 _ rfl; have f11 := h13.frozen 11; have HT13 := Lib.hid h13; have HR13 := Lib.hid (HR12.out.later hb13); have HB13 := Lib.hid (btr HB12.out hb13); have Hb13 := Lib.hid hb13; clear h13 hb13)
    generalize hn13 : (cf (List.drop hf inn)).length = n13 at *
    have Hn13 := Lib.hid hn13
    clear hn13 x5 Hcl hrun hq1 hq2 hwr
    have hT14 : Bk (w13.setCell ⟨w.heap.size + 3, 11, none⟩ (.slice A13 n13 c13)) (w.heap.size + 3) [.int .i64 2, .slice none 0 0, .int .i64 k1, .int .i64 m1, .int .i64 p1, .slice An1 nn1 cn1, .slice Ak1 nk1 ck1, .bool o1, .int .i64 lm1, .slice At1 nt1 ct1, .slice A11 n11 c11, .slice A13 n13 c13] 34 := bk_eq (Bk.set HT13.out 11 _) rfl
    have hR14 : Bk (w13.setCell ⟨w.heap.size + 3, 11, none⟩ (.slice A13 n13 c13)) (w.heap.size + 1) [.int .i64 0, .slice none 0 0, .int .i64 0, .int .i64 0, .int .i64 0, .slice none 0 0, .slice none 0 0, .bool false, .int .i64 0, .slice none 0 0, .slice none 0 0, .slice none 0 0] 34 := Bk.other (c := w.heap.size + 3) HR13.out (by omega) 11 _
    have hB14 : Below w.heap.size w (w13.setCell ⟨w.heap.size + 3, 11, none⟩ (.slice A13 n13 c13)) := Below.setCell (p := ⟨w.heap.size + 3, 11, none⟩) HB13.out (Nat.le_add_right _ _) _
    have hs13 := Hb13.out.size
    have hs9 := Hb9.out.size
    have hs11 := Hb11.out.size
    have hK14 : New wc.heap.size w13 (w13.setCell ⟨w.heap.size + 3, 11, none⟩ (.slice A13 n13 c13)) := New.setN (b := w.heap.size + 3) (j := 11) (New.refl wc.heap.size w13) (by omega)
    have hs14 : w13.heap.size ≤ (w13.setCell ⟨w.heap.size + 3, 11, none⟩ (.slice A13 n13 c13)).heap.size := by simp
    have HT14 := Lib.hid hT14
    have HR14 := Lib.hid hR14
    have HB14 := Lib.hid hB14
    have HK14 := Lib.hid hK14
    clear hT14 hR14 hB14 hK14 HT13 HR13 HB13 y11 f11 HX12 HT12 HR12
    generalize w13.setCell ⟨w.heap.size + 3, 11, none⟩ (.slice A13 n13 c13) = w14 at *
    have x0 := HT14.out.cell 0 _ rfl
    have x1 := HT14.out.cell 1 _ rfl
    have x2 := HT14.out.cell 2 _ rfl
    have x3 := HT14.out.cell 3 _ rfl
    have x4 := HT14.out.cell 4 _ rfl
    have x5 := HT14.out.cell 5 _ rfl
    have x6 := HT14.out.cell 6 _ rfl
    have x7 := HT14.out.cell 7 _ rfl
    have x8 := HT14.out.cell 8 _ rfl
    have x9 := HT14.out.cell 9 _ rfl
    have x10 := HT14.out.cell 10 _ rfl
    have x11 := HT14.out.cell 11 _ rfl
    have f0 := HR14.out.frozen 0
    have y0 := HR14.out.cell 0 _ rfl
    have f1 := HR14.out.frozen 1
    have y1 := HR14.out.cell 1 _ rfl
    have f2 := HR14.out.frozen 2
    have y2 := HR14.out.cell 2 _ rfl
    have f3 := HR14.out.frozen 3
    have y3 := HR14.out.cell 3 _ rfl
    have f4 := HR14.out.frozen 4
    have y4 := HR14.out.cell 4 _ rfl
    have f5 := HR14.out.frozen 5
    have y5 := HR14.out.cell 5 _ rfl
    have f6 := HR14.out.frozen 6
    have y6 := HR14.out.cell 6 _ rfl
    have f7 := HR14.out.frozen 7
    have y7 := HR14.out.cell 7 _ rfl
    have f8 := HR14.out.frozen 8
    have y8 := HR14.out.cell 8 _ rfl
    have f9 := HR14.out.frozen 9
    have y9 := HR14.out.cell 9 _ rfl
    have f10 := HR14.out.frozen 10
    have y10 := HR14.out.cell 10 _ rfl
    have f11 := HR14.out.frozen 11
    have y11 := HR14.out.cell 11 _ rfl
    go_wp2_with fail
    have hbk := bk_eq (cs' := [.int .i64 2, .slice none 0 0, .int .i64 k1, .int .i64 m1, .int .i64 p1, .slice An1 nn1 cn1, .slice Ak1 nk1 ck1, .bool o1, .int .i64 lm1, .slice At1 nt1 ct1, .slice A11 n11 c11, .slice A13 n13 c13]) (Bk.set (Bk.set (Bk.set (Bk.set (Bk.set (Bk.set (Bk.set (Bk.set (Bk.set (Bk.set (Bk.set (Bk.set HR14.out 0 _) 1 _) 2 _) 3 _) 4 _) 5 _) 6 _) 7 _) 8 _) 9 _) 10 _) 11 _) rfl
    refine bodyPost_ret (results_cell_row rfl _ _ (w.heap.size + 1) 34 #[.int .i64 2, .slice none 0 0, .int .i64 k1, .int .i64 m1, .int .i64 p1, .slice An1 nn1 cn1, .slice Ak1 nk1 ck1, .bool o1, .int .i64 lm1, .slice At1 nt1 ct1, .slice A11 n11 c11, .slice A13 n13 c13] (0, 0) _ rfl hbk Tryd.underlying34 rfl (by kernel_rfl)) rfl ⟨[.int .i64 2, .slice none 0 0, .int .i64 k1, .int .i64 m1, .int .i64 p1, .slice An1 nn1 cn1, .slice Ak1 nk1 ck1, .bool o1, .int .i64 lm1, .slice At1 nt1 ct1, .slice A11 n11 c11, .slice A13 n13 c13], rfl, fun W hN => ?_, ?_⟩
    · have hN14 := New.trans (New.setN (b := w.heap.size + 1) (j := 11) (New.setN (b := w.heap.size + 1) (j := 10) (New.setN (b := w.heap.size + 1) (j := 9) (New.setN (b := w.heap.size + 1) (j := 8) (New.setN (b := w.heap.size + 1) (j := 7) (New.setN (b := w.heap.size + 1) (j := 6) (New.setN (b := w.heap.size + 1) (j := 5) (New.setN (b := w.heap.size + 1) (j := 4) (New.setN (b := w.heap.size + 1) (j := 3) (New.setN (b := w.heap.size + 1) (j := 2) (New.setN (b := w.heap.size + 1) (j := 1) (New.setN (b := w.heap.size + 1) (j := 0) (New.refl wc.heap.size w14) (by omega)) (by omega)) (by omega)) (by omega)) (by omega)) (by omega)) (by omega)) (by omega)) (by omega)) (by omega)) (by omega)) (by omega)) (hN.mono (show w.heap.size ≤ wc.heap.size by omega)) (by simp)
      have hN13 := New.trans HK14.out hN14 hs14
      have hN12 := New.trans (New.of_below (B := wc.heap.size) Hb13.out) hN13 hs13
      have hN11 := New.trans HK12.out hN12 hs12
      have hN10 := New.trans (New.of_below (B := wc.heap.size) Hb11.out) hN11 hs11
      have hN9 := New.trans HK10.out hN10 hs10
      rw [Hh.out]
      have hl1 := hcfl (List.take hf inn)
      have hl2 := hcfl (List.drop hf inn)
      have q1 := HC11.out W (hN11.mono (by omega))
      have q2 := HC13.out W (hN13.mono (by omega))
      have q3 := HTy.out W hN9
      have e1 := Hn11.out
      have e2 := Hn13.out
      unfold CmdV
      refine ⟨none, 0, _, A11, c11, A13, c13, ?_, .inl rfl, q3, q1, q2, ?_⟩
      · rw [e1, e2]; rfl
      · rw [e1, e2]
        rw [e1] at hl1
        rw [e2] at hl2
        simp only [List.length_nil]
        omega
    · exact (Below.setCell (Below.setCell (Below.setCell (Below.setCell (Below.setCell (Below.setCell (Below.setCell (Below.setCell (Below.setCell (Below.setCell (Below.setCell (Below.setCell HB14.out (Nat.le_add_right _ _) _) (Nat.le_add_right _ _) _) (Nat.le_add_right _ _) _) (Nat.le_add_right _ _) _) (Nat.le_add_right _ _) _) (Nat.le_add_right _ _) _) (Nat.le_add_right _ _) _) (Nat.le_add_right _ _) _) (Nat.le_add_right _ _) _) (Nat.le_add_right _ _) _) (Nat.le_add_right _ _) _) (Nat.le_add_right _ _) _)
end Go.Proofs.YtgmnoemkdigafaaDoor
namespace Go.Proofs.YtgmnoemkdigafaaDoor
open Go.RowKit
set_option linter.unusedVariables false

set_option maxRecDepth 100000 in
set_option maxHeartbeats 8000000 in
theorem cmd_h (v : Nat) (hv : v = 1 ∨ v = 3 ∨ v = 5 ∨ v = 11) (kk a b : Int) (s t : ByteArray) (inn : List Stk) (A : Option Addr) (c : Nat) (d : Int) (w : World) (hd0 : 0 ≤ d) (hd : d ≤ 1000) (hd2 : 2 ≤ d) (hP12 : pickN kk 12 = v) (hB : StkB kk a b s t inn.length c) (hA : StksAt w inn A) :
    Calls Tryd.prog 47 #[.agg #[.int .i64 kk, .int .i64 a, .int .i64 b, .string s, .string t, .slice A inn.length c], .int .i64 d] w fun e w' => ∃ tv, e = .returned (.agg (List.toArray tv)) ∧ (∀ W, New w.heap.size w' W → CmdV W (leafC 3 (.mk kk a b s t inn)) tv) ∧ Below w.heap.size w w' := by
  obtain ⟨wk, wa, wb, ws, wt, hc1, hc2⟩ := hB
  unfold maxLen at ws wt hc2
  have hX := Bk.new w [.int .i64 kk, .int .i64 a, .int .i64 b, .string s, .string t, .slice A inn.length c] 39
  have hbx : Below w.heap.size w (w.alloc (.cells #[.int .i64 kk, .int .i64 a, .int .i64 b, .string s, .string t, .slice A inn.length c] 39)) := bal (Below.refl _ _) _
  have HX := Lib.hid hX
  have Hbx := Lib.hid hbx
  clear hX hbx
  have P12 : ∀ W : World, Calls Tryd.prog 13 #[.int .i64 kk, .int .i64 12] W fun e w' => e = .returned (.int .i64 ((v : Nat) : Int)) ∧ W = w' := fun W => by
    have h := picked_calls kk 12 W wk (by decide) (by decide)
    rw [hP12] at h
    exact h
  go_enter Tryd.func47, Tryd.ntmps47
  go_upto_region 1 with fail
  have hR := Bk.new (w.alloc (.cells #[.int .i64 kk, .int .i64 a, .int .i64 b, .string s, .string t, .slice A inn.length c] 39)) [.int .i64 0, .slice none 0 0, .int .i64 0, .int .i64 0, .int .i64 0, .slice none 0 0, .slice none 0 0, .bool false, .int .i64 0, .slice none 0 0, .slice none 0 0, .slice none 0 0] 34
  have hX2 := HX.out.alloc (.cells #[.int .i64 0, .slice none 0 0, .int .i64 0, .int .i64 0, .int .i64 0, .slice none 0 0, .slice none 0 0, .bool false, .int .i64 0, .slice none 0 0, .slice none 0 0, .slice none 0 0] 34)
  have hb2 := bal Hbx.out (.cells #[.int .i64 0, .slice none 0 0, .int .i64 0, .int .i64 0, .int .i64 0, .slice none 0 0, .slice none 0 0, .bool false, .int .i64 0, .slice none 0 0, .slice none 0 0, .slice none 0 0] 34)
  have hs1 : (w.alloc (.cells #[.int .i64 kk, .int .i64 a, .int .i64 b, .string s, .string t, .slice A inn.length c] 39)).heap.size = w.heap.size + 1 := by simp
  rw [hs1] at hR
  have hs2 : ((w.alloc (.cells #[.int .i64 kk, .int .i64 a, .int .i64 b, .string s, .string t, .slice A inn.length c] 39)).alloc (.cells #[.int .i64 0, .slice none 0 0, .int .i64 0, .int .i64 0, .int .i64 0, .slice none 0 0, .slice none 0 0, .bool false, .int .i64 0, .slice none 0 0, .slice none 0 0, .slice none 0 0] 34)).heap.size = w.heap.size + 2 := by simp
  have HR := Lib.hid hR
  have HX2 := Lib.hid hX2
  have Hb2 := Lib.hid hb2
  clear hR hX2 hb2 hs1 HX Hbx
  generalize (w.alloc (.cells #[.int .i64 kk, .int .i64 a, .int .i64 b, .string s, .string t, .slice A inn.length c] 39)).alloc (.cells #[.int .i64 0, .slice none 0 0, .int .i64 0, .int .i64 0, .int .i64 0, .slice none 0 0, .slice none 0 0, .bool false, .int .i64 0, .slice none 0 0, .slice none 0 0, .slice none 0 0] 34) = w2 at *
  have x0 := HX2.out.cell 0 _ rfl

  have hv2 : (v : Int) < 12 := by omega
  have hv3 : (0 : Int) ≤ (v : Int) := by omega
  have z0 : ([.int .i64 3, .int .i64 2, .int .i64 5, .int .i64 2, .int .i64 6, .int .i64 2, .int .i64 4, .int .i64 8, .int .i64 9, .int .i64 7, .int .i64 10, .int .i64 2] : List Value)[v]? = some (.int .i64 2) := by rcases hv with rfl | rfl | rfl | rfl <;> rfl
  clear hv
  go_upto_region 2 with (go_at_call 13; refine (P12 _).mono ?_; rintro e w' ⟨rfl, rfl⟩)
  clear P12 x0
  have hs3 : (w2.alloc (.cells #[.int .i64 3, .int .i64 2, .int .i64 5, .int .i64 2, .int .i64 6, .int .i64 2, .int .i64 4, .int .i64 8, .int .i64 9, .int .i64 7, .int .i64 10, .int .i64 2] 3)).heap.size = w.heap.size + 3 := by first | (simp; done) | (simp; omega)
  have hR3 : Bk (w2.alloc (.cells #[.int .i64 3, .int .i64 2, .int .i64 5, .int .i64 2, .int .i64 6, .int .i64 2, .int .i64 4, .int .i64 8, .int .i64 9, .int .i64 7, .int .i64 10, .int .i64 2] 3)) (w.heap.size + 1) [.int .i64 0, .slice none 0 0, .int .i64 0, .int .i64 0, .int .i64 0, .slice none 0 0, .slice none 0 0, .bool false, .int .i64 0, .slice none 0 0, .slice none 0 0, .slice none 0 0] 34 := (Bk.alloc HR.out (.cells #[.int .i64 3, .int .i64 2, .int .i64 5, .int .i64 2, .int .i64 6, .int .i64 2, .int .i64 4, .int .i64 8, .int .i64 9, .int .i64 7, .int .i64 10, .int .i64 2] 3))
  have hX3 : Bk (w2.alloc (.cells #[.int .i64 3, .int .i64 2, .int .i64 5, .int .i64 2, .int .i64 6, .int .i64 2, .int .i64 4, .int .i64 8, .int .i64 9, .int .i64 7, .int .i64 10, .int .i64 2] 3)) w.heap.size [.int .i64 kk, .int .i64 a, .int .i64 b, .string s, .string t, .slice A inn.length c] 39 := (Bk.alloc HX2.out (.cells #[.int .i64 3, .int .i64 2, .int .i64 5, .int .i64 2, .int .i64 6, .int .i64 2, .int .i64 4, .int .i64 8, .int .i64 9, .int .i64 7, .int .i64 10, .int .i64 2] 3))
  have hL3 : Bk (w2.alloc (.cells #[.int .i64 3, .int .i64 2, .int .i64 5, .int .i64 2, .int .i64 6, .int .i64 2, .int .i64 4, .int .i64 8, .int .i64 9, .int .i64 7, .int .i64 10, .int .i64 2] 3)) (w.heap.size + 2) [.int .i64 3, .int .i64 2, .int .i64 5, .int .i64 2, .int .i64 6, .int .i64 2, .int .i64 4, .int .i64 8, .int .i64 9, .int .i64 7, .int .i64 10, .int .i64 2] 3 := (bk_newN (w2) (w.heap.size + 2) [.int .i64 3, .int .i64 2, .int .i64 5, .int .i64 2, .int .i64 6, .int .i64 2, .int .i64 4, .int .i64 8, .int .i64 9, .int .i64 7, .int .i64 10, .int .i64 2] 3 (by first | omega | (simp; done) | (simp; omega)))
  have hb3 : Below w.heap.size w (w2.alloc (.cells #[.int .i64 3, .int .i64 2, .int .i64 5, .int .i64 2, .int .i64 6, .int .i64 2, .int .i64 4, .int .i64 8, .int .i64 9, .int .i64 7, .int .i64 10, .int .i64 2] 3)) := (bal Hb2.out _)
  have HR3 := Lib.hid hR3
  have HX3 := Lib.hid hX3
  have HL3 := Lib.hid hL3
  have HB3 := Lib.hid hb3
  clear hR3 hX3 hL3 hb3 HR HX2 Hb2
  generalize w2.alloc (.cells #[.int .i64 3, .int .i64 2, .int .i64 5, .int .i64 2, .int .i64 6, .int .i64 2, .int .i64 4, .int .i64 8, .int .i64 9, .int .i64 7, .int .i64 10, .int .i64 2] 3) = w3 at *
  go_upto_region 5 with fail
  have hs4 : (w3.alloc (.cells #[.int .i64 3, .slice none 0 0, .int .i64 0, .int .i64 0, .int .i64 0, .slice none 0 0, .slice none 0 0, .bool false, .int .i64 0, .slice none 0 0, .slice none 0 0, .slice none 0 0] 34)).heap.size = w.heap.size + 4 := by first | (simp; done) | (simp; omega)
  have hR4 : Bk (w3.alloc (.cells #[.int .i64 3, .slice none 0 0, .int .i64 0, .int .i64 0, .int .i64 0, .slice none 0 0, .slice none 0 0, .bool false, .int .i64 0, .slice none 0 0, .slice none 0 0, .slice none 0 0] 34)) (w.heap.size + 1) [.int .i64 0, .slice none 0 0, .int .i64 0, .int .i64 0, .int .i64 0, .slice none 0 0, .slice none 0 0, .bool false, .int .i64 0, .slice none 0 0, .slice none 0 0, .slice none 0 0] 34 := (Bk.alloc HR3.out (.cells #[.int .i64 3, .slice none 0 0, .int .i64 0, .int .i64 0, .int .i64 0, .slice none 0 0, .slice none 0 0, .bool false, .int .i64 0, .slice none 0 0, .slice none 0 0, .slice none 0 0] 34))
  have hX4 : Bk (w3.alloc (.cells #[.int .i64 3, .slice none 0 0, .int .i64 0, .int .i64 0, .int .i64 0, .slice none 0 0, .slice none 0 0, .bool false, .int .i64 0, .slice none 0 0, .slice none 0 0, .slice none 0 0] 34)) w.heap.size [.int .i64 kk, .int .i64 a, .int .i64 b, .string s, .string t, .slice A inn.length c] 39 := (Bk.alloc HX3.out (.cells #[.int .i64 3, .slice none 0 0, .int .i64 0, .int .i64 0, .int .i64 0, .slice none 0 0, .slice none 0 0, .bool false, .int .i64 0, .slice none 0 0, .slice none 0 0, .slice none 0 0] 34))
  have hL4 : Bk (w3.alloc (.cells #[.int .i64 3, .slice none 0 0, .int .i64 0, .int .i64 0, .int .i64 0, .slice none 0 0, .slice none 0 0, .bool false, .int .i64 0, .slice none 0 0, .slice none 0 0, .slice none 0 0] 34)) (w.heap.size + 2) [.int .i64 3, .int .i64 2, .int .i64 5, .int .i64 2, .int .i64 6, .int .i64 2, .int .i64 4, .int .i64 8, .int .i64 9, .int .i64 7, .int .i64 10, .int .i64 2] 3 := (Bk.alloc HL3.out (.cells #[.int .i64 3, .slice none 0 0, .int .i64 0, .int .i64 0, .int .i64 0, .slice none 0 0, .slice none 0 0, .bool false, .int .i64 0, .slice none 0 0, .slice none 0 0, .slice none 0 0] 34))
  have hT4 : Bk (w3.alloc (.cells #[.int .i64 3, .slice none 0 0, .int .i64 0, .int .i64 0, .int .i64 0, .slice none 0 0, .slice none 0 0, .bool false, .int .i64 0, .slice none 0 0, .slice none 0 0, .slice none 0 0] 34)) (w.heap.size + 3) [.int .i64 3, .slice none 0 0, .int .i64 0, .int .i64 0, .int .i64 0, .slice none 0 0, .slice none 0 0, .bool false, .int .i64 0, .slice none 0 0, .slice none 0 0, .slice none 0 0] 34 := (bk_newN (w3) (w.heap.size + 3) [.int .i64 3, .slice none 0 0, .int .i64 0, .int .i64 0, .int .i64 0, .slice none 0 0, .slice none 0 0, .bool false, .int .i64 0, .slice none 0 0, .slice none 0 0, .slice none 0 0] 34 (by first | omega | (simp; done) | (simp; omega)))
  have hb4 : Below w.heap.size w (w3.alloc (.cells #[.int .i64 3, .slice none 0 0, .int .i64 0, .int .i64 0, .int .i64 0, .slice none 0 0, .slice none 0 0, .bool false, .int .i64 0, .slice none 0 0, .slice none 0 0, .slice none 0 0] 34)) := (bal HB3.out _)
  have HR4 := Lib.hid hR4
  have HX4 := Lib.hid hX4
  have HL4 := Lib.hid hL4
  have HT4 := Lib.hid hT4
  have HB4 := Lib.hid hb4
  clear hR4 hX4 hL4 hT4 hb4 HR3 HX3 HL3 HB3
  generalize w3.alloc (.cells #[.int .i64 3, .slice none 0 0, .int .i64 0, .int .i64 0, .int .i64 0, .slice none 0 0, .slice none 0 0, .bool false, .int .i64 0, .slice none 0 0, .slice none 0 0, .slice none 0 0] 34) = w4 at *
  have x0 := HT4.out.cell 0 _ rfl
  have x1 := HT4.out.cell 1 _ rfl
  have x2 := HT4.out.cell 2 _ rfl
  have x3 := HT4.out.cell 3 _ rfl
  have x4 := HT4.out.cell 4 _ rfl
  have x5 := HT4.out.cell 5 _ rfl
  have x6 := HT4.out.cell 6 _ rfl
  have x7 := HT4.out.cell 7 _ rfl
  have x8 := HT4.out.cell 8 _ rfl
  have x9 := HT4.out.cell 9 _ rfl
  have x10 := HT4.out.cell 10 _ rfl
  have x11 := HT4.out.cell 11 _ rfl
  have f0 := HR4.out.frozen 0
  have y0 := HR4.out.cell 0 _ rfl
  have f1 := HR4.out.frozen 1
  have y1 := HR4.out.cell 1 _ rfl
  have f2 := HR4.out.frozen 2
  have y2 := HR4.out.cell 2 _ rfl
  have f3 := HR4.out.frozen 3
  have y3 := HR4.out.cell 3 _ rfl
  have f4 := HR4.out.frozen 4
  have y4 := HR4.out.cell 4 _ rfl
  have f5 := HR4.out.frozen 5
  have y5 := HR4.out.cell 5 _ rfl
  have f6 := HR4.out.frozen 6
  have y6 := HR4.out.cell 6 _ rfl
  have f7 := HR4.out.frozen 7
  have y7 := HR4.out.cell 7 _ rfl
  have f8 := HR4.out.frozen 8
  have y8 := HR4.out.cell 8 _ rfl
  have f9 := HR4.out.frozen 9
  have y9 := HR4.out.cell 9 _ rfl
  have f10 := HR4.out.frozen 10
  have y10 := HR4.out.cell 10 _ rfl
  have f11 := HR4.out.frozen 11
  have y11 := HR4.out.cell 11 _ rfl
  go_wp2_with fail
  have hbk := bk_eq (cs' := [.int .i64 3, .slice none 0 0, .int .i64 0, .int .i64 0, .int .i64 0, .slice none 0 0, .slice none 0 0, .bool false, .int .i64 0, .slice none 0 0, .slice none 0 0, .slice none 0 0]) (Bk.set (Bk.set (Bk.set (Bk.set (Bk.set (Bk.set (Bk.set (Bk.set (Bk.set (Bk.set (Bk.set (Bk.set HR4.out 0 _) 1 _) 2 _) 3 _) 4 _) 5 _) 6 _) 7 _) 8 _) 9 _) 10 _) 11 _) rfl
  refine bodyPost_ret (results_cell_row rfl _ _ (w.heap.size + 1) 34 #[.int .i64 3, .slice none 0 0, .int .i64 0, .int .i64 0, .int .i64 0, .slice none 0 0, .slice none 0 0, .bool false, .int .i64 0, .slice none 0 0, .slice none 0 0, .slice none 0 0] (0, 0) _ rfl hbk Tryd.underlying34 rfl (by kernel_rfl)) rfl ⟨[.int .i64 3, .slice none 0 0, .int .i64 0, .int .i64 0, .int .i64 0, .slice none 0 0, .slice none 0 0, .bool false, .int .i64 0, .slice none 0 0, .slice none 0 0, .slice none 0 0], rfl, fun W hN => ?_, ?_⟩
  · exact cmdV_leaf (txs := []) (.inl rfl) rfl
  · exact (Below.setCell (Below.setCell (Below.setCell (Below.setCell (Below.setCell (Below.setCell (Below.setCell (Below.setCell (Below.setCell (Below.setCell (Below.setCell (Below.setCell HB4.out (Nat.le_add_right _ _) _) (Nat.le_add_right _ _) _) (Nat.le_add_right _ _) _) (Nat.le_add_right _ _) _) (Nat.le_add_right _ _) _) (Nat.le_add_right _ _) _) (Nat.le_add_right _ _) _) (Nat.le_add_right _ _) _) (Nat.le_add_right _ _) _) (Nat.le_add_right _ _) _) (Nat.le_add_right _ _) _) (Nat.le_add_right _ _) _)
end Go.Proofs.YtgmnoemkdigafaaDoor
namespace Go.Proofs.YtgmnoemkdigafaaDoor
open Go.RowKit
set_option linter.unusedVariables false

set_option maxRecDepth 100000 in
set_option maxHeartbeats 8000000 in
theorem cmd_3 (kk a b : Int) (s t : ByteArray) (inn : List Stk) (A : Option Addr) (c : Nat) (d : Int) (w : World) (hd0 : 0 ≤ d) (hd : d ≤ 1000) (hP12 : pickN kk 12 = 0) (hB : StkB kk a b s t inn.length c) (hA : StksAt w inn A) :
    Calls Tryd.prog 47 #[.agg #[.int .i64 kk, .int .i64 a, .int .i64 b, .string s, .string t, .slice A inn.length c], .int .i64 d] w fun e w' => ∃ tv, e = .returned (.agg (List.toArray tv)) ∧ (∀ W, New w.heap.size w' W → CmdV W (leafC 3 (.mk kk a b s t inn)) tv) ∧ Below w.heap.size w w' := by
  obtain ⟨wk, wa, wb, ws, wt, hc1, hc2⟩ := hB
  unfold maxLen at ws wt hc2
  have hX := Bk.new w [.int .i64 kk, .int .i64 a, .int .i64 b, .string s, .string t, .slice A inn.length c] 39
  have hbx : Below w.heap.size w (w.alloc (.cells #[.int .i64 kk, .int .i64 a, .int .i64 b, .string s, .string t, .slice A inn.length c] 39)) := bal (Below.refl _ _) _
  have HX := Lib.hid hX
  have Hbx := Lib.hid hbx
  clear hX hbx
  have P12 : ∀ W : World, Calls Tryd.prog 13 #[.int .i64 kk, .int .i64 12] W fun e w' => e = .returned (.int .i64 ((0 : Nat) : Int)) ∧ W = w' := fun W => by
    have h := picked_calls kk 12 W wk (by decide) (by decide)
    rw [hP12] at h
    exact h
  go_enter Tryd.func47, Tryd.ntmps47
  go_upto_region 1 with fail
  have hR := Bk.new (w.alloc (.cells #[.int .i64 kk, .int .i64 a, .int .i64 b, .string s, .string t, .slice A inn.length c] 39)) [.int .i64 0, .slice none 0 0, .int .i64 0, .int .i64 0, .int .i64 0, .slice none 0 0, .slice none 0 0, .bool false, .int .i64 0, .slice none 0 0, .slice none 0 0, .slice none 0 0] 34
  have hX2 := HX.out.alloc (.cells #[.int .i64 0, .slice none 0 0, .int .i64 0, .int .i64 0, .int .i64 0, .slice none 0 0, .slice none 0 0, .bool false, .int .i64 0, .slice none 0 0, .slice none 0 0, .slice none 0 0] 34)
  have hb2 := bal Hbx.out (.cells #[.int .i64 0, .slice none 0 0, .int .i64 0, .int .i64 0, .int .i64 0, .slice none 0 0, .slice none 0 0, .bool false, .int .i64 0, .slice none 0 0, .slice none 0 0, .slice none 0 0] 34)
  have hs1 : (w.alloc (.cells #[.int .i64 kk, .int .i64 a, .int .i64 b, .string s, .string t, .slice A inn.length c] 39)).heap.size = w.heap.size + 1 := by simp
  rw [hs1] at hR
  have hs2 : ((w.alloc (.cells #[.int .i64 kk, .int .i64 a, .int .i64 b, .string s, .string t, .slice A inn.length c] 39)).alloc (.cells #[.int .i64 0, .slice none 0 0, .int .i64 0, .int .i64 0, .int .i64 0, .slice none 0 0, .slice none 0 0, .bool false, .int .i64 0, .slice none 0 0, .slice none 0 0, .slice none 0 0] 34)).heap.size = w.heap.size + 2 := by simp
  have HR := Lib.hid hR
  have HX2 := Lib.hid hX2
  have Hb2 := Lib.hid hb2
  clear hR hX2 hb2 hs1 HX Hbx
  generalize (w.alloc (.cells #[.int .i64 kk, .int .i64 a, .int .i64 b, .string s, .string t, .slice A inn.length c] 39)).alloc (.cells #[.int .i64 0, .slice none 0 0, .int .i64 0, .int .i64 0, .int .i64 0, .slice none 0 0, .slice none 0 0, .bool false, .int .i64 0, .slice none 0 0, .slice none 0 0, .slice none 0 0] 34) = w2 at *
  have x0 := HX2.out.cell 0 _ rfl
  go_upto_region 2 with (go_at_call 13; refine (P12 _).mono ?_; rintro e w' ⟨rfl, rfl⟩)
  clear P12 x0
  have hs3 : (w2.alloc (.cells #[.int .i64 3, .int .i64 2, .int .i64 5, .int .i64 2, .int .i64 6, .int .i64 2, .int .i64 4, .int .i64 8, .int .i64 9, .int .i64 7, .int .i64 10, .int .i64 2] 3)).heap.size = w.heap.size + 3 := by first | (simp; done) | (simp; omega)
  have hR3 : Bk (w2.alloc (.cells #[.int .i64 3, .int .i64 2, .int .i64 5, .int .i64 2, .int .i64 6, .int .i64 2, .int .i64 4, .int .i64 8, .int .i64 9, .int .i64 7, .int .i64 10, .int .i64 2] 3)) (w.heap.size + 1) [.int .i64 0, .slice none 0 0, .int .i64 0, .int .i64 0, .int .i64 0, .slice none 0 0, .slice none 0 0, .bool false, .int .i64 0, .slice none 0 0, .slice none 0 0, .slice none 0 0] 34 := (Bk.alloc HR.out (.cells #[.int .i64 3, .int .i64 2, .int .i64 5, .int .i64 2, .int .i64 6, .int .i64 2, .int .i64 4, .int .i64 8, .int .i64 9, .int .i64 7, .int .i64 10, .int .i64 2] 3))
  have hX3 : Bk (w2.alloc (.cells #[.int .i64 3, .int .i64 2, .int .i64 5, .int .i64 2, .int .i64 6, .int .i64 2, .int .i64 4, .int .i64 8, .int .i64 9, .int .i64 7, .int .i64 10, .int .i64 2] 3)) w.heap.size [.int .i64 kk, .int .i64 a, .int .i64 b, .string s, .string t, .slice A inn.length c] 39 := (Bk.alloc HX2.out (.cells #[.int .i64 3, .int .i64 2, .int .i64 5, .int .i64 2, .int .i64 6, .int .i64 2, .int .i64 4, .int .i64 8, .int .i64 9, .int .i64 7, .int .i64 10, .int .i64 2] 3))
  have hL3 : Bk (w2.alloc (.cells #[.int .i64 3, .int .i64 2, .int .i64 5, .int .i64 2, .int .i64 6, .int .i64 2, .int .i64 4, .int .i64 8, .int .i64 9, .int .i64 7, .int .i64 10, .int .i64 2] 3)) (w.heap.size + 2) [.int .i64 3, .int .i64 2, .int .i64 5, .int .i64 2, .int .i64 6, .int .i64 2, .int .i64 4, .int .i64 8, .int .i64 9, .int .i64 7, .int .i64 10, .int .i64 2] 3 := (bk_newN (w2) (w.heap.size + 2) [.int .i64 3, .int .i64 2, .int .i64 5, .int .i64 2, .int .i64 6, .int .i64 2, .int .i64 4, .int .i64 8, .int .i64 9, .int .i64 7, .int .i64 10, .int .i64 2] 3 (by first | omega | (simp; done) | (simp; omega)))
  have hb3 : Below w.heap.size w (w2.alloc (.cells #[.int .i64 3, .int .i64 2, .int .i64 5, .int .i64 2, .int .i64 6, .int .i64 2, .int .i64 4, .int .i64 8, .int .i64 9, .int .i64 7, .int .i64 10, .int .i64 2] 3)) := (bal Hb2.out _)
  have HR3 := Lib.hid hR3
  have HX3 := Lib.hid hX3
  have HL3 := Lib.hid hL3
  have HB3 := Lib.hid hb3
  clear hR3 hX3 hL3 hb3 HR HX2 Hb2
  generalize w2.alloc (.cells #[.int .i64 3, .int .i64 2, .int .i64 5, .int .i64 2, .int .i64 6, .int .i64 2, .int .i64 4, .int .i64 8, .int .i64 9, .int .i64 7, .int .i64 10, .int .i64 2] 3) = w3 at *
  go_upto_region 5 with fail
  have hs4 : (w3.alloc (.cells #[.int .i64 3, .slice none 0 0, .int .i64 0, .int .i64 0, .int .i64 0, .slice none 0 0, .slice none 0 0, .bool false, .int .i64 0, .slice none 0 0, .slice none 0 0, .slice none 0 0] 34)).heap.size = w.heap.size + 4 := by first | (simp; done) | (simp; omega)
  have hR4 : Bk (w3.alloc (.cells #[.int .i64 3, .slice none 0 0, .int .i64 0, .int .i64 0, .int .i64 0, .slice none 0 0, .slice none 0 0, .bool false, .int .i64 0, .slice none 0 0, .slice none 0 0, .slice none 0 0] 34)) (w.heap.size + 1) [.int .i64 0, .slice none 0 0, .int .i64 0, .int .i64 0, .int .i64 0, .slice none 0 0, .slice none 0 0, .bool false, .int .i64 0, .slice none 0 0, .slice none 0 0, .slice none 0 0] 34 := (Bk.alloc HR3.out (.cells #[.int .i64 3, .slice none 0 0, .int .i64 0, .int .i64 0, .int .i64 0, .slice none 0 0, .slice none 0 0, .bool false, .int .i64 0, .slice none 0 0, .slice none 0 0, .slice none 0 0] 34))
  have hX4 : Bk (w3.alloc (.cells #[.int .i64 3, .slice none 0 0, .int .i64 0, .int .i64 0, .int .i64 0, .slice none 0 0, .slice none 0 0, .bool false, .int .i64 0, .slice none 0 0, .slice none 0 0, .slice none 0 0] 34)) w.heap.size [.int .i64 kk, .int .i64 a, .int .i64 b, .string s, .string t, .slice A inn.length c] 39 := (Bk.alloc HX3.out (.cells #[.int .i64 3, .slice none 0 0, .int .i64 0, .int .i64 0, .int .i64 0, .slice none 0 0, .slice none 0 0, .bool false, .int .i64 0, .slice none 0 0, .slice none 0 0, .slice none 0 0] 34))
  have hL4 : Bk (w3.alloc (.cells #[.int .i64 3, .slice none 0 0, .int .i64 0, .int .i64 0, .int .i64 0, .slice none 0 0, .slice none 0 0, .bool false, .int .i64 0, .slice none 0 0, .slice none 0 0, .slice none 0 0] 34)) (w.heap.size + 2) [.int .i64 3, .int .i64 2, .int .i64 5, .int .i64 2, .int .i64 6, .int .i64 2, .int .i64 4, .int .i64 8, .int .i64 9, .int .i64 7, .int .i64 10, .int .i64 2] 3 := (Bk.alloc HL3.out (.cells #[.int .i64 3, .slice none 0 0, .int .i64 0, .int .i64 0, .int .i64 0, .slice none 0 0, .slice none 0 0, .bool false, .int .i64 0, .slice none 0 0, .slice none 0 0, .slice none 0 0] 34))
  have hT4 : Bk (w3.alloc (.cells #[.int .i64 3, .slice none 0 0, .int .i64 0, .int .i64 0, .int .i64 0, .slice none 0 0, .slice none 0 0, .bool false, .int .i64 0, .slice none 0 0, .slice none 0 0, .slice none 0 0] 34)) (w.heap.size + 3) [.int .i64 3, .slice none 0 0, .int .i64 0, .int .i64 0, .int .i64 0, .slice none 0 0, .slice none 0 0, .bool false, .int .i64 0, .slice none 0 0, .slice none 0 0, .slice none 0 0] 34 := (bk_newN (w3) (w.heap.size + 3) [.int .i64 3, .slice none 0 0, .int .i64 0, .int .i64 0, .int .i64 0, .slice none 0 0, .slice none 0 0, .bool false, .int .i64 0, .slice none 0 0, .slice none 0 0, .slice none 0 0] 34 (by first | omega | (simp; done) | (simp; omega)))
  have hb4 : Below w.heap.size w (w3.alloc (.cells #[.int .i64 3, .slice none 0 0, .int .i64 0, .int .i64 0, .int .i64 0, .slice none 0 0, .slice none 0 0, .bool false, .int .i64 0, .slice none 0 0, .slice none 0 0, .slice none 0 0] 34)) := (bal HB3.out _)
  have HR4 := Lib.hid hR4
  have HX4 := Lib.hid hX4
  have HL4 := Lib.hid hL4
  have HT4 := Lib.hid hT4
  have HB4 := Lib.hid hb4
  clear hR4 hX4 hL4 hT4 hb4 HR3 HX3 HL3 HB3
  generalize w3.alloc (.cells #[.int .i64 3, .slice none 0 0, .int .i64 0, .int .i64 0, .int .i64 0, .slice none 0 0, .slice none 0 0, .bool false, .int .i64 0, .slice none 0 0, .slice none 0 0, .slice none 0 0] 34) = w4 at *
  have x0 := HT4.out.cell 0 _ rfl
  have x1 := HT4.out.cell 1 _ rfl
  have x2 := HT4.out.cell 2 _ rfl
  have x3 := HT4.out.cell 3 _ rfl
  have x4 := HT4.out.cell 4 _ rfl
  have x5 := HT4.out.cell 5 _ rfl
  have x6 := HT4.out.cell 6 _ rfl
  have x7 := HT4.out.cell 7 _ rfl
  have x8 := HT4.out.cell 8 _ rfl
  have x9 := HT4.out.cell 9 _ rfl
  have x10 := HT4.out.cell 10 _ rfl
  have x11 := HT4.out.cell 11 _ rfl
  have f0 := HR4.out.frozen 0
  have y0 := HR4.out.cell 0 _ rfl
  have f1 := HR4.out.frozen 1
  have y1 := HR4.out.cell 1 _ rfl
  have f2 := HR4.out.frozen 2
  have y2 := HR4.out.cell 2 _ rfl
  have f3 := HR4.out.frozen 3
  have y3 := HR4.out.cell 3 _ rfl
  have f4 := HR4.out.frozen 4
  have y4 := HR4.out.cell 4 _ rfl
  have f5 := HR4.out.frozen 5
  have y5 := HR4.out.cell 5 _ rfl
  have f6 := HR4.out.frozen 6
  have y6 := HR4.out.cell 6 _ rfl
  have f7 := HR4.out.frozen 7
  have y7 := HR4.out.cell 7 _ rfl
  have f8 := HR4.out.frozen 8
  have y8 := HR4.out.cell 8 _ rfl
  have f9 := HR4.out.frozen 9
  have y9 := HR4.out.cell 9 _ rfl
  have f10 := HR4.out.frozen 10
  have y10 := HR4.out.cell 10 _ rfl
  have f11 := HR4.out.frozen 11
  have y11 := HR4.out.cell 11 _ rfl
  go_wp2_with fail
  have hbk := bk_eq (cs' := [.int .i64 3, .slice none 0 0, .int .i64 0, .int .i64 0, .int .i64 0, .slice none 0 0, .slice none 0 0, .bool false, .int .i64 0, .slice none 0 0, .slice none 0 0, .slice none 0 0]) (Bk.set (Bk.set (Bk.set (Bk.set (Bk.set (Bk.set (Bk.set (Bk.set (Bk.set (Bk.set (Bk.set (Bk.set HR4.out 0 _) 1 _) 2 _) 3 _) 4 _) 5 _) 6 _) 7 _) 8 _) 9 _) 10 _) 11 _) rfl
  refine bodyPost_ret (results_cell_row rfl _ _ (w.heap.size + 1) 34 #[.int .i64 3, .slice none 0 0, .int .i64 0, .int .i64 0, .int .i64 0, .slice none 0 0, .slice none 0 0, .bool false, .int .i64 0, .slice none 0 0, .slice none 0 0, .slice none 0 0] (0, 0) _ rfl hbk Tryd.underlying34 rfl (by kernel_rfl)) rfl ⟨[.int .i64 3, .slice none 0 0, .int .i64 0, .int .i64 0, .int .i64 0, .slice none 0 0, .slice none 0 0, .bool false, .int .i64 0, .slice none 0 0, .slice none 0 0, .slice none 0 0], rfl, fun W hN => ?_, ?_⟩
  · exact cmdV_leaf (txs := []) (.inl rfl) rfl
  · exact (Below.setCell (Below.setCell (Below.setCell (Below.setCell (Below.setCell (Below.setCell (Below.setCell (Below.setCell (Below.setCell (Below.setCell (Below.setCell (Below.setCell HB4.out (Nat.le_add_right _ _) _) (Nat.le_add_right _ _) _) (Nat.le_add_right _ _) _) (Nat.le_add_right _ _) _) (Nat.le_add_right _ _) _) (Nat.le_add_right _ _) _) (Nat.le_add_right _ _) _) (Nat.le_add_right _ _) _) (Nat.le_add_right _ _) _) (Nat.le_add_right _ _) _) (Nat.le_add_right _ _) _) (Nat.le_add_right _ _) _)
end Go.Proofs.YtgmnoemkdigafaaDoor
namespace Go.Proofs.YtgmnoemkdigafaaDoor
open Go.RowKit
set_option linter.unusedVariables false

set_option maxRecDepth 100000 in
set_option maxHeartbeats 8000000 in
theorem cmd_4 (kk a b : Int) (s t : ByteArray) (inn : List Stk) (A : Option Addr) (c : Nat) (d : Int) (w : World) (hd0 : 0 ≤ d) (hd : d ≤ 1000) (hP12 : pickN kk 12 = 6) (hB : StkB kk a b s t inn.length c) (hA : StksAt w inn A) :
    Calls Tryd.prog 47 #[.agg #[.int .i64 kk, .int .i64 a, .int .i64 b, .string s, .string t, .slice A inn.length c], .int .i64 d] w fun e w' => ∃ tv, e = .returned (.agg (List.toArray tv)) ∧ (∀ W, New w.heap.size w' W → CmdV W (leafC 4 (.mk kk a b s t inn)) tv) ∧ Below w.heap.size w w' := by
  obtain ⟨wk, wa, wb, ws, wt, hc1, hc2⟩ := hB
  unfold maxLen at ws wt hc2
  have hX := Bk.new w [.int .i64 kk, .int .i64 a, .int .i64 b, .string s, .string t, .slice A inn.length c] 39
  have hbx : Below w.heap.size w (w.alloc (.cells #[.int .i64 kk, .int .i64 a, .int .i64 b, .string s, .string t, .slice A inn.length c] 39)) := bal (Below.refl _ _) _
  have HX := Lib.hid hX
  have Hbx := Lib.hid hbx
  clear hX hbx
  have P12 : ∀ W : World, Calls Tryd.prog 13 #[.int .i64 kk, .int .i64 12] W fun e w' => e = .returned (.int .i64 ((6 : Nat) : Int)) ∧ W = w' := fun W => by
    have h := picked_calls kk 12 W wk (by decide) (by decide)
    rw [hP12] at h
    exact h
  go_enter Tryd.func47, Tryd.ntmps47
  go_upto_region 1 with fail
  have hR := Bk.new (w.alloc (.cells #[.int .i64 kk, .int .i64 a, .int .i64 b, .string s, .string t, .slice A inn.length c] 39)) [.int .i64 0, .slice none 0 0, .int .i64 0, .int .i64 0, .int .i64 0, .slice none 0 0, .slice none 0 0, .bool false, .int .i64 0, .slice none 0 0, .slice none 0 0, .slice none 0 0] 34
  have hX2 := HX.out.alloc (.cells #[.int .i64 0, .slice none 0 0, .int .i64 0, .int .i64 0, .int .i64 0, .slice none 0 0, .slice none 0 0, .bool false, .int .i64 0, .slice none 0 0, .slice none 0 0, .slice none 0 0] 34)
  have hb2 := bal Hbx.out (.cells #[.int .i64 0, .slice none 0 0, .int .i64 0, .int .i64 0, .int .i64 0, .slice none 0 0, .slice none 0 0, .bool false, .int .i64 0, .slice none 0 0, .slice none 0 0, .slice none 0 0] 34)
  have hs1 : (w.alloc (.cells #[.int .i64 kk, .int .i64 a, .int .i64 b, .string s, .string t, .slice A inn.length c] 39)).heap.size = w.heap.size + 1 := by simp
  rw [hs1] at hR
  have hs2 : ((w.alloc (.cells #[.int .i64 kk, .int .i64 a, .int .i64 b, .string s, .string t, .slice A inn.length c] 39)).alloc (.cells #[.int .i64 0, .slice none 0 0, .int .i64 0, .int .i64 0, .int .i64 0, .slice none 0 0, .slice none 0 0, .bool false, .int .i64 0, .slice none 0 0, .slice none 0 0, .slice none 0 0] 34)).heap.size = w.heap.size + 2 := by simp
  have HR := Lib.hid hR
  have HX2 := Lib.hid hX2
  have Hb2 := Lib.hid hb2
  clear hR hX2 hb2 hs1 HX Hbx
  generalize (w.alloc (.cells #[.int .i64 kk, .int .i64 a, .int .i64 b, .string s, .string t, .slice A inn.length c] 39)).alloc (.cells #[.int .i64 0, .slice none 0 0, .int .i64 0, .int .i64 0, .int .i64 0, .slice none 0 0, .slice none 0 0, .bool false, .int .i64 0, .slice none 0 0, .slice none 0 0, .slice none 0 0] 34) = w2 at *
  have x0 := HX2.out.cell 0 _ rfl
  go_upto_region 2 with (go_at_call 13; refine (P12 _).mono ?_; rintro e w' ⟨rfl, rfl⟩)
  clear P12 x0
  have hs3 : (w2.alloc (.cells #[.int .i64 3, .int .i64 2, .int .i64 5, .int .i64 2, .int .i64 6, .int .i64 2, .int .i64 4, .int .i64 8, .int .i64 9, .int .i64 7, .int .i64 10, .int .i64 2] 3)).heap.size = w.heap.size + 3 := by first | (simp; done) | (simp; omega)
  have hR3 : Bk (w2.alloc (.cells #[.int .i64 3, .int .i64 2, .int .i64 5, .int .i64 2, .int .i64 6, .int .i64 2, .int .i64 4, .int .i64 8, .int .i64 9, .int .i64 7, .int .i64 10, .int .i64 2] 3)) (w.heap.size + 1) [.int .i64 0, .slice none 0 0, .int .i64 0, .int .i64 0, .int .i64 0, .slice none 0 0, .slice none 0 0, .bool false, .int .i64 0, .slice none 0 0, .slice none 0 0, .slice none 0 0] 34 := (Bk.alloc HR.out (.cells #[.int .i64 3, .int .i64 2, .int .i64 5, .int .i64 2, .int .i64 6, .int .i64 2, .int .i64 4, .int .i64 8, .int .i64 9, .int .i64 7, .int .i64 10, .int .i64 2] 3))
  have hX3 : Bk (w2.alloc (.cells #[.int .i64 3, .int .i64 2, .int .i64 5, .int .i64 2, .int .i64 6, .int .i64 2, .int .i64 4, .int .i64 8, .int .i64 9, .int .i64 7, .int .i64 10, .int .i64 2] 3)) w.heap.size [.int .i64 kk, .int .i64 a, .int .i64 b, .string s, .string t, .slice A inn.length c] 39 := (Bk.alloc HX2.out (.cells #[.int .i64 3, .int .i64 2, .int .i64 5, .int .i64 2, .int .i64 6, .int .i64 2, .int .i64 4, .int .i64 8, .int .i64 9, .int .i64 7, .int .i64 10, .int .i64 2] 3))
  have hL3 : Bk (w2.alloc (.cells #[.int .i64 3, .int .i64 2, .int .i64 5, .int .i64 2, .int .i64 6, .int .i64 2, .int .i64 4, .int .i64 8, .int .i64 9, .int .i64 7, .int .i64 10, .int .i64 2] 3)) (w.heap.size + 2) [.int .i64 3, .int .i64 2, .int .i64 5, .int .i64 2, .int .i64 6, .int .i64 2, .int .i64 4, .int .i64 8, .int .i64 9, .int .i64 7, .int .i64 10, .int .i64 2] 3 := (bk_newN (w2) (w.heap.size + 2) [.int .i64 3, .int .i64 2, .int .i64 5, .int .i64 2, .int .i64 6, .int .i64 2, .int .i64 4, .int .i64 8, .int .i64 9, .int .i64 7, .int .i64 10, .int .i64 2] 3 (by first | omega | (simp; done) | (simp; omega)))
  have hb3 : Below w.heap.size w (w2.alloc (.cells #[.int .i64 3, .int .i64 2, .int .i64 5, .int .i64 2, .int .i64 6, .int .i64 2, .int .i64 4, .int .i64 8, .int .i64 9, .int .i64 7, .int .i64 10, .int .i64 2] 3)) := (bal Hb2.out _)
  have HR3 := Lib.hid hR3
  have HX3 := Lib.hid hX3
  have HL3 := Lib.hid hL3
  have HB3 := Lib.hid hb3
  clear hR3 hX3 hL3 hb3 HR HX2 Hb2
  generalize w2.alloc (.cells #[.int .i64 3, .int .i64 2, .int .i64 5, .int .i64 2, .int .i64 6, .int .i64 2, .int .i64 4, .int .i64 8, .int .i64 9, .int .i64 7, .int .i64 10, .int .i64 2] 3) = w3 at *
  go_upto_region 5 with fail
  have hs4 : (w3.alloc (.cells #[.int .i64 4, .slice none 0 0, .int .i64 0, .int .i64 0, .int .i64 0, .slice none 0 0, .slice none 0 0, .bool false, .int .i64 0, .slice none 0 0, .slice none 0 0, .slice none 0 0] 34)).heap.size = w.heap.size + 4 := by first | (simp; done) | (simp; omega)
  have hR4 : Bk (w3.alloc (.cells #[.int .i64 4, .slice none 0 0, .int .i64 0, .int .i64 0, .int .i64 0, .slice none 0 0, .slice none 0 0, .bool false, .int .i64 0, .slice none 0 0, .slice none 0 0, .slice none 0 0] 34)) (w.heap.size + 1) [.int .i64 0, .slice none 0 0, .int .i64 0, .int .i64 0, .int .i64 0, .slice none 0 0, .slice none 0 0, .bool false, .int .i64 0, .slice none 0 0, .slice none 0 0, .slice none 0 0] 34 := (Bk.alloc HR3.out (.cells #[.int .i64 4, .slice none 0 0, .int .i64 0, .int .i64 0, .int .i64 0, .slice none 0 0, .slice none 0 0, .bool false, .int .i64 0, .slice none 0 0, .slice none 0 0, .slice none 0 0] 34))
  have hX4 : Bk (w3.alloc (.cells #[.int .i64 4, .slice none 0 0, .int .i64 0, .int .i64 0, .int .i64 0, .slice none 0 0, .slice none 0 0, .bool false, .int .i64 0, .slice none 0 0, .slice none 0 0, .slice none 0 0] 34)) w.heap.size [.int .i64 kk, .int .i64 a, .int .i64 b, .string s, .string t, .slice A inn.length c] 39 := (Bk.alloc HX3.out (.cells #[.int .i64 4, .slice none 0 0, .int .i64 0, .int .i64 0, .int .i64 0, .slice none 0 0, .slice none 0 0, .bool false, .int .i64 0, .slice none 0 0, .slice none 0 0, .slice none 0 0] 34))
  have hL4 : Bk (w3.alloc (.cells #[.int .i64 4, .slice none 0 0, .int .i64 0, .int .i64 0, .int .i64 0, .slice none 0 0, .slice none 0 0, .bool false, .int .i64 0, .slice none 0 0, .slice none 0 0, .slice none 0 0] 34)) (w.heap.size + 2) [.int .i64 3, .int .i64 2, .int .i64 5, .int .i64 2, .int .i64 6, .int .i64 2, .int .i64 4, .int .i64 8, .int .i64 9, .int .i64 7, .int .i64 10, .int .i64 2] 3 := (Bk.alloc HL3.out (.cells #[.int .i64 4, .slice none 0 0, .int .i64 0, .int .i64 0, .int .i64 0, .slice none 0 0, .slice none 0 0, .bool false, .int .i64 0, .slice none 0 0, .slice none 0 0, .slice none 0 0] 34))
  have hT4 : Bk (w3.alloc (.cells #[.int .i64 4, .slice none 0 0, .int .i64 0, .int .i64 0, .int .i64 0, .slice none 0 0, .slice none 0 0, .bool false, .int .i64 0, .slice none 0 0, .slice none 0 0, .slice none 0 0] 34)) (w.heap.size + 3) [.int .i64 4, .slice none 0 0, .int .i64 0, .int .i64 0, .int .i64 0, .slice none 0 0, .slice none 0 0, .bool false, .int .i64 0, .slice none 0 0, .slice none 0 0, .slice none 0 0] 34 := (bk_newN (w3) (w.heap.size + 3) [.int .i64 4, .slice none 0 0, .int .i64 0, .int .i64 0, .int .i64 0, .slice none 0 0, .slice none 0 0, .bool false, .int .i64 0, .slice none 0 0, .slice none 0 0, .slice none 0 0] 34 (by first | omega | (simp; done) | (simp; omega)))
  have hb4 : Below w.heap.size w (w3.alloc (.cells #[.int .i64 4, .slice none 0 0, .int .i64 0, .int .i64 0, .int .i64 0, .slice none 0 0, .slice none 0 0, .bool false, .int .i64 0, .slice none 0 0, .slice none 0 0, .slice none 0 0] 34)) := (bal HB3.out _)
  have HR4 := Lib.hid hR4
  have HX4 := Lib.hid hX4
  have HL4 := Lib.hid hL4
  have HT4 := Lib.hid hT4
  have HB4 := Lib.hid hb4
  clear hR4 hX4 hL4 hT4 hb4 HR3 HX3 HL3 HB3
  generalize w3.alloc (.cells #[.int .i64 4, .slice none 0 0, .int .i64 0, .int .i64 0, .int .i64 0, .slice none 0 0, .slice none 0 0, .bool false, .int .i64 0, .slice none 0 0, .slice none 0 0, .slice none 0 0] 34) = w4 at *
  have x0 := HT4.out.cell 0 _ rfl
  have x1 := HT4.out.cell 1 _ rfl
  have x2 := HT4.out.cell 2 _ rfl
  have x3 := HT4.out.cell 3 _ rfl
  have x4 := HT4.out.cell 4 _ rfl
  have x5 := HT4.out.cell 5 _ rfl
  have x6 := HT4.out.cell 6 _ rfl
  have x7 := HT4.out.cell 7 _ rfl
  have x8 := HT4.out.cell 8 _ rfl
  have x9 := HT4.out.cell 9 _ rfl
  have x10 := HT4.out.cell 10 _ rfl
  have x11 := HT4.out.cell 11 _ rfl
  have f0 := HR4.out.frozen 0
  have y0 := HR4.out.cell 0 _ rfl
  have f1 := HR4.out.frozen 1
  have y1 := HR4.out.cell 1 _ rfl
  have f2 := HR4.out.frozen 2
  have y2 := HR4.out.cell 2 _ rfl
  have f3 := HR4.out.frozen 3
  have y3 := HR4.out.cell 3 _ rfl
  have f4 := HR4.out.frozen 4
  have y4 := HR4.out.cell 4 _ rfl
  have f5 := HR4.out.frozen 5
  have y5 := HR4.out.cell 5 _ rfl
  have f6 := HR4.out.frozen 6
  have y6 := HR4.out.cell 6 _ rfl
  have f7 := HR4.out.frozen 7
  have y7 := HR4.out.cell 7 _ rfl
  have f8 := HR4.out.frozen 8
  have y8 := HR4.out.cell 8 _ rfl
  have f9 := HR4.out.frozen 9
  have y9 := HR4.out.cell 9 _ rfl
  have f10 := HR4.out.frozen 10
  have y10 := HR4.out.cell 10 _ rfl
  have f11 := HR4.out.frozen 11
  have y11 := HR4.out.cell 11 _ rfl
  go_wp2_with fail
  have hbk := bk_eq (cs' := [.int .i64 4, .slice none 0 0, .int .i64 0, .int .i64 0, .int .i64 0, .slice none 0 0, .slice none 0 0, .bool false, .int .i64 0, .slice none 0 0, .slice none 0 0, .slice none 0 0]) (Bk.set (Bk.set (Bk.set (Bk.set (Bk.set (Bk.set (Bk.set (Bk.set (Bk.set (Bk.set (Bk.set (Bk.set HR4.out 0 _) 1 _) 2 _) 3 _) 4 _) 5 _) 6 _) 7 _) 8 _) 9 _) 10 _) 11 _) rfl
  refine bodyPost_ret (results_cell_row rfl _ _ (w.heap.size + 1) 34 #[.int .i64 4, .slice none 0 0, .int .i64 0, .int .i64 0, .int .i64 0, .slice none 0 0, .slice none 0 0, .bool false, .int .i64 0, .slice none 0 0, .slice none 0 0, .slice none 0 0] (0, 0) _ rfl hbk Tryd.underlying34 rfl (by kernel_rfl)) rfl ⟨[.int .i64 4, .slice none 0 0, .int .i64 0, .int .i64 0, .int .i64 0, .slice none 0 0, .slice none 0 0, .bool false, .int .i64 0, .slice none 0 0, .slice none 0 0, .slice none 0 0], rfl, fun W hN => ?_, ?_⟩
  · exact cmdV_leaf (txs := []) (.inl rfl) rfl
  · exact (Below.setCell (Below.setCell (Below.setCell (Below.setCell (Below.setCell (Below.setCell (Below.setCell (Below.setCell (Below.setCell (Below.setCell (Below.setCell (Below.setCell HB4.out (Nat.le_add_right _ _) _) (Nat.le_add_right _ _) _) (Nat.le_add_right _ _) _) (Nat.le_add_right _ _) _) (Nat.le_add_right _ _) _) (Nat.le_add_right _ _) _) (Nat.le_add_right _ _) _) (Nat.le_add_right _ _) _) (Nat.le_add_right _ _) _) (Nat.le_add_right _ _) _) (Nat.le_add_right _ _) _) (Nat.le_add_right _ _) _)
end Go.Proofs.YtgmnoemkdigafaaDoor
namespace Go.Proofs.YtgmnoemkdigafaaDoor
open Go.RowKit
set_option linter.unusedVariables false

set_option maxRecDepth 100000 in
set_option maxHeartbeats 8000000 in
theorem cmd_5 (kk a b : Int) (s t : ByteArray) (inn : List Stk) (A : Option Addr) (c : Nat) (d : Int) (w : World) (hd0 : 0 ≤ d) (hd : d ≤ 1000) (hP12 : pickN kk 12 = 2) (hB : StkB kk a b s t inn.length c) (hA : StksAt w inn A) :
    Calls Tryd.prog 47 #[.agg #[.int .i64 kk, .int .i64 a, .int .i64 b, .string s, .string t, .slice A inn.length c], .int .i64 d] w fun e w' => ∃ tv, e = .returned (.agg (List.toArray tv)) ∧ (∀ W, New w.heap.size w' W → CmdV W (leafC 5 (.mk kk a b s t inn)) tv) ∧ Below w.heap.size w w' := by
  obtain ⟨wk, wa, wb, ws, wt, hc1, hc2⟩ := hB
  unfold maxLen at ws wt hc2
  have hX := Bk.new w [.int .i64 kk, .int .i64 a, .int .i64 b, .string s, .string t, .slice A inn.length c] 39
  have hbx : Below w.heap.size w (w.alloc (.cells #[.int .i64 kk, .int .i64 a, .int .i64 b, .string s, .string t, .slice A inn.length c] 39)) := bal (Below.refl _ _) _
  have HX := Lib.hid hX
  have Hbx := Lib.hid hbx
  clear hX hbx
  have P12 : ∀ W : World, Calls Tryd.prog 13 #[.int .i64 kk, .int .i64 12] W fun e w' => e = .returned (.int .i64 ((2 : Nat) : Int)) ∧ W = w' := fun W => by
    have h := picked_calls kk 12 W wk (by decide) (by decide)
    rw [hP12] at h
    exact h
  have PA := fun W : World => picked_calls a 4 W wa (by decide) (by decide)
  have lam := pickN_lt a 4 (by decide)
  go_enter Tryd.func47, Tryd.ntmps47
  go_upto_region 1 with fail
  have hR := Bk.new (w.alloc (.cells #[.int .i64 kk, .int .i64 a, .int .i64 b, .string s, .string t, .slice A inn.length c] 39)) [.int .i64 0, .slice none 0 0, .int .i64 0, .int .i64 0, .int .i64 0, .slice none 0 0, .slice none 0 0, .bool false, .int .i64 0, .slice none 0 0, .slice none 0 0, .slice none 0 0] 34
  have hX2 := HX.out.alloc (.cells #[.int .i64 0, .slice none 0 0, .int .i64 0, .int .i64 0, .int .i64 0, .slice none 0 0, .slice none 0 0, .bool false, .int .i64 0, .slice none 0 0, .slice none 0 0, .slice none 0 0] 34)
  have hb2 := bal Hbx.out (.cells #[.int .i64 0, .slice none 0 0, .int .i64 0, .int .i64 0, .int .i64 0, .slice none 0 0, .slice none 0 0, .bool false, .int .i64 0, .slice none 0 0, .slice none 0 0, .slice none 0 0] 34)
  have hs1 : (w.alloc (.cells #[.int .i64 kk, .int .i64 a, .int .i64 b, .string s, .string t, .slice A inn.length c] 39)).heap.size = w.heap.size + 1 := by simp
  rw [hs1] at hR
  have hs2 : ((w.alloc (.cells #[.int .i64 kk, .int .i64 a, .int .i64 b, .string s, .string t, .slice A inn.length c] 39)).alloc (.cells #[.int .i64 0, .slice none 0 0, .int .i64 0, .int .i64 0, .int .i64 0, .slice none 0 0, .slice none 0 0, .bool false, .int .i64 0, .slice none 0 0, .slice none 0 0, .slice none 0 0] 34)).heap.size = w.heap.size + 2 := by simp
  have HR := Lib.hid hR
  have HX2 := Lib.hid hX2
  have Hb2 := Lib.hid hb2
  clear hR hX2 hb2 hs1 HX Hbx
  generalize (w.alloc (.cells #[.int .i64 kk, .int .i64 a, .int .i64 b, .string s, .string t, .slice A inn.length c] 39)).alloc (.cells #[.int .i64 0, .slice none 0 0, .int .i64 0, .int .i64 0, .int .i64 0, .slice none 0 0, .slice none 0 0, .bool false, .int .i64 0, .slice none 0 0, .slice none 0 0, .slice none 0 0] 34) = w2 at *
  have x0 := HX2.out.cell 0 _ rfl
  go_upto_region 2 with (go_at_call 13; refine (P12 _).mono ?_; rintro e w' ⟨rfl, rfl⟩)
  clear P12 x0
  have hs3 : (w2.alloc (.cells #[.int .i64 3, .int .i64 2, .int .i64 5, .int .i64 2, .int .i64 6, .int .i64 2, .int .i64 4, .int .i64 8, .int .i64 9, .int .i64 7, .int .i64 10, .int .i64 2] 3)).heap.size = w.heap.size + 3 := by first | (simp; done) | (simp; omega)
  have hR3 : Bk (w2.alloc (.cells #[.int .i64 3, .int .i64 2, .int .i64 5, .int .i64 2, .int .i64 6, .int .i64 2, .int .i64 4, .int .i64 8, .int .i64 9, .int .i64 7, .int .i64 10, .int .i64 2] 3)) (w.heap.size + 1) [.int .i64 0, .slice none 0 0, .int .i64 0, .int .i64 0, .int .i64 0, .slice none 0 0, .slice none 0 0, .bool false, .int .i64 0, .slice none 0 0, .slice none 0 0, .slice none 0 0] 34 := (Bk.alloc HR.out (.cells #[.int .i64 3, .int .i64 2, .int .i64 5, .int .i64 2, .int .i64 6, .int .i64 2, .int .i64 4, .int .i64 8, .int .i64 9, .int .i64 7, .int .i64 10, .int .i64 2] 3))
  have hX3 : Bk (w2.alloc (.cells #[.int .i64 3, .int .i64 2, .int .i64 5, .int .i64 2, .int .i64 6, .int .i64 2, .int .i64 4, .int .i64 8, .int .i64 9, .int .i64 7, .int .i64 10, .int .i64 2] 3)) w.heap.size [.int .i64 kk, .int .i64 a, .int .i64 b, .string s, .string t, .slice A inn.length c] 39 := (Bk.alloc HX2.out (.cells #[.int .i64 3, .int .i64 2, .int .i64 5, .int .i64 2, .int .i64 6, .int .i64 2, .int .i64 4, .int .i64 8, .int .i64 9, .int .i64 7, .int .i64 10, .int .i64 2] 3))
  have hL3 : Bk (w2.alloc (.cells #[.int .i64 3, .int .i64 2, .int .i64 5, .int .i64 2, .int .i64 6, .int .i64 2, .int .i64 4, .int .i64 8, .int .i64 9, .int .i64 7, .int .i64 10, .int .i64 2] 3)) (w.heap.size + 2) [.int .i64 3, .int .i64 2, .int .i64 5, .int .i64 2, .int .i64 6, .int .i64 2, .int .i64 4, .int .i64 8, .int .i64 9, .int .i64 7, .int .i64 10, .int .i64 2] 3 := (bk_newN (w2) (w.heap.size + 2) [.int .i64 3, .int .i64 2, .int .i64 5, .int .i64 2, .int .i64 6, .int .i64 2, .int .i64 4, .int .i64 8, .int .i64 9, .int .i64 7, .int .i64 10, .int .i64 2] 3 (by first | omega | (simp; done) | (simp; omega)))
  have hb3 : Below w.heap.size w (w2.alloc (.cells #[.int .i64 3, .int .i64 2, .int .i64 5, .int .i64 2, .int .i64 6, .int .i64 2, .int .i64 4, .int .i64 8, .int .i64 9, .int .i64 7, .int .i64 10, .int .i64 2] 3)) := (bal Hb2.out _)
  have HR3 := Lib.hid hR3
  have HX3 := Lib.hid hX3
  have HL3 := Lib.hid hL3
  have HB3 := Lib.hid hb3
  clear hR3 hX3 hL3 hb3 HR HX2 Hb2
  generalize w2.alloc (.cells #[.int .i64 3, .int .i64 2, .int .i64 5, .int .i64 2, .int .i64 6, .int .i64 2, .int .i64 4, .int .i64 8, .int .i64 9, .int .i64 7, .int .i64 10, .int .i64 2] 3) = w3 at *
  go_upto_region 5 with fail
  have hs4 : (w3.alloc (.cells #[.int .i64 5, .slice none 0 0, .int .i64 0, .int .i64 0, .int .i64 0, .slice none 0 0, .slice none 0 0, .bool false, .int .i64 0, .slice none 0 0, .slice none 0 0, .slice none 0 0] 34)).heap.size = w.heap.size + 4 := by first | (simp; done) | (simp; omega)
  have hR4 : Bk (w3.alloc (.cells #[.int .i64 5, .slice none 0 0, .int .i64 0, .int .i64 0, .int .i64 0, .slice none 0 0, .slice none 0 0, .bool false, .int .i64 0, .slice none 0 0, .slice none 0 0, .slice none 0 0] 34)) (w.heap.size + 1) [.int .i64 0, .slice none 0 0, .int .i64 0, .int .i64 0, .int .i64 0, .slice none 0 0, .slice none 0 0, .bool false, .int .i64 0, .slice none 0 0, .slice none 0 0, .slice none 0 0] 34 := (Bk.alloc HR3.out (.cells #[.int .i64 5, .slice none 0 0, .int .i64 0, .int .i64 0, .int .i64 0, .slice none 0 0, .slice none 0 0, .bool false, .int .i64 0, .slice none 0 0, .slice none 0 0, .slice none 0 0] 34))
  have hX4 : Bk (w3.alloc (.cells #[.int .i64 5, .slice none 0 0, .int .i64 0, .int .i64 0, .int .i64 0, .slice none 0 0, .slice none 0 0, .bool false, .int .i64 0, .slice none 0 0, .slice none 0 0, .slice none 0 0] 34)) w.heap.size [.int .i64 kk, .int .i64 a, .int .i64 b, .string s, .string t, .slice A inn.length c] 39 := (Bk.alloc HX3.out (.cells #[.int .i64 5, .slice none 0 0, .int .i64 0, .int .i64 0, .int .i64 0, .slice none 0 0, .slice none 0 0, .bool false, .int .i64 0, .slice none 0 0, .slice none 0 0, .slice none 0 0] 34))
  have hL4 : Bk (w3.alloc (.cells #[.int .i64 5, .slice none 0 0, .int .i64 0, .int .i64 0, .int .i64 0, .slice none 0 0, .slice none 0 0, .bool false, .int .i64 0, .slice none 0 0, .slice none 0 0, .slice none 0 0] 34)) (w.heap.size + 2) [.int .i64 3, .int .i64 2, .int .i64 5, .int .i64 2, .int .i64 6, .int .i64 2, .int .i64 4, .int .i64 8, .int .i64 9, .int .i64 7, .int .i64 10, .int .i64 2] 3 := (Bk.alloc HL3.out (.cells #[.int .i64 5, .slice none 0 0, .int .i64 0, .int .i64 0, .int .i64 0, .slice none 0 0, .slice none 0 0, .bool false, .int .i64 0, .slice none 0 0, .slice none 0 0, .slice none 0 0] 34))
  have hT4 : Bk (w3.alloc (.cells #[.int .i64 5, .slice none 0 0, .int .i64 0, .int .i64 0, .int .i64 0, .slice none 0 0, .slice none 0 0, .bool false, .int .i64 0, .slice none 0 0, .slice none 0 0, .slice none 0 0] 34)) (w.heap.size + 3) [.int .i64 5, .slice none 0 0, .int .i64 0, .int .i64 0, .int .i64 0, .slice none 0 0, .slice none 0 0, .bool false, .int .i64 0, .slice none 0 0, .slice none 0 0, .slice none 0 0] 34 := (bk_newN (w3) (w.heap.size + 3) [.int .i64 5, .slice none 0 0, .int .i64 0, .int .i64 0, .int .i64 0, .slice none 0 0, .slice none 0 0, .bool false, .int .i64 0, .slice none 0 0, .slice none 0 0, .slice none 0 0] 34 (by first | omega | (simp; done) | (simp; omega)))
  have hb4 : Below w.heap.size w (w3.alloc (.cells #[.int .i64 5, .slice none 0 0, .int .i64 0, .int .i64 0, .int .i64 0, .slice none 0 0, .slice none 0 0, .bool false, .int .i64 0, .slice none 0 0, .slice none 0 0, .slice none 0 0] 34)) := (bal HB3.out _)
  have HR4 := Lib.hid hR4
  have HX4 := Lib.hid hX4
  have HL4 := Lib.hid hL4
  have HT4 := Lib.hid hT4
  have HB4 := Lib.hid hb4
  clear hR4 hX4 hL4 hT4 hb4 HR3 HX3 HL3 HB3
  generalize w3.alloc (.cells #[.int .i64 5, .slice none 0 0, .int .i64 0, .int .i64 0, .int .i64 0, .slice none 0 0, .slice none 0 0, .bool false, .int .i64 0, .slice none 0 0, .slice none 0 0, .slice none 0 0] 34) = w4 at *
  have x1 := (Bk.alloc HX4.out (.cells #[.string ⟨#[73, 78, 66, 79, 88]⟩, .string ⟨#[119, 111, 114, 107]⟩, .string ⟨#[106, 117, 110, 107]⟩, .string ⟨#[110, 101, 119]⟩] 9)).cell 1 _ rfl
  have z0 : ([.string ⟨#[73, 78, 66, 79, 88]⟩, .string ⟨#[119, 111, 114, 107]⟩, .string ⟨#[106, 117, 110, 107]⟩, .string ⟨#[110, 101, 119]⟩] : List Value)[pickN a 4]? = some (.string (boxN a)) := getD_str [[73, 78, 66, 79, 88], [119, 111, 114, 107], [106, 117, 110, 107], [110, 101, 119]] (pickN a 4) (by simp only [List.length_cons, List.length_nil]; omega)
  have f1 := (Bk.alloc (Bk.alloc HT4.out (.cells #[.string ⟨#[73, 78, 66, 79, 88]⟩, .string ⟨#[119, 111, 114, 107]⟩, .string ⟨#[106, 117, 110, 107]⟩, .string ⟨#[110, 101, 119]⟩] 9)) (.cells #[.string (boxN a)] 9)).frozen 1
  have y1 := (Bk.alloc (Bk.alloc HT4.out (.cells #[.string ⟨#[73, 78, 66, 79, 88]⟩, .string ⟨#[119, 111, 114, 107]⟩, .string ⟨#[106, 117, 110, 107]⟩, .string ⟨#[110, 101, 119]⟩] 9)) (.cells #[.string (boxN a)] 9)).cell 1 _ rfl
  go_upto_region 22 with (go_at_call 13; refine (PA _).mono ?_; rintro e w' ⟨rfl, rfl⟩)
  have hs5 : (((w4.setCell ⟨(w.heap.size + 3), 1, none⟩ (.slice (some ⟨w.heap.size + 5, 0, none⟩) 1 1)).alloc (.cells #[.string ⟨#[73, 78, 66, 79, 88]⟩, .string ⟨#[119, 111, 114, 107]⟩, .string ⟨#[106, 117, 110, 107]⟩, .string ⟨#[110, 101, 119]⟩] 9)).alloc (.cells #[.string (boxN a)] 9)).heap.size = w.heap.size + 6 := by first | (simp; done) | (simp; omega)
  have hR5 : Bk (((w4.setCell ⟨(w.heap.size + 3), 1, none⟩ (.slice (some ⟨w.heap.size + 5, 0, none⟩) 1 1)).alloc (.cells #[.string ⟨#[73, 78, 66, 79, 88]⟩, .string ⟨#[119, 111, 114, 107]⟩, .string ⟨#[106, 117, 110, 107]⟩, .string ⟨#[110, 101, 119]⟩] 9)).alloc (.cells #[.string (boxN a)] 9)) (w.heap.size + 1) [.int .i64 0, .slice none 0 0, .int .i64 0, .int .i64 0, .int .i64 0, .slice none 0 0, .slice none 0 0, .bool false, .int .i64 0, .slice none 0 0, .slice none 0 0, .slice none 0 0] 34 := (Bk.alloc (Bk.alloc (Bk.other (c := (w.heap.size + 3)) HR4.out (by omega) 1 (.slice (some ⟨w.heap.size + 5, 0, none⟩) 1 1)) (.cells #[.string ⟨#[73, 78, 66, 79, 88]⟩, .string ⟨#[119, 111, 114, 107]⟩, .string ⟨#[106, 117, 110, 107]⟩, .string ⟨#[110, 101, 119]⟩] 9)) (.cells #[.string (boxN a)] 9))
  have hX5 : Bk (((w4.setCell ⟨(w.heap.size + 3), 1, none⟩ (.slice (some ⟨w.heap.size + 5, 0, none⟩) 1 1)).alloc (.cells #[.string ⟨#[73, 78, 66, 79, 88]⟩, .string ⟨#[119, 111, 114, 107]⟩, .string ⟨#[106, 117, 110, 107]⟩, .string ⟨#[110, 101, 119]⟩] 9)).alloc (.cells #[.string (boxN a)] 9)) w.heap.size [.int .i64 kk, .int .i64 a, .int .i64 b, .string s, .string t, .slice A inn.length c] 39 := (Bk.alloc (Bk.alloc (Bk.other (c := (w.heap.size + 3)) HX4.out (by omega) 1 (.slice (some ⟨w.heap.size + 5, 0, none⟩) 1 1)) (.cells #[.string ⟨#[73, 78, 66, 79, 88]⟩, .string ⟨#[119, 111, 114, 107]⟩, .string ⟨#[106, 117, 110, 107]⟩, .string ⟨#[110, 101, 119]⟩] 9)) (.cells #[.string (boxN a)] 9))
  have hL5 : Bk (((w4.setCell ⟨(w.heap.size + 3), 1, none⟩ (.slice (some ⟨w.heap.size + 5, 0, none⟩) 1 1)).alloc (.cells #[.string ⟨#[73, 78, 66, 79, 88]⟩, .string ⟨#[119, 111, 114, 107]⟩, .string ⟨#[106, 117, 110, 107]⟩, .string ⟨#[110, 101, 119]⟩] 9)).alloc (.cells #[.string (boxN a)] 9)) (w.heap.size + 2) [.int .i64 3, .int .i64 2, .int .i64 5, .int .i64 2, .int .i64 6, .int .i64 2, .int .i64 4, .int .i64 8, .int .i64 9, .int .i64 7, .int .i64 10, .int .i64 2] 3 := (Bk.alloc (Bk.alloc (Bk.other (c := (w.heap.size + 3)) HL4.out (by omega) 1 (.slice (some ⟨w.heap.size + 5, 0, none⟩) 1 1)) (.cells #[.string ⟨#[73, 78, 66, 79, 88]⟩, .string ⟨#[119, 111, 114, 107]⟩, .string ⟨#[106, 117, 110, 107]⟩, .string ⟨#[110, 101, 119]⟩] 9)) (.cells #[.string (boxN a)] 9))
  have hT5 : Bk (((w4.setCell ⟨(w.heap.size + 3), 1, none⟩ (.slice (some ⟨w.heap.size + 5, 0, none⟩) 1 1)).alloc (.cells #[.string ⟨#[73, 78, 66, 79, 88]⟩, .string ⟨#[119, 111, 114, 107]⟩, .string ⟨#[106, 117, 110, 107]⟩, .string ⟨#[110, 101, 119]⟩] 9)).alloc (.cells #[.string (boxN a)] 9)) (w.heap.size + 3) [.int .i64 5, .slice (some ⟨w.heap.size + 5, 0, none⟩) 1 1, .int .i64 0, .int .i64 0, .int .i64 0, .slice none 0 0, .slice none 0 0, .bool false, .int .i64 0, .slice none 0 0, .slice none 0 0, .slice none 0 0] 34 := (Bk.alloc (Bk.alloc (Bk.set HT4.out 1 (.slice (some ⟨w.heap.size + 5, 0, none⟩) 1 1)) (.cells #[.string ⟨#[73, 78, 66, 79, 88]⟩, .string ⟨#[119, 111, 114, 107]⟩, .string ⟨#[106, 117, 110, 107]⟩, .string ⟨#[110, 101, 119]⟩] 9)) (.cells #[.string (boxN a)] 9))
  have hF5 : Bk (((w4.setCell ⟨(w.heap.size + 3), 1, none⟩ (.slice (some ⟨w.heap.size + 5, 0, none⟩) 1 1)).alloc (.cells #[.string ⟨#[73, 78, 66, 79, 88]⟩, .string ⟨#[119, 111, 114, 107]⟩, .string ⟨#[106, 117, 110, 107]⟩, .string ⟨#[110, 101, 119]⟩] 9)).alloc (.cells #[.string (boxN a)] 9)) (w.heap.size + 4) [.string ⟨#[73, 78, 66, 79, 88]⟩, .string ⟨#[119, 111, 114, 107]⟩, .string ⟨#[106, 117, 110, 107]⟩, .string ⟨#[110, 101, 119]⟩] 9 := (Bk.alloc (bk_newN ((w4.setCell ⟨(w.heap.size + 3), 1, none⟩ (.slice (some ⟨w.heap.size + 5, 0, none⟩) 1 1))) (w.heap.size + 4) [.string ⟨#[73, 78, 66, 79, 88]⟩, .string ⟨#[119, 111, 114, 107]⟩, .string ⟨#[106, 117, 110, 107]⟩, .string ⟨#[110, 101, 119]⟩] 9 (by first | omega | (simp; done) | (simp; omega))) (.cells #[.string (boxN a)] 9))
  have hN5 : Bk (((w4.setCell ⟨(w.heap.size + 3), 1, none⟩ (.slice (some ⟨w.heap.size + 5, 0, none⟩) 1 1)).alloc (.cells #[.string ⟨#[73, 78, 66, 79, 88]⟩, .string ⟨#[119, 111, 114, 107]⟩, .string ⟨#[106, 117, 110, 107]⟩, .string ⟨#[110, 101, 119]⟩] 9)).alloc (.cells #[.string (boxN a)] 9)) (w.heap.size + 5) [.string (boxN a)] 9 := (bk_newN (((w4.setCell ⟨(w.heap.size + 3), 1, none⟩ (.slice (some ⟨w.heap.size + 5, 0, none⟩) 1 1)).alloc (.cells #[.string ⟨#[73, 78, 66, 79, 88]⟩, .string ⟨#[119, 111, 114, 107]⟩, .string ⟨#[106, 117, 110, 107]⟩, .string ⟨#[110, 101, 119]⟩] 9))) (w.heap.size + 5) [.string (boxN a)] 9 (by first | omega | (simp; done) | (simp; omega)))
  have hb5 : Below w.heap.size w (((w4.setCell ⟨(w.heap.size + 3), 1, none⟩ (.slice (some ⟨w.heap.size + 5, 0, none⟩) 1 1)).alloc (.cells #[.string ⟨#[73, 78, 66, 79, 88]⟩, .string ⟨#[119, 111, 114, 107]⟩, .string ⟨#[106, 117, 110, 107]⟩, .string ⟨#[110, 101, 119]⟩] 9)).alloc (.cells #[.string (boxN a)] 9)) := (bal (bal (Below.setCell (p := ⟨(w.heap.size + 3), 1, none⟩) HB4.out (Nat.le_add_right _ _) (.slice (some ⟨w.heap.size + 5, 0, none⟩) 1 1)) _) _)
  have HR5 := Lib.hid hR5
  have HX5 := Lib.hid hX5
  have HL5 := Lib.hid hL5
  have HT5 := Lib.hid hT5
  have HF5 := Lib.hid hF5
  have HN5 := Lib.hid hN5
  have HB5 := Lib.hid hb5
  clear hR5 hX5 hL5 hT5 hF5 hN5 hb5 HR4 HX4 HL4 HT4 HB4
  generalize ((w4.setCell ⟨(w.heap.size + 3), 1, none⟩ (.slice (some ⟨w.heap.size + 5, 0, none⟩) 1 1)).alloc (.cells #[.string ⟨#[73, 78, 66, 79, 88]⟩, .string ⟨#[119, 111, 114, 107]⟩, .string ⟨#[106, 117, 110, 107]⟩, .string ⟨#[110, 101, 119]⟩] 9)).alloc (.cells #[.string (boxN a)] 9) = w5 at *
  clear x1 f1 y1 z0
  have x0 := HT5.out.cell 0 _ rfl
  have x1 := HT5.out.cell 1 _ rfl
  have x2 := HT5.out.cell 2 _ rfl
  have x3 := HT5.out.cell 3 _ rfl
  have x4 := HT5.out.cell 4 _ rfl
  have x5 := HT5.out.cell 5 _ rfl
  have x6 := HT5.out.cell 6 _ rfl
  have x7 := HT5.out.cell 7 _ rfl
  have x8 := HT5.out.cell 8 _ rfl
  have x9 := HT5.out.cell 9 _ rfl
  have x10 := HT5.out.cell 10 _ rfl
  have x11 := HT5.out.cell 11 _ rfl
  have f0 := HR5.out.frozen 0
  have y0 := HR5.out.cell 0 _ rfl
  have f1 := HR5.out.frozen 1
  have y1 := HR5.out.cell 1 _ rfl
  have f2 := HR5.out.frozen 2
  have y2 := HR5.out.cell 2 _ rfl
  have f3 := HR5.out.frozen 3
  have y3 := HR5.out.cell 3 _ rfl
  have f4 := HR5.out.frozen 4
  have y4 := HR5.out.cell 4 _ rfl
  have f5 := HR5.out.frozen 5
  have y5 := HR5.out.cell 5 _ rfl
  have f6 := HR5.out.frozen 6
  have y6 := HR5.out.cell 6 _ rfl
  have f7 := HR5.out.frozen 7
  have y7 := HR5.out.cell 7 _ rfl
  have f8 := HR5.out.frozen 8
  have y8 := HR5.out.cell 8 _ rfl
  have f9 := HR5.out.frozen 9
  have y9 := HR5.out.cell 9 _ rfl
  have f10 := HR5.out.frozen 10
  have y10 := HR5.out.cell 10 _ rfl
  have f11 := HR5.out.frozen 11
  have y11 := HR5.out.cell 11 _ rfl
  go_wp2_with fail
  have hbk := bk_eq (cs' := [.int .i64 5, .slice (some ⟨w.heap.size + 5, 0, none⟩) 1 1, .int .i64 0, .int .i64 0, .int .i64 0, .slice none 0 0, .slice none 0 0, .bool false, .int .i64 0, .slice none 0 0, .slice none 0 0, .slice none 0 0]) (Bk.set (Bk.set (Bk.set (Bk.set (Bk.set (Bk.set (Bk.set (Bk.set (Bk.set (Bk.set (Bk.set (Bk.set HR5.out 0 _) 1 _) 2 _) 3 _) 4 _) 5 _) 6 _) 7 _) 8 _) 9 _) 10 _) 11 _) rfl
  refine bodyPost_ret (results_cell_row rfl _ _ (w.heap.size + 1) 34 #[.int .i64 5, .slice (some ⟨w.heap.size + 5, 0, none⟩) 1 1, .int .i64 0, .int .i64 0, .int .i64 0, .slice none 0 0, .slice none 0 0, .bool false, .int .i64 0, .slice none 0 0, .slice none 0 0, .slice none 0 0] (0, 0) _ rfl hbk Tryd.underlying34 rfl (by kernel_rfl)) rfl ⟨[.int .i64 5, .slice (some ⟨w.heap.size + 5, 0, none⟩) 1 1, .int .i64 0, .int .i64 0, .int .i64 0, .slice none 0 0, .slice none 0 0, .bool false, .int .i64 0, .slice none 0 0, .slice none 0 0, .slice none 0 0], rfl, fun W hN => ?_, ?_⟩
  · exact cmdV_leaf (txs := [_]) (txAt_one (Bk.neu (Bk.other (Bk.other (Bk.other (Bk.other (Bk.other (Bk.other (Bk.other (Bk.other (Bk.other (Bk.other (Bk.other (Bk.other HN5.out (by omega) 0 _) (by omega) 1 _) (by omega) 2 _) (by omega) 3 _) (by omega) 4 _) (by omega) 5 _) (by omega) 6 _) (by omega) 7 _) (by omega) 8 _) (by omega) 9 _) (by omega) 10 _) (by omega) 11 _) hN (by omega))) rfl
  · exact (Below.setCell (Below.setCell (Below.setCell (Below.setCell (Below.setCell (Below.setCell (Below.setCell (Below.setCell (Below.setCell (Below.setCell (Below.setCell (Below.setCell HB5.out (Nat.le_add_right _ _) _) (Nat.le_add_right _ _) _) (Nat.le_add_right _ _) _) (Nat.le_add_right _ _) _) (Nat.le_add_right _ _) _) (Nat.le_add_right _ _) _) (Nat.le_add_right _ _) _) (Nat.le_add_right _ _) _) (Nat.le_add_right _ _) _) (Nat.le_add_right _ _) _) (Nat.le_add_right _ _) _) (Nat.le_add_right _ _) _)
end Go.Proofs.YtgmnoemkdigafaaDoor
