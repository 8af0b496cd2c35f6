/- As deep as it may be, and no deeper; an elsif is no deeper than its if: for every whole number and every truth. -/
import Derived.Test.YtgmnoemkdigafaaDoorScrCheck
import Derived.Test.YtgmnoemkdigafaaDoorScrDeepP
import Derived.Test.YtgmnoemkdigafaaDoorPick
namespace Go.Proofs.YtgmnoemkdigafaaDoor
open Go.RowKit
set_option linter.unusedVariables false

theorem mv_later {b : Nat} {w w' : World} (h : Below w.heap.size w w') : Mv b w w' := Mv.of_below h
/-- A new block's cells, whatever is done to another block. -/
theorem bk_mv {b q : Nat} {w w' : World} {cs : List Value} {t : TypeId} (h : Bk w q cs t) (hm : Mv b w w') (hne : q ≠ b) : Bk w' q cs t := h.mv hm hne
theorem testV_leaf (w : World) (k : Int) : TestV w (.mk k 0 0 [] [] false 0 []) [.int .i64 k, .int .i64 0, .int .i64 0, .slice none 0 0, .slice none 0 0, .bool false, .int .i64 0, .slice none 0 0] := by
  unfold TestV
  exact ⟨none, 0, none, 0, none, 0, rfl, .inl rfl, .inl rfl, by unfold TestsAt; trivial, by simp⟩
theorem testV_not {w : World} {t : Tst} {tv : List Value} {q : Nat} (h : TestV w t tv) (hq : Bk w q tv 31) : TestV w (.mk 3 0 0 [] [] false 0 [t]) [.int .i64 3, .int .i64 0, .int .i64 0, .slice none 0 0, .slice none 0 0, .bool false, .int .i64 0, .slice (some ⟨q, 0, none⟩) 1 1] := by
  unfold TestV
  refine ⟨none, 0, none, 0, some ⟨q, 0, none⟩, 1, rfl, .inl rfl, .inl rfl, ?_, by simp⟩
  unfold TestsAt
  exact ⟨q, 0, tv, rfl, fun i v hi => by rw [Nat.zero_add]; exact hq.cell i v hi, h, by unfold TestsAt; trivial⟩
theorem cmdsAt_one {w : World} {c : Cmd} {vs : List Value} {q : Nat} (h : CmdV w c vs) (hq : Bk w q vs 34) : CmdsAt w [c] (some ⟨q, 0, none⟩) := by
  unfold CmdsAt
  exact ⟨q, 0, vs, rfl, fun i v hi => by rw [Nat.zero_add]; exact hq.cell i v hi, h, by unfold CmdsAt; trivial⟩
theorem cmdV_mk {w : World} {t : Tst} {th el : List Cmd} {k m p lm : Int} {o : Bool} {An Ak At : Option Addr} {nn cn nk ck nt ct : Nat} {Ah Ae : Option Addr} {nh ch ne ce : Nat} (h : TestV w t [.int .i64 k, .int .i64 m, .int .i64 p, .slice An nn cn, .slice Ak nk ck, .bool o, .int .i64 lm, .slice At nt ct])
    (h1 : CmdsAt w th Ah) (h2 : CmdsAt w el Ae) (e1 : nh = th.length) (e2 : ne = el.length) (l1 : nh ≤ ch ∧ nh ≤ 1000000) (l2 : ne ≤ ce ∧ ne ≤ 1000000) :
    CmdV w (.mk 2 [] t th el) [.int .i64 2, .slice none 0 0, .int .i64 k, .int .i64 m, .int .i64 p, .slice An nn cn, .slice Ak nk ck, .bool o, .int .i64 lm, .slice At nt ct, .slice Ah nh ch, .slice Ae ne ce] := by
  subst e1 e2
  unfold CmdV
  exact ⟨none, 0, _, Ah, ch, Ae, ce, rfl, .inl rfl, h, h1, h2, by simp; omega⟩
theorem okT_chain : ∀ n, okT (chainT n)
  | 0 => by unfold chainT trueT okT; exact ⟨by omega, by omega, rfl, by unfold okTs; trivial⟩
  | n + 1 => by
    unfold chainT okT
    refine ⟨by omega, by omega, rfl, ?_⟩
    unfold okTs
    exact ⟨okT_chain n, by unfold okTs; trivial⟩
theorem okT_false : okT falseT := by unfold falseT okT; exact ⟨by omega, by omega, rfl, by unfold okTs; trivial⟩
theorem okCs_one {c : Cmd} (h : okC c) : okCs [c] := by unfold okCs; exact ⟨h, by unfold okCs; trivial⟩
theorem okCs_nil : okCs [] := by unfold okCs; trivial
theorem okC_if {t : Tst} {th el : List Cmd} (h : okT t) (h1 : okCs th) (h2 : okCs el) : okC (.mk 2 [] t th el) := by unfold okC; exact .inl ⟨rfl, rfl, h, h1, h2⟩
theorem okC_deepT (k : Nat) : okC (deepT k) := okC_if (okT_chain k) okCs_nil okCs_nil
theorem okC_chain : ∀ n, okC (chainC n)
  | 0 => by unfold chainC; exact okC_if (okT_chain 0) okCs_nil okCs_nil
  | n + 1 => by unfold chainC; exact okC_if (okT_chain 0) (okCs_one (okC_chain n)) okCs_nil
theorem okC_else : ∀ n, okC (elseC n)
  | 0 => by unfold elseC; exact okC_if (okT_chain 0) okCs_nil okCs_nil
  | n + 1 => by unfold elseC; exact okC_if okT_false okCs_nil (okCs_one (okC_else n))
theorem chkS_one (c : Cmd) (h : (cmdTk c).length ≤ 400) : chkS [c] = chkC c 0 := by
  unfold chkS
  rw [chkCs_one, cmdsTk_single, if_neg (show ¬ 400 < (cmdTk c).length by omega)]
  by_cases h : chkC c 0 ≠ 0
  · rw [if_pos h]
  · rw [if_neg h]; exact (Decidable.not_not.1 h).symm
/-- What Check answers of the one command in a box of its own. -/
theorem check_one (c : Cmd) (vs : List Value) (q : Nat) (w0 w : World) (hok : okC c) (hv : CmdV w c vs) (hq : Bk w q vs 34) (htab : TabsAt w) (hl : (cmdTk c).length ≤ 400) :
    Calls Tryd.prog 15 #[.slice (some ⟨q, 0, none⟩) 1 1] w fun e w' => e = .returned (.int .i64 (chkC c 0)) ∧ Below w.heap.size w w' := by
  have h := Check_calls [c] (okCs_one hok) (some ⟨q, 0, none⟩) 1 w (cmdsAt_one hv hq) htab (by simp) (by rw [cmdsTk_single]; omega)
  rw [chkS_one c hl] at h
  exact h
set_option maxRecDepth 100000 in
set_option maxHeartbeats 8000000 in
theorem scriptDeep_tests (n : Int) (w : World) (hn : (Lit.int .i64 n).wf = true) (htab : TabsAt w) :
    Calls Tryd.prog 4 #[.int .i64 n, .bool true] w fun e w' => e = .returned (.bool true) ∧ Below w.heap.size w w' := by
  have Htab := Lib.hid htab
  clear htab
  go_enter Tryd.func4, Tryd.ntmps4
  go_wp2_with fail
  refine (picked_calls n 12 w hn (by decide) (by decide)).mono ?_
  rintro e w' ⟨rfl, rfl⟩
  have hk := pickN_lt n 12 (by decide)
  generalize pickN n 12 = k at *
  have hk0 : (0 : Int) ≤ (k : Int) := by omega
  have hC := Bk.new w [.int .i64 2, .slice none 0 0, .int .i64 1, .int .i64 0, .int .i64 0, .slice none 0 0, .slice none 0 0, .bool false, .int .i64 0, .slice none 0 0, .slice none 0 0, .slice none 0 0] 34
  have hb1 : Below w.heap.size w (w.alloc (.cells #[.int .i64 2, .slice none 0 0, .int .i64 1, .int .i64 0, .int .i64 0, .slice none 0 0, .slice none 0 0, .bool false, .int .i64 0, .slice none 0 0, .slice none 0 0, .slice none 0 0] 34)) := bal (Below.refl _ _) _
  have HC := Lib.hid hC
  have Hb1 := Lib.hid hb1
  clear hC hb1
  go_upto_region 3 with fail
  generalize w.alloc (.cells #[.int .i64 2, .slice none 0 0, .int .i64 1, .int .i64 0, .int .i64 0, .slice none 0 0, .slice none 0 0, .bool false, .int .i64 0, .slice none 0 0, .slice none 0 0, .slice none 0 0] 34) = w1 at *
  go_wp2_with fail
  go_loopw [7] (fun i wr => ∃ (j : Nat) (kt : Int) (At : Option Addr) (nt ct : Nat), j ≤ k ∧ i = .int .i64 j ∧ Hid (Bk wr w.heap.size [.int .i64 2, .slice none 0 0, .int .i64 kt, .int .i64 0, .int .i64 0, .slice none 0 0, .slice none 0 0, .bool false, .int .i64 0, .slice At nt ct, .slice none 0 0, .slice none 0 0] 34) ∧ Hid (∀ W, Mv w.heap.size wr W → TestV W (chainT j) [.int .i64 kt, .int .i64 0, .int .i64 0, .slice none 0 0, .slice none 0 0, .bool false, .int .i64 0, .slice At nt ct]) ∧ Hid (Below w.heap.size w wr)) (fun i _ => k - (intOf i).toNat)
  case atStart => exact ⟨0, 1, none, 0, 0, Nat.zero_le _, rfl, HC, Lib.hid (fun W _ => testV_leaf W 1), Hb1⟩
  case round =>
    obtain ⟨j, kt, At, nt, ct, hj, rfl, HB, HT, Hb⟩ := hrel
    by_cases hlt : j < k
    · have hj0 : (0 : Int) ≤ (j : Int) := by omega
      have hjn : (j : Int) < (k : Int) := by omega
      have x2 := HB.out.cell 2 _ rfl
      have x3 := HB.out.cell 3 _ rfl
      have x4 := HB.out.cell 4 _ rfl
      have x5 := HB.out.cell 5 _ rfl
      have x6 := HB.out.cell 6 _ rfl
      have x7 := HB.out.cell 7 _ rfl
      have x8 := HB.out.cell 8 _ rfl
      have x9 := HB.out.cell 9 _ rfl
      have hB2 := HB.out.alloc (.cells #[.int .i64 kt, .int .i64 0, .int .i64 0, .slice none 0 0, .slice none 0 0, .bool false, .int .i64 0, .slice At nt ct] 31)
      have f2 := hB2.frozen 2
      have y2 := hB2.cell 2 _ rfl
      have f3 := hB2.frozen 3
      have y3 := hB2.cell 3 _ rfl
      have f4 := hB2.frozen 4
      have y4 := hB2.cell 4 _ rfl
      have f5 := hB2.frozen 5
      have y5 := hB2.cell 5 _ rfl
      have f6 := hB2.frozen 6
      have y6 := hB2.cell 6 _ rfl
      have f7 := hB2.frozen 7
      have y7 := hB2.cell 7 _ rfl
      have f8 := hB2.frozen 8
      have y8 := hB2.cell 8 _ rfl
      have f9 := hB2.frozen 9
      have y9 := hB2.cell 9 _ rfl
      clear hB2
      go_wp2_with fail
      go_roundw
      case rel =>
        refine ⟨j + 1, 3, some ⟨wr.heap.size, 0, none⟩, 1, 1, by omega, by go_num, Lib.hid ?_, Lib.hid ?_, Lib.hid ?_⟩
        · refine bk_eq (((((((((HB.out.alloc _).set 2 _).set 3 _).set 4 _).set 5 _).set 6 _).set 7 _).set 8 _).set 9 _) ?_
          rfl
        · intro W hW
          have hm := (show Mv w.heap.size (wr.alloc (.cells #[.int .i64 kt, .int .i64 0, .int .i64 0, .slice none 0 0, .slice none 0 0, .bool false, .int .i64 0, .slice At nt ct] 31)) W from Mv.trans (Mv.set (Mv.set (Mv.set (Mv.set (Mv.set (Mv.set (Mv.set (Mv.set (Mv.refl _ _) 2 _) 3 _) 4 _) 5 _) 6 _) 7 _) 8 _) 9 _) hW)
          have hne : wr.heap.size ≠ w.heap.size := by have := HB.out.lt; omega
          rw [chainT]
          exact testV_not (HT.out W (((Mv.refl _ wr).alloc _).trans hm)) ((Bk.new wr _ _).mv hm hne)
        · exact (Below.setCell (Below.setCell (Below.setCell (Below.setCell (Below.setCell (Below.setCell (Below.setCell (Below.setCell (bal Hb.out _) (Nat.le_refl _) _) (Nat.le_refl _) _) (Nat.le_refl _) _) (Nat.le_refl _) _) (Nat.le_refl _) _) (Nat.le_refl _) _) (Nat.le_refl _) _) (Nat.le_refl _) _)
      case measure => simp [intOf]; omega
    · obtain rfl : j = k := by omega
      have hv := fun (W : World) (hm : Mv w.heap.size wr W) => (show CmdV W (deepT j) [.int .i64 2, .slice none 0 0, .int .i64 kt, .int .i64 0, .int .i64 0, .slice none 0 0, .slice none 0 0, .bool false, .int .i64 0, .slice At nt ct, .slice none 0 0, .slice none 0 0] from cmdV_mk (HT.out W hm) (by unfold CmdsAt; trivial) (by unfold CmdsAt; trivial) rfl rfl (by omega) (by omega))
      have HV := Lib.hid hv
      clear hv HT
      by_cases h6 : 6 < (j : Int) + 1
      · obtain ⟨wo, hwo⟩ : ∃ wo, wo = wr := ⟨_, rfl⟩
        subst hwo
        have hF := Bk.new wo [.int .i64 2, .slice none 0 0, .int .i64 1, .int .i64 0, .int .i64 0, .slice none 0 0, .slice none 0 0, .bool false, .int .i64 0, .slice none 0 0, .slice none 0 0, .slice none 0 0] 34
        have hbf : Below wo.heap.size wo (wo.alloc (.cells #[.int .i64 2, .slice none 0 0, .int .i64 1, .int .i64 0, .int .i64 0, .slice none 0 0, .slice none 0 0, .bool false, .int .i64 0, .slice none 0 0, .slice none 0 0, .slice none 0 0] 34)) := bal (Below.refl _ _) _
        have HF := Lib.hid hF
        have Hbf := Lib.hid hbf
        clear hF hbf
        go_upto_region 13 with fail
        generalize wo.alloc (.cells #[.int .i64 2, .slice none 0 0, .int .i64 1, .int .i64 0, .int .i64 0, .slice none 0 0, .slice none 0 0, .bool false, .int .i64 0, .slice none 0 0, .slice none 0 0, .slice none 0 0] 34) = w2 at *
        go_wp2_with fail
        go_loopw [10] (fun i wr => ∃ (j2 : Nat) (kt2 : Int) (Ae : Option Addr) (ne ce : Nat), j2 ≤ 20 ∧ i = .int .i64 j2 ∧ Hid (Bk wr wo.heap.size [.int .i64 2, .slice none 0 0, .int .i64 kt2, .int .i64 0, .int .i64 0, .slice none 0 0, .slice none 0 0, .bool false, .int .i64 0, .slice none 0 0, .slice none 0 0, .slice Ae ne ce] 34) ∧ Hid (∀ W, Mv wo.heap.size wr W → CmdV W (elseC j2) [.int .i64 2, .slice none 0 0, .int .i64 kt2, .int .i64 0, .int .i64 0, .slice none 0 0, .slice none 0 0, .bool false, .int .i64 0, .slice none 0 0, .slice none 0 0, .slice Ae ne ce]) ∧ Hid (Below wo.heap.size wo wr)) (fun i _ => 20 - (intOf i).toNat)
        case atStart => exact ⟨0, 1, none, 0, 0, by omega, rfl, HF, Lib.hid (fun W _ => by rw [elseC]; exact cmdV_mk (testV_leaf W 1) (by unfold CmdsAt; trivial) (by unfold CmdsAt; trivial) rfl rfl (by omega) (by omega)), Hbf⟩
        case round =>
          obtain ⟨j2, kt2, Ae, ne, ce, hj2, rfl, HG, HE, Hbe⟩ := hrel
          by_cases hl2 : j2 < 20
          · have hj0 : (0 : Int) ≤ (j2 : Int) := by omega
            have hjn : (j2 : Int) < 20 := by omega
            have x0 := HG.out.cell 0 _ rfl
            have x1 := HG.out.cell 1 _ rfl
            have x2 := HG.out.cell 2 _ rfl
            have x3 := HG.out.cell 3 _ rfl
            have x4 := HG.out.cell 4 _ rfl
            have x5 := HG.out.cell 5 _ rfl
            have x6 := HG.out.cell 6 _ rfl
            have x7 := HG.out.cell 7 _ rfl
            have x8 := HG.out.cell 8 _ rfl
            have x9 := HG.out.cell 9 _ rfl
            have x10 := HG.out.cell 10 _ rfl
            have x11 := HG.out.cell 11 _ rfl
            have hB2 := HG.out.alloc (.cells #[.int .i64 2, .slice none 0 0, .int .i64 kt2, .int .i64 0, .int .i64 0, .slice none 0 0, .slice none 0 0, .bool false, .int .i64 0, .slice none 0 0, .slice none 0 0, .slice Ae ne ce] 34)
            have f0 := hB2.frozen 0
            have y0 := hB2.cell 0 _ rfl
            have f1 := hB2.frozen 1
            have y1 := hB2.cell 1 _ rfl
            have f2 := hB2.frozen 2
            have y2 := hB2.cell 2 _ rfl
            have f3 := hB2.frozen 3
            have y3 := hB2.cell 3 _ rfl
            have f4 := hB2.frozen 4
            have y4 := hB2.cell 4 _ rfl
            have f5 := hB2.frozen 5
            have y5 := hB2.cell 5 _ rfl
            have f6 := hB2.frozen 6
            have y6 := hB2.cell 6 _ rfl
            have f7 := hB2.frozen 7
            have y7 := hB2.cell 7 _ rfl
            have f8 := hB2.frozen 8
            have y8 := hB2.cell 8 _ rfl
            have f9 := hB2.frozen 9
            have y9 := hB2.cell 9 _ rfl
            have f10 := hB2.frozen 10
            have y10 := hB2.cell 10 _ rfl
            have f11 := hB2.frozen 11
            have y11 := hB2.cell 11 _ rfl
            clear hB2
            go_wp2_with fail
            go_roundw
            case rel =>
              refine ⟨j2 + 1, 2, some ⟨wr.heap.size, 0, none⟩, 1, 1, by omega, by go_num, Lib.hid ?_, Lib.hid ?_, Lib.hid ?_⟩
              · refine bk_eq (((((((((((((HG.out.alloc _).set 0 _).set 1 _).set 2 _).set 3 _).set 4 _).set 5 _).set 6 _).set 7 _).set 8 _).set 9 _).set 10 _).set 11 _) ?_
                rfl
              · intro W hW
                have hm := (show Mv wo.heap.size (wr.alloc (.cells #[.int .i64 2, .slice none 0 0, .int .i64 kt2, .int .i64 0, .int .i64 0, .slice none 0 0, .slice none 0 0, .bool false, .int .i64 0, .slice none 0 0, .slice none 0 0, .slice Ae ne ce] 34)) W from Mv.trans (Mv.set (Mv.set (Mv.set (Mv.set (Mv.set (Mv.set (Mv.set (Mv.set (Mv.set (Mv.set (Mv.set (Mv.set (Mv.refl _ _) 0 _) 1 _) 2 _) 3 _) 4 _) 5 _) 6 _) 7 _) 8 _) 9 _) 10 _) 11 _) hW)
                have hne : wr.heap.size ≠ wo.heap.size := by have := HG.out.lt; omega
                have hv := HE.out W (((Mv.refl _ wr).alloc _).trans hm)
                rw [elseC]
                exact cmdV_mk (testV_leaf W 2) (by unfold CmdsAt; trivial) (cmdsAt_one hv ((Bk.new wr _ _).mv hm hne)) rfl rfl (by omega) (by omega)
              · exact (Below.setCell (Below.setCell (Below.setCell (Below.setCell (Below.setCell (Below.setCell (Below.setCell (Below.setCell (Below.setCell (Below.setCell (Below.setCell (Below.setCell (bal Hbe.out _) (Nat.le_refl _) _) (Nat.le_refl _) _) (Nat.le_refl _) _) (Nat.le_refl _) _) (Nat.le_refl _) _) (Nat.le_refl _) _) (Nat.le_refl _) _) (Nat.le_refl _) _) (Nat.le_refl _) _) (Nat.le_refl _) _) (Nat.le_refl _) _) (Nat.le_refl _) _)
            case measure => simp [intOf]; omega
          · obtain rfl : j2 = 20 := by omega
            have hBc := HB.out.later Hbe.out
            have x0 := hBc.cell 0 _ rfl
            have x1 := hBc.cell 1 _ rfl
            have x2 := hBc.cell 2 _ rfl
            have x3 := hBc.cell 3 _ rfl
            have x4 := hBc.cell 4 _ rfl
            have x5 := hBc.cell 5 _ rfl
            have x6 := hBc.cell 6 _ rfl
            have x7 := hBc.cell 7 _ rfl
            have x8 := hBc.cell 8 _ rfl
            have x9 := hBc.cell 9 _ rfl
            have x10 := hBc.cell 10 _ rfl
            have x11 := hBc.cell 11 _ rfl
            have hv1 := HV.out (wr.alloc (.cells #[.int .i64 2, .slice none 0 0, .int .i64 kt, .int .i64 0, .int .i64 0, .slice none 0 0, .slice none 0 0, .bool false, .int .i64 0, .slice At nt ct, .slice none 0 0, .slice none 0 0] 34)) (Mv.of_below (btr Hbe.out (bal (Below.refl _ _) _)))
            have hck := check_one (deepT j) _ wr.heap.size wr (wr.alloc (.cells #[.int .i64 2, .slice none 0 0, .int .i64 kt, .int .i64 0, .int .i64 0, .slice none 0 0, .slice none 0 0, .bool false, .int .i64 0, .slice At nt ct, .slice none 0 0, .slice none 0 0] 34)) (okC_deepT j) hv1 (Bk.new wr _ _) (Htab.out.later (btr Hb.out (btr Hbe.out (bal (Below.refl _ _) _)))) (by rw [cmdTk_deepT]; omega)
            rw [show chkC (deepT j) 0 = 1 by rw [chkC_deepT, if_pos (by omega)]] at hck
            have hfl := fun (w4 : World) (hb : Below (wr.alloc (.cells #[.int .i64 2, .slice none 0 0, .int .i64 kt, .int .i64 0, .int .i64 0, .slice none 0 0, .slice none 0 0, .bool false, .int .i64 0, .slice At nt ct, .slice none 0 0, .slice none 0 0] 34)).heap.size (wr.alloc (.cells #[.int .i64 2, .slice none 0 0, .int .i64 kt, .int .i64 0, .int .i64 0, .slice none 0 0, .slice none 0 0, .bool false, .int .i64 0, .slice At nt ct, .slice none 0 0, .slice none 0 0] 34)) w4) => And.intro (HG.out.later (btr (bal (Below.refl _ wr) _) hb)) (check_one (elseC 20) _ w4.heap.size wr (w4.alloc (.cells #[.int .i64 2, .slice none 0 0, .int .i64 kt2, .int .i64 0, .int .i64 0, .slice none 0 0, .slice none 0 0, .bool false, .int .i64 0, .slice none 0 0, .slice none 0 0, .slice Ae ne ce] 34)) (okC_else 20) (HE.out _ (Mv.of_below (btr (btr (bal (Below.refl _ wr) _) hb) (bal (Below.refl _ _) _)))) (Bk.new w4 _ _) (Htab.out.later (btr Hb.out (btr Hbe.out (btr (btr (bal (Below.refl _ wr) _) hb) (bal (Below.refl _ _) _))))) (by rw [cmdTk_else]; omega))
            rw [chkC_else 20 0 (by omega)] at hfl
            have Hck := Lib.hid hck
            have Hfl := Lib.hid hfl
            have Hbb := Lib.hid (btr Hb.out Hbe.out)
            have Hal := Lib.hid (bal (Below.refl _ wr) (.cells #[.int .i64 2, .slice none 0 0, .int .i64 kt, .int .i64 0, .int .i64 0, .slice none 0 0, .slice none 0 0, .bool false, .int .i64 0, .slice At nt ct, .slice none 0 0, .slice none 0 0] 34))
            clear hBc hv1 hck hfl HB HV HG HE Hbe Htab
            go_wp2_with (go_at_call 15; first | (with_reducible refine Hck.out.mono ?_; rintro e w4 ⟨rfl, hb4⟩; obtain ⟨hF4, hf4⟩ := Hfl.out w4 hb4; have Hf4 := Lib.hid hf4; have Hb4 := Lib.hid hb4; have z0 := hF4.cell 0 _ rfl; have z1 := hF4.cell 1 _ rfl; have z2 := hF4.cell 2 _ rfl; have z3 := hF4.cell 3 _ rfl; have z4 := hF4.cell 4 _ rfl; have z5 := hF4.cell 5 _ rfl; have z6 := hF4.cell 6 _ rfl; have z7 := hF4.cell 7 _ rfl; have z8 := hF4.cell 8 _ rfl; have z9 := hF4.cell 9 _ rfl; have z10 := hF4.cell 10 _ rfl; have z11 := hF4.cell 11 _ rfl; clear hF4 hf4 hb4) | (with_reducible refine Hf4.out.mono ?_; rintro e w5 ⟨rfl, hb5⟩))
            go_ret
            exact ⟨rfl, btr Hbb.out (btr Hal.out (btr Hb4.out (btr (bal (Below.refl _ _) _) hb5)))⟩
      · obtain ⟨wo, hwo⟩ : ∃ wo, wo = wr := ⟨_, rfl⟩
        subst hwo
        have hF := Bk.new wo [.int .i64 2, .slice none 0 0, .int .i64 1, .int .i64 0, .int .i64 0, .slice none 0 0, .slice none 0 0, .bool false, .int .i64 0, .slice none 0 0, .slice none 0 0, .slice none 0 0] 34
        have hbf : Below wo.heap.size wo (wo.alloc (.cells #[.int .i64 2, .slice none 0 0, .int .i64 1, .int .i64 0, .int .i64 0, .slice none 0 0, .slice none 0 0, .bool false, .int .i64 0, .slice none 0 0, .slice none 0 0, .slice none 0 0] 34)) := bal (Below.refl _ _) _
        have HF := Lib.hid hF
        have Hbf := Lib.hid hbf
        clear hF hbf
        go_upto_region 13 with fail
        generalize wo.alloc (.cells #[.int .i64 2, .slice none 0 0, .int .i64 1, .int .i64 0, .int .i64 0, .slice none 0 0, .slice none 0 0, .bool false, .int .i64 0, .slice none 0 0, .slice none 0 0, .slice none 0 0] 34) = w2 at *
        go_wp2_with fail
        go_loopw [10] (fun i wr => ∃ (j2 : Nat) (kt2 : Int) (Ae : Option Addr) (ne ce : Nat), j2 ≤ 20 ∧ i = .int .i64 j2 ∧ Hid (Bk wr wo.heap.size [.int .i64 2, .slice none 0 0, .int .i64 kt2, .int .i64 0, .int .i64 0, .slice none 0 0, .slice none 0 0, .bool false, .int .i64 0, .slice none 0 0, .slice none 0 0, .slice Ae ne ce] 34) ∧ Hid (∀ W, Mv wo.heap.size wr W → CmdV W (elseC j2) [.int .i64 2, .slice none 0 0, .int .i64 kt2, .int .i64 0, .int .i64 0, .slice none 0 0, .slice none 0 0, .bool false, .int .i64 0, .slice none 0 0, .slice none 0 0, .slice Ae ne ce]) ∧ Hid (Below wo.heap.size wo wr)) (fun i _ => 20 - (intOf i).toNat)
        case atStart => exact ⟨0, 1, none, 0, 0, by omega, rfl, HF, Lib.hid (fun W _ => by rw [elseC]; exact cmdV_mk (testV_leaf W 1) (by unfold CmdsAt; trivial) (by unfold CmdsAt; trivial) rfl rfl (by omega) (by omega)), Hbf⟩
        case round =>
          obtain ⟨j2, kt2, Ae, ne, ce, hj2, rfl, HG, HE, Hbe⟩ := hrel
          by_cases hl2 : j2 < 20
          · have hj0 : (0 : Int) ≤ (j2 : Int) := by omega
            have hjn : (j2 : Int) < 20 := by omega
            have x0 := HG.out.cell 0 _ rfl
            have x1 := HG.out.cell 1 _ rfl
            have x2 := HG.out.cell 2 _ rfl
            have x3 := HG.out.cell 3 _ rfl
            have x4 := HG.out.cell 4 _ rfl
            have x5 := HG.out.cell 5 _ rfl
            have x6 := HG.out.cell 6 _ rfl
            have x7 := HG.out.cell 7 _ rfl
            have x8 := HG.out.cell 8 _ rfl
            have x9 := HG.out.cell 9 _ rfl
            have x10 := HG.out.cell 10 _ rfl
            have x11 := HG.out.cell 11 _ rfl
            have hB2 := HG.out.alloc (.cells #[.int .i64 2, .slice none 0 0, .int .i64 kt2, .int .i64 0, .int .i64 0, .slice none 0 0, .slice none 0 0, .bool false, .int .i64 0, .slice none 0 0, .slice none 0 0, .slice Ae ne ce] 34)
            have f0 := hB2.frozen 0
            have y0 := hB2.cell 0 _ rfl
            have f1 := hB2.frozen 1
            have y1 := hB2.cell 1 _ rfl
            have f2 := hB2.frozen 2
            have y2 := hB2.cell 2 _ rfl
            have f3 := hB2.frozen 3
            have y3 := hB2.cell 3 _ rfl
            have f4 := hB2.frozen 4
            have y4 := hB2.cell 4 _ rfl
            have f5 := hB2.frozen 5
            have y5 := hB2.cell 5 _ rfl
            have f6 := hB2.frozen 6
            have y6 := hB2.cell 6 _ rfl
            have f7 := hB2.frozen 7
            have y7 := hB2.cell 7 _ rfl
            have f8 := hB2.frozen 8
            have y8 := hB2.cell 8 _ rfl
            have f9 := hB2.frozen 9
            have y9 := hB2.cell 9 _ rfl
            have f10 := hB2.frozen 10
            have y10 := hB2.cell 10 _ rfl
            have f11 := hB2.frozen 11
            have y11 := hB2.cell 11 _ rfl
            clear hB2
            go_wp2_with fail
            go_roundw
            case rel =>
              refine ⟨j2 + 1, 2, some ⟨wr.heap.size, 0, none⟩, 1, 1, by omega, by go_num, Lib.hid ?_, Lib.hid ?_, Lib.hid ?_⟩
              · refine bk_eq (((((((((((((HG.out.alloc _).set 0 _).set 1 _).set 2 _).set 3 _).set 4 _).set 5 _).set 6 _).set 7 _).set 8 _).set 9 _).set 10 _).set 11 _) ?_
                rfl
              · intro W hW
                have hm := (show Mv wo.heap.size (wr.alloc (.cells #[.int .i64 2, .slice none 0 0, .int .i64 kt2, .int .i64 0, .int .i64 0, .slice none 0 0, .slice none 0 0, .bool false, .int .i64 0, .slice none 0 0, .slice none 0 0, .slice Ae ne ce] 34)) W from Mv.trans (Mv.set (Mv.set (Mv.set (Mv.set (Mv.set (Mv.set (Mv.set (Mv.set (Mv.set (Mv.set (Mv.set (Mv.set (Mv.refl _ _) 0 _) 1 _) 2 _) 3 _) 4 _) 5 _) 6 _) 7 _) 8 _) 9 _) 10 _) 11 _) hW)
                have hne : wr.heap.size ≠ wo.heap.size := by have := HG.out.lt; omega
                have hv := HE.out W (((Mv.refl _ wr).alloc _).trans hm)
                rw [elseC]
                exact cmdV_mk (testV_leaf W 2) (by unfold CmdsAt; trivial) (cmdsAt_one hv ((Bk.new wr _ _).mv hm hne)) rfl rfl (by omega) (by omega)
              · exact (Below.setCell (Below.setCell (Below.setCell (Below.setCell (Below.setCell (Below.setCell (Below.setCell (Below.setCell (Below.setCell (Below.setCell (Below.setCell (Below.setCell (bal Hbe.out _) (Nat.le_refl _) _) (Nat.le_refl _) _) (Nat.le_refl _) _) (Nat.le_refl _) _) (Nat.le_refl _) _) (Nat.le_refl _) _) (Nat.le_refl _) _) (Nat.le_refl _) _) (Nat.le_refl _) _) (Nat.le_refl _) _) (Nat.le_refl _) _) (Nat.le_refl _) _)
            case measure => simp [intOf]; omega
          · obtain rfl : j2 = 20 := by omega
            have hBc := HB.out.later Hbe.out
            have x0 := hBc.cell 0 _ rfl
            have x1 := hBc.cell 1 _ rfl
            have x2 := hBc.cell 2 _ rfl
            have x3 := hBc.cell 3 _ rfl
            have x4 := hBc.cell 4 _ rfl
            have x5 := hBc.cell 5 _ rfl
            have x6 := hBc.cell 6 _ rfl
            have x7 := hBc.cell 7 _ rfl
            have x8 := hBc.cell 8 _ rfl
            have x9 := hBc.cell 9 _ rfl
            have x10 := hBc.cell 10 _ rfl
            have x11 := hBc.cell 11 _ rfl
            have hv1 := HV.out (wr.alloc (.cells #[.int .i64 2, .slice none 0 0, .int .i64 kt, .int .i64 0, .int .i64 0, .slice none 0 0, .slice none 0 0, .bool false, .int .i64 0, .slice At nt ct, .slice none 0 0, .slice none 0 0] 34)) (Mv.of_below (btr Hbe.out (bal (Below.refl _ _) _)))
            have hck := check_one (deepT j) _ wr.heap.size wr (wr.alloc (.cells #[.int .i64 2, .slice none 0 0, .int .i64 kt, .int .i64 0, .int .i64 0, .slice none 0 0, .slice none 0 0, .bool false, .int .i64 0, .slice At nt ct, .slice none 0 0, .slice none 0 0] 34)) (okC_deepT j) hv1 (Bk.new wr _ _) (Htab.out.later (btr Hb.out (btr Hbe.out (bal (Below.refl _ _) _)))) (by rw [cmdTk_deepT]; omega)
            rw [show chkC (deepT j) 0 = 0 by rw [chkC_deepT, if_neg (by omega)]] at hck
            have hfl := fun (w4 : World) (hb : Below (wr.alloc (.cells #[.int .i64 2, .slice none 0 0, .int .i64 kt, .int .i64 0, .int .i64 0, .slice none 0 0, .slice none 0 0, .bool false, .int .i64 0, .slice At nt ct, .slice none 0 0, .slice none 0 0] 34)).heap.size (wr.alloc (.cells #[.int .i64 2, .slice none 0 0, .int .i64 kt, .int .i64 0, .int .i64 0, .slice none 0 0, .slice none 0 0, .bool false, .int .i64 0, .slice At nt ct, .slice none 0 0, .slice none 0 0] 34)) w4) => And.intro (HG.out.later (btr (bal (Below.refl _ wr) _) hb)) (check_one (elseC 20) _ w4.heap.size wr (w4.alloc (.cells #[.int .i64 2, .slice none 0 0, .int .i64 kt2, .int .i64 0, .int .i64 0, .slice none 0 0, .slice none 0 0, .bool false, .int .i64 0, .slice none 0 0, .slice none 0 0, .slice Ae ne ce] 34)) (okC_else 20) (HE.out _ (Mv.of_below (btr (btr (bal (Below.refl _ wr) _) hb) (bal (Below.refl _ _) _)))) (Bk.new w4 _ _) (Htab.out.later (btr Hb.out (btr Hbe.out (btr (btr (bal (Below.refl _ wr) _) hb) (bal (Below.refl _ _) _))))) (by rw [cmdTk_else]; omega))
            rw [chkC_else 20 0 (by omega)] at hfl
            have Hck := Lib.hid hck
            have Hfl := Lib.hid hfl
            have Hbb := Lib.hid (btr Hb.out Hbe.out)
            have Hal := Lib.hid (bal (Below.refl _ wr) (.cells #[.int .i64 2, .slice none 0 0, .int .i64 kt, .int .i64 0, .int .i64 0, .slice none 0 0, .slice none 0 0, .bool false, .int .i64 0, .slice At nt ct, .slice none 0 0, .slice none 0 0] 34))
            clear hBc hv1 hck hfl HB HV HG HE Hbe Htab
            go_wp2_with (go_at_call 15; first | (with_reducible refine Hck.out.mono ?_; rintro e w4 ⟨rfl, hb4⟩; obtain ⟨hF4, hf4⟩ := Hfl.out w4 hb4; have Hf4 := Lib.hid hf4; have Hb4 := Lib.hid hb4; have z0 := hF4.cell 0 _ rfl; have z1 := hF4.cell 1 _ rfl; have z2 := hF4.cell 2 _ rfl; have z3 := hF4.cell 3 _ rfl; have z4 := hF4.cell 4 _ rfl; have z5 := hF4.cell 5 _ rfl; have z6 := hF4.cell 6 _ rfl; have z7 := hF4.cell 7 _ rfl; have z8 := hF4.cell 8 _ rfl; have z9 := hF4.cell 9 _ rfl; have z10 := hF4.cell 10 _ rfl; have z11 := hF4.cell 11 _ rfl; clear hF4 hf4 hb4) | (with_reducible refine Hf4.out.mono ?_; rintro e w5 ⟨rfl, hb5⟩))
            go_ret
            exact ⟨rfl, btr Hbb.out (btr Hal.out (btr Hb4.out (btr (bal (Below.refl _ _) _) hb5)))⟩
set_option maxRecDepth 100000 in
set_option maxHeartbeats 8000000 in
theorem scriptDeep_cmds (n : Int) (w : World) (hn : (Lit.int .i64 n).wf = true) (htab : TabsAt w) :
    Calls Tryd.prog 4 #[.int .i64 n, .bool false] w fun e w' => e = .returned (.bool true) ∧ Below w.heap.size w w' := by
  have Htab := Lib.hid htab
  clear htab
  go_enter Tryd.func4, Tryd.ntmps4
  go_wp2_with fail
  refine (picked_calls n 12 w hn (by decide) (by decide)).mono ?_
  rintro e w' ⟨rfl, rfl⟩
  have hk := pickN_lt n 12 (by decide)
  generalize pickN n 12 = k at *
  have hk0 : (0 : Int) ≤ (k : Int) := by omega
  have hC := Bk.new w [.int .i64 2, .slice none 0 0, .int .i64 1, .int .i64 0, .int .i64 0, .slice none 0 0, .slice none 0 0, .bool false, .int .i64 0, .slice none 0 0, .slice none 0 0, .slice none 0 0] 34
  have hb1 : Below w.heap.size w (w.alloc (.cells #[.int .i64 2, .slice none 0 0, .int .i64 1, .int .i64 0, .int .i64 0, .slice none 0 0, .slice none 0 0, .bool false, .int .i64 0, .slice none 0 0, .slice none 0 0, .slice none 0 0] 34)) := bal (Below.refl _ _) _
  have HC := Lib.hid hC
  have Hb1 := Lib.hid hb1
  clear hC hb1
  go_upto_region 3 with fail
  generalize w.alloc (.cells #[.int .i64 2, .slice none 0 0, .int .i64 1, .int .i64 0, .int .i64 0, .slice none 0 0, .slice none 0 0, .bool false, .int .i64 0, .slice none 0 0, .slice none 0 0, .slice none 0 0] 34) = w1 at *
  go_wp2_with fail
  go_loopw [7] (fun i wr => ∃ (j : Nat) (Ah : Option Addr) (nh ch : Nat), j ≤ k ∧ i = .int .i64 j ∧ Hid (Bk wr w.heap.size [.int .i64 2, .slice none 0 0, .int .i64 1, .int .i64 0, .int .i64 0, .slice none 0 0, .slice none 0 0, .bool false, .int .i64 0, .slice none 0 0, .slice Ah nh ch, .slice none 0 0] 34) ∧ Hid (∀ W, Mv w.heap.size wr W → CmdV W (chainC j) [.int .i64 2, .slice none 0 0, .int .i64 1, .int .i64 0, .int .i64 0, .slice none 0 0, .slice none 0 0, .bool false, .int .i64 0, .slice none 0 0, .slice Ah nh ch, .slice none 0 0]) ∧ Hid (Below w.heap.size w wr)) (fun i _ => k - (intOf i).toNat)
  case atStart => exact ⟨0, none, 0, 0, Nat.zero_le _, rfl, HC, Lib.hid (fun W _ => by rw [chainC]; exact cmdV_mk (testV_leaf W 1) (by unfold CmdsAt; trivial) (by unfold CmdsAt; trivial) rfl rfl (by omega) (by omega)), Hb1⟩
  case round =>
    obtain ⟨j, Ah, nh, ch, hj, rfl, HB, HV, Hb⟩ := hrel
    by_cases hlt : j < k
    · have hj0 : (0 : Int) ≤ (j : Int) := by omega
      have hjn : (j : Int) < (k : Int) := by omega
      have x0 := HB.out.cell 0 _ rfl
      have x1 := HB.out.cell 1 _ rfl
      have x2 := HB.out.cell 2 _ rfl
      have x3 := HB.out.cell 3 _ rfl
      have x4 := HB.out.cell 4 _ rfl
      have x5 := HB.out.cell 5 _ rfl
      have x6 := HB.out.cell 6 _ rfl
      have x7 := HB.out.cell 7 _ rfl
      have x8 := HB.out.cell 8 _ rfl
      have x9 := HB.out.cell 9 _ rfl
      have x10 := HB.out.cell 10 _ rfl
      have x11 := HB.out.cell 11 _ rfl
      have hB2 := HB.out.alloc (.cells #[.int .i64 2, .slice none 0 0, .int .i64 1, .int .i64 0, .int .i64 0, .slice none 0 0, .slice none 0 0, .bool false, .int .i64 0, .slice none 0 0, .slice Ah nh ch, .slice none 0 0] 34)
      have f0 := hB2.frozen 0
      have y0 := hB2.cell 0 _ rfl
      have f1 := hB2.frozen 1
      have y1 := hB2.cell 1 _ rfl
      have f2 := hB2.frozen 2
      have y2 := hB2.cell 2 _ rfl
      have f3 := hB2.frozen 3
      have y3 := hB2.cell 3 _ rfl
      have f4 := hB2.frozen 4
      have y4 := hB2.cell 4 _ rfl
      have f5 := hB2.frozen 5
      have y5 := hB2.cell 5 _ rfl
      have f6 := hB2.frozen 6
      have y6 := hB2.cell 6 _ rfl
      have f7 := hB2.frozen 7
      have y7 := hB2.cell 7 _ rfl
      have f8 := hB2.frozen 8
      have y8 := hB2.cell 8 _ rfl
      have f9 := hB2.frozen 9
      have y9 := hB2.cell 9 _ rfl
      have f10 := hB2.frozen 10
      have y10 := hB2.cell 10 _ rfl
      have f11 := hB2.frozen 11
      have y11 := hB2.cell 11 _ rfl
      clear hB2
      go_wp2_with fail
      go_roundw
      case rel =>
        refine ⟨j + 1, some ⟨wr.heap.size, 0, none⟩, 1, 1, by omega, by go_num, Lib.hid ?_, Lib.hid ?_, Lib.hid ?_⟩
        · refine bk_eq (((((((((((((HB.out.alloc _).set 0 _).set 1 _).set 2 _).set 3 _).set 4 _).set 5 _).set 6 _).set 7 _).set 8 _).set 9 _).set 10 _).set 11 _) ?_
          rfl
        · intro W hW
          have hm := (show Mv w.heap.size (wr.alloc (.cells #[.int .i64 2, .slice none 0 0, .int .i64 1, .int .i64 0, .int .i64 0, .slice none 0 0, .slice none 0 0, .bool false, .int .i64 0, .slice none 0 0, .slice Ah nh ch, .slice none 0 0] 34)) W from Mv.trans (Mv.set (Mv.set (Mv.set (Mv.set (Mv.set (Mv.set (Mv.set (Mv.set (Mv.set (Mv.set (Mv.set (Mv.set (Mv.refl _ _) 0 _) 1 _) 2 _) 3 _) 4 _) 5 _) 6 _) 7 _) 8 _) 9 _) 10 _) 11 _) hW)
          have hne : wr.heap.size ≠ w.heap.size := by have := HB.out.lt; omega
          have hv := HV.out W (((Mv.refl _ wr).alloc _).trans hm)
          rw [chainC]
          exact cmdV_mk (testV_leaf W 1) (cmdsAt_one hv ((Bk.new wr _ _).mv hm hne)) (by unfold CmdsAt; trivial) rfl rfl (by omega) (by omega)
        · exact (Below.setCell (Below.setCell (Below.setCell (Below.setCell (Below.setCell (Below.setCell (Below.setCell (Below.setCell (Below.setCell (Below.setCell (Below.setCell (Below.setCell (bal Hb.out _) (Nat.le_refl _) _) (Nat.le_refl _) _) (Nat.le_refl _) _) (Nat.le_refl _) _) (Nat.le_refl _) _) (Nat.le_refl _) _) (Nat.le_refl _) _) (Nat.le_refl _) _) (Nat.le_refl _) _) (Nat.le_refl _) _) (Nat.le_refl _) _) (Nat.le_refl _) _)
      case measure => simp [intOf]; omega
    · obtain rfl : j = k := by omega
      by_cases h6 : 6 < (j : Int)
      · obtain ⟨wo, hwo⟩ : ∃ wo, wo = wr := ⟨_, rfl⟩
        subst hwo
        have hF := Bk.new wo [.int .i64 2, .slice none 0 0, .int .i64 1, .int .i64 0, .int .i64 0, .slice none 0 0, .slice none 0 0, .bool false, .int .i64 0, .slice none 0 0, .slice none 0 0, .slice none 0 0] 34
        have hbf : Below wo.heap.size wo (wo.alloc (.cells #[.int .i64 2, .slice none 0 0, .int .i64 1, .int .i64 0, .int .i64 0, .slice none 0 0, .slice none 0 0, .bool false, .int .i64 0, .slice none 0 0, .slice none 0 0, .slice none 0 0] 34)) := bal (Below.refl _ _) _
        have HF := Lib.hid hF
        have Hbf := Lib.hid hbf
        clear hF hbf
        go_upto_region 13 with fail
        generalize wo.alloc (.cells #[.int .i64 2, .slice none 0 0, .int .i64 1, .int .i64 0, .int .i64 0, .slice none 0 0, .slice none 0 0, .bool false, .int .i64 0, .slice none 0 0, .slice none 0 0, .slice none 0 0] 34) = w2 at *
        go_wp2_with fail
        go_loopw [10] (fun i wr => ∃ (j2 : Nat) (kt2 : Int) (Ae : Option Addr) (ne ce : Nat), j2 ≤ 20 ∧ i = .int .i64 j2 ∧ Hid (Bk wr wo.heap.size [.int .i64 2, .slice none 0 0, .int .i64 kt2, .int .i64 0, .int .i64 0, .slice none 0 0, .slice none 0 0, .bool false, .int .i64 0, .slice none 0 0, .slice none 0 0, .slice Ae ne ce] 34) ∧ Hid (∀ W, Mv wo.heap.size wr W → CmdV W (elseC j2) [.int .i64 2, .slice none 0 0, .int .i64 kt2, .int .i64 0, .int .i64 0, .slice none 0 0, .slice none 0 0, .bool false, .int .i64 0, .slice none 0 0, .slice none 0 0, .slice Ae ne ce]) ∧ Hid (Below wo.heap.size wo wr)) (fun i _ => 20 - (intOf i).toNat)
        case atStart => exact ⟨0, 1, none, 0, 0, by omega, rfl, HF, Lib.hid (fun W _ => by rw [elseC]; exact cmdV_mk (testV_leaf W 1) (by unfold CmdsAt; trivial) (by unfold CmdsAt; trivial) rfl rfl (by omega) (by omega)), Hbf⟩
        case round =>
          obtain ⟨j2, kt2, Ae, ne, ce, hj2, rfl, HG, HE, Hbe⟩ := hrel
          by_cases hl2 : j2 < 20
          · have hj0 : (0 : Int) ≤ (j2 : Int) := by omega
            have hjn : (j2 : Int) < 20 := by omega
            have x0 := HG.out.cell 0 _ rfl
            have x1 := HG.out.cell 1 _ rfl
            have x2 := HG.out.cell 2 _ rfl
            have x3 := HG.out.cell 3 _ rfl
            have x4 := HG.out.cell 4 _ rfl
            have x5 := HG.out.cell 5 _ rfl
            have x6 := HG.out.cell 6 _ rfl
            have x7 := HG.out.cell 7 _ rfl
            have x8 := HG.out.cell 8 _ rfl
            have x9 := HG.out.cell 9 _ rfl
            have x10 := HG.out.cell 10 _ rfl
            have x11 := HG.out.cell 11 _ rfl
            have hB2 := HG.out.alloc (.cells #[.int .i64 2, .slice none 0 0, .int .i64 kt2, .int .i64 0, .int .i64 0, .slice none 0 0, .slice none 0 0, .bool false, .int .i64 0, .slice none 0 0, .slice none 0 0, .slice Ae ne ce] 34)
            have f0 := hB2.frozen 0
            have y0 := hB2.cell 0 _ rfl
            have f1 := hB2.frozen 1
            have y1 := hB2.cell 1 _ rfl
            have f2 := hB2.frozen 2
            have y2 := hB2.cell 2 _ rfl
            have f3 := hB2.frozen 3
            have y3 := hB2.cell 3 _ rfl
            have f4 := hB2.frozen 4
            have y4 := hB2.cell 4 _ rfl
            have f5 := hB2.frozen 5
            have y5 := hB2.cell 5 _ rfl
            have f6 := hB2.frozen 6
            have y6 := hB2.cell 6 _ rfl
            have f7 := hB2.frozen 7
            have y7 := hB2.cell 7 _ rfl
            have f8 := hB2.frozen 8
            have y8 := hB2.cell 8 _ rfl
            have f9 := hB2.frozen 9
            have y9 := hB2.cell 9 _ rfl
            have f10 := hB2.frozen 10
            have y10 := hB2.cell 10 _ rfl
            have f11 := hB2.frozen 11
            have y11 := hB2.cell 11 _ rfl
            clear hB2
            go_wp2_with fail
            go_roundw
            case rel =>
              refine ⟨j2 + 1, 2, some ⟨wr.heap.size, 0, none⟩, 1, 1, by omega, by go_num, Lib.hid ?_, Lib.hid ?_, Lib.hid ?_⟩
              · refine bk_eq (((((((((((((HG.out.alloc _).set 0 _).set 1 _).set 2 _).set 3 _).set 4 _).set 5 _).set 6 _).set 7 _).set 8 _).set 9 _).set 10 _).set 11 _) ?_
                rfl
              · intro W hW
                have hm := (show Mv wo.heap.size (wr.alloc (.cells #[.int .i64 2, .slice none 0 0, .int .i64 kt2, .int .i64 0, .int .i64 0, .slice none 0 0, .slice none 0 0, .bool false, .int .i64 0, .slice none 0 0, .slice none 0 0, .slice Ae ne ce] 34)) W from Mv.trans (Mv.set (Mv.set (Mv.set (Mv.set (Mv.set (Mv.set (Mv.set (Mv.set (Mv.set (Mv.set (Mv.set (Mv.set (Mv.refl _ _) 0 _) 1 _) 2 _) 3 _) 4 _) 5 _) 6 _) 7 _) 8 _) 9 _) 10 _) 11 _) hW)
                have hne : wr.heap.size ≠ wo.heap.size := by have := HG.out.lt; omega
                have hv := HE.out W (((Mv.refl _ wr).alloc _).trans hm)
                rw [elseC]
                exact cmdV_mk (testV_leaf W 2) (by unfold CmdsAt; trivial) (cmdsAt_one hv ((Bk.new wr _ _).mv hm hne)) rfl rfl (by omega) (by omega)
              · exact (Below.setCell (Below.setCell (Below.setCell (Below.setCell (Below.setCell (Below.setCell (Below.setCell (Below.setCell (Below.setCell (Below.setCell (Below.setCell (Below.setCell (bal Hbe.out _) (Nat.le_refl _) _) (Nat.le_refl _) _) (Nat.le_refl _) _) (Nat.le_refl _) _) (Nat.le_refl _) _) (Nat.le_refl _) _) (Nat.le_refl _) _) (Nat.le_refl _) _) (Nat.le_refl _) _) (Nat.le_refl _) _) (Nat.le_refl _) _) (Nat.le_refl _) _)
            case measure => simp [intOf]; omega
          · obtain rfl : j2 = 20 := by omega
            have hBc := HB.out.later Hbe.out
            have x0 := hBc.cell 0 _ rfl
            have x1 := hBc.cell 1 _ rfl
            have x2 := hBc.cell 2 _ rfl
            have x3 := hBc.cell 3 _ rfl
            have x4 := hBc.cell 4 _ rfl
            have x5 := hBc.cell 5 _ rfl
            have x6 := hBc.cell 6 _ rfl
            have x7 := hBc.cell 7 _ rfl
            have x8 := hBc.cell 8 _ rfl
            have x9 := hBc.cell 9 _ rfl
            have x10 := hBc.cell 10 _ rfl
            have x11 := hBc.cell 11 _ rfl
            have hv1 := HV.out (wr.alloc (.cells #[.int .i64 2, .slice none 0 0, .int .i64 1, .int .i64 0, .int .i64 0, .slice none 0 0, .slice none 0 0, .bool false, .int .i64 0, .slice none 0 0, .slice Ah nh ch, .slice none 0 0] 34)) (Mv.of_below (btr Hbe.out (bal (Below.refl _ _) _)))
            have hck := check_one (chainC j) _ wr.heap.size wr (wr.alloc (.cells #[.int .i64 2, .slice none 0 0, .int .i64 1, .int .i64 0, .int .i64 0, .slice none 0 0, .slice none 0 0, .bool false, .int .i64 0, .slice none 0 0, .slice Ah nh ch, .slice none 0 0] 34)) (okC_chain j) hv1 (Bk.new wr _ _) (Htab.out.later (btr Hb.out (btr Hbe.out (bal (Below.refl _ _) _)))) (by rw [cmdTk_chain]; omega)
            rw [show chkC (chainC j) 0 = 1 by rw [chkC_chain, if_pos (by omega)]] at hck
            have hfl := fun (w4 : World) (hb : Below (wr.alloc (.cells #[.int .i64 2, .slice none 0 0, .int .i64 1, .int .i64 0, .int .i64 0, .slice none 0 0, .slice none 0 0, .bool false, .int .i64 0, .slice none 0 0, .slice Ah nh ch, .slice none 0 0] 34)).heap.size (wr.alloc (.cells #[.int .i64 2, .slice none 0 0, .int .i64 1, .int .i64 0, .int .i64 0, .slice none 0 0, .slice none 0 0, .bool false, .int .i64 0, .slice none 0 0, .slice Ah nh ch, .slice none 0 0] 34)) w4) => And.intro (HG.out.later (btr (bal (Below.refl _ wr) _) hb)) (check_one (elseC 20) _ w4.heap.size wr (w4.alloc (.cells #[.int .i64 2, .slice none 0 0, .int .i64 kt2, .int .i64 0, .int .i64 0, .slice none 0 0, .slice none 0 0, .bool false, .int .i64 0, .slice none 0 0, .slice none 0 0, .slice Ae ne ce] 34)) (okC_else 20) (HE.out _ (Mv.of_below (btr (btr (bal (Below.refl _ wr) _) hb) (bal (Below.refl _ _) _)))) (Bk.new w4 _ _) (Htab.out.later (btr Hb.out (btr Hbe.out (btr (btr (bal (Below.refl _ wr) _) hb) (bal (Below.refl _ _) _))))) (by rw [cmdTk_else]; omega))
            rw [chkC_else 20 0 (by omega)] at hfl
            have Hck := Lib.hid hck
            have Hfl := Lib.hid hfl
            have Hbb := Lib.hid (btr Hb.out Hbe.out)
            have Hal := Lib.hid (bal (Below.refl _ wr) (.cells #[.int .i64 2, .slice none 0 0, .int .i64 1, .int .i64 0, .int .i64 0, .slice none 0 0, .slice none 0 0, .bool false, .int .i64 0, .slice none 0 0, .slice Ah nh ch, .slice none 0 0] 34))
            clear hBc hv1 hck hfl HB HV HG HE Hbe Htab
            go_wp2_with (go_at_call 15; first | (with_reducible refine Hck.out.mono ?_; rintro e w4 ⟨rfl, hb4⟩; obtain ⟨hF4, hf4⟩ := Hfl.out w4 hb4; have Hf4 := Lib.hid hf4; have Hb4 := Lib.hid hb4; have z0 := hF4.cell 0 _ rfl; have z1 := hF4.cell 1 _ rfl; have z2 := hF4.cell 2 _ rfl; have z3 := hF4.cell 3 _ rfl; have z4 := hF4.cell 4 _ rfl; have z5 := hF4.cell 5 _ rfl; have z6 := hF4.cell 6 _ rfl; have z7 := hF4.cell 7 _ rfl; have z8 := hF4.cell 8 _ rfl; have z9 := hF4.cell 9 _ rfl; have z10 := hF4.cell 10 _ rfl; have z11 := hF4.cell 11 _ rfl; clear hF4 hf4 hb4) | (with_reducible refine Hf4.out.mono ?_; rintro e w5 ⟨rfl, hb5⟩))
            go_ret
            exact ⟨rfl, btr Hbb.out (btr Hal.out (btr Hb4.out (btr (bal (Below.refl _ _) _) hb5)))⟩
      · obtain ⟨wo, hwo⟩ : ∃ wo, wo = wr := ⟨_, rfl⟩
        subst hwo
        have hF := Bk.new wo [.int .i64 2, .slice none 0 0, .int .i64 1, .int .i64 0, .int .i64 0, .slice none 0 0, .slice none 0 0, .bool false, .int .i64 0, .slice none 0 0, .slice none 0 0, .slice none 0 0] 34
        have hbf : Below wo.heap.size wo (wo.alloc (.cells #[.int .i64 2, .slice none 0 0, .int .i64 1, .int .i64 0, .int .i64 0, .slice none 0 0, .slice none 0 0, .bool false, .int .i64 0, .slice none 0 0, .slice none 0 0, .slice none 0 0] 34)) := bal (Below.refl _ _) _
        have HF := Lib.hid hF
        have Hbf := Lib.hid hbf
        clear hF hbf
        go_upto_region 13 with fail
        generalize wo.alloc (.cells #[.int .i64 2, .slice none 0 0, .int .i64 1, .int .i64 0, .int .i64 0, .slice none 0 0, .slice none 0 0, .bool false, .int .i64 0, .slice none 0 0, .slice none 0 0, .slice none 0 0] 34) = w2 at *
        go_wp2_with fail
        go_loopw [10] (fun i wr => ∃ (j2 : Nat) (kt2 : Int) (Ae : Option Addr) (ne ce : Nat), j2 ≤ 20 ∧ i = .int .i64 j2 ∧ Hid (Bk wr wo.heap.size [.int .i64 2, .slice none 0 0, .int .i64 kt2, .int .i64 0, .int .i64 0, .slice none 0 0, .slice none 0 0, .bool false, .int .i64 0, .slice none 0 0, .slice none 0 0, .slice Ae ne ce] 34) ∧ Hid (∀ W, Mv wo.heap.size wr W → CmdV W (elseC j2) [.int .i64 2, .slice none 0 0, .int .i64 kt2, .int .i64 0, .int .i64 0, .slice none 0 0, .slice none 0 0, .bool false, .int .i64 0, .slice none 0 0, .slice none 0 0, .slice Ae ne ce]) ∧ Hid (Below wo.heap.size wo wr)) (fun i _ => 20 - (intOf i).toNat)
        case atStart => exact ⟨0, 1, none, 0, 0, by omega, rfl, HF, Lib.hid (fun W _ => by rw [elseC]; exact cmdV_mk (testV_leaf W 1) (by unfold CmdsAt; trivial) (by unfold CmdsAt; trivial) rfl rfl (by omega) (by omega)), Hbf⟩
        case round =>
          obtain ⟨j2, kt2, Ae, ne, ce, hj2, rfl, HG, HE, Hbe⟩ := hrel
          by_cases hl2 : j2 < 20
          · have hj0 : (0 : Int) ≤ (j2 : Int) := by omega
            have hjn : (j2 : Int) < 20 := by omega
            have x0 := HG.out.cell 0 _ rfl
            have x1 := HG.out.cell 1 _ rfl
            have x2 := HG.out.cell 2 _ rfl
            have x3 := HG.out.cell 3 _ rfl
            have x4 := HG.out.cell 4 _ rfl
            have x5 := HG.out.cell 5 _ rfl
            have x6 := HG.out.cell 6 _ rfl
            have x7 := HG.out.cell 7 _ rfl
            have x8 := HG.out.cell 8 _ rfl
            have x9 := HG.out.cell 9 _ rfl
            have x10 := HG.out.cell 10 _ rfl
            have x11 := HG.out.cell 11 _ rfl
            have hB2 := HG.out.alloc (.cells #[.int .i64 2, .slice none 0 0, .int .i64 kt2, .int .i64 0, .int .i64 0, .slice none 0 0, .slice none 0 0, .bool false, .int .i64 0, .slice none 0 0, .slice none 0 0, .slice Ae ne ce] 34)
            have f0 := hB2.frozen 0
            have y0 := hB2.cell 0 _ rfl
            have f1 := hB2.frozen 1
            have y1 := hB2.cell 1 _ rfl
            have f2 := hB2.frozen 2
            have y2 := hB2.cell 2 _ rfl
            have f3 := hB2.frozen 3
            have y3 := hB2.cell 3 _ rfl
            have f4 := hB2.frozen 4
            have y4 := hB2.cell 4 _ rfl
            have f5 := hB2.frozen 5
            have y5 := hB2.cell 5 _ rfl
            have f6 := hB2.frozen 6
            have y6 := hB2.cell 6 _ rfl
            have f7 := hB2.frozen 7
            have y7 := hB2.cell 7 _ rfl
            have f8 := hB2.frozen 8
            have y8 := hB2.cell 8 _ rfl
            have f9 := hB2.frozen 9
            have y9 := hB2.cell 9 _ rfl
            have f10 := hB2.frozen 10
            have y10 := hB2.cell 10 _ rfl
            have f11 := hB2.frozen 11
            have y11 := hB2.cell 11 _ rfl
            clear hB2
            go_wp2_with fail
            go_roundw
            case rel =>
              refine ⟨j2 + 1, 2, some ⟨wr.heap.size, 0, none⟩, 1, 1, by omega, by go_num, Lib.hid ?_, Lib.hid ?_, Lib.hid ?_⟩
              · refine bk_eq (((((((((((((HG.out.alloc _).set 0 _).set 1 _).set 2 _).set 3 _).set 4 _).set 5 _).set 6 _).set 7 _).set 8 _).set 9 _).set 10 _).set 11 _) ?_
                rfl
              · intro W hW
                have hm := (show Mv wo.heap.size (wr.alloc (.cells #[.int .i64 2, .slice none 0 0, .int .i64 kt2, .int .i64 0, .int .i64 0, .slice none 0 0, .slice none 0 0, .bool false, .int .i64 0, .slice none 0 0, .slice none 0 0, .slice Ae ne ce] 34)) W from Mv.trans (Mv.set (Mv.set (Mv.set (Mv.set (Mv.set (Mv.set (Mv.set (Mv.set (Mv.set (Mv.set (Mv.set (Mv.set (Mv.refl _ _) 0 _) 1 _) 2 _) 3 _) 4 _) 5 _) 6 _) 7 _) 8 _) 9 _) 10 _) 11 _) hW)
                have hne : wr.heap.size ≠ wo.heap.size := by have := HG.out.lt; omega
                have hv := HE.out W (((Mv.refl _ wr).alloc _).trans hm)
                rw [elseC]
                exact cmdV_mk (testV_leaf W 2) (by unfold CmdsAt; trivial) (cmdsAt_one hv ((Bk.new wr _ _).mv hm hne)) rfl rfl (by omega) (by omega)
              · exact (Below.setCell (Below.setCell (Below.setCell (Below.setCell (Below.setCell (Below.setCell (Below.setCell (Below.setCell (Below.setCell (Below.setCell (Below.setCell (Below.setCell (bal Hbe.out _) (Nat.le_refl _) _) (Nat.le_refl _) _) (Nat.le_refl _) _) (Nat.le_refl _) _) (Nat.le_refl _) _) (Nat.le_refl _) _) (Nat.le_refl _) _) (Nat.le_refl _) _) (Nat.le_refl _) _) (Nat.le_refl _) _) (Nat.le_refl _) _) (Nat.le_refl _) _)
            case measure => simp [intOf]; omega
          · obtain rfl : j2 = 20 := by omega
            have hBc := HB.out.later Hbe.out
            have x0 := hBc.cell 0 _ rfl
            have x1 := hBc.cell 1 _ rfl
            have x2 := hBc.cell 2 _ rfl
            have x3 := hBc.cell 3 _ rfl
            have x4 := hBc.cell 4 _ rfl
            have x5 := hBc.cell 5 _ rfl
            have x6 := hBc.cell 6 _ rfl
            have x7 := hBc.cell 7 _ rfl
            have x8 := hBc.cell 8 _ rfl
            have x9 := hBc.cell 9 _ rfl
            have x10 := hBc.cell 10 _ rfl
            have x11 := hBc.cell 11 _ rfl
            have hv1 := HV.out (wr.alloc (.cells #[.int .i64 2, .slice none 0 0, .int .i64 1, .int .i64 0, .int .i64 0, .slice none 0 0, .slice none 0 0, .bool false, .int .i64 0, .slice none 0 0, .slice Ah nh ch, .slice none 0 0] 34)) (Mv.of_below (btr Hbe.out (bal (Below.refl _ _) _)))
            have hck := check_one (chainC j) _ wr.heap.size wr (wr.alloc (.cells #[.int .i64 2, .slice none 0 0, .int .i64 1, .int .i64 0, .int .i64 0, .slice none 0 0, .slice none 0 0, .bool false, .int .i64 0, .slice none 0 0, .slice Ah nh ch, .slice none 0 0] 34)) (okC_chain j) hv1 (Bk.new wr _ _) (Htab.out.later (btr Hb.out (btr Hbe.out (bal (Below.refl _ _) _)))) (by rw [cmdTk_chain]; omega)
            rw [show chkC (chainC j) 0 = 0 by rw [chkC_chain, if_neg (by omega)]] at hck
            have hfl := fun (w4 : World) (hb : Below (wr.alloc (.cells #[.int .i64 2, .slice none 0 0, .int .i64 1, .int .i64 0, .int .i64 0, .slice none 0 0, .slice none 0 0, .bool false, .int .i64 0, .slice none 0 0, .slice Ah nh ch, .slice none 0 0] 34)).heap.size (wr.alloc (.cells #[.int .i64 2, .slice none 0 0, .int .i64 1, .int .i64 0, .int .i64 0, .slice none 0 0, .slice none 0 0, .bool false, .int .i64 0, .slice none 0 0, .slice Ah nh ch, .slice none 0 0] 34)) w4) => And.intro (HG.out.later (btr (bal (Below.refl _ wr) _) hb)) (check_one (elseC 20) _ w4.heap.size wr (w4.alloc (.cells #[.int .i64 2, .slice none 0 0, .int .i64 kt2, .int .i64 0, .int .i64 0, .slice none 0 0, .slice none 0 0, .bool false, .int .i64 0, .slice none 0 0, .slice none 0 0, .slice Ae ne ce] 34)) (okC_else 20) (HE.out _ (Mv.of_below (btr (btr (bal (Below.refl _ wr) _) hb) (bal (Below.refl _ _) _)))) (Bk.new w4 _ _) (Htab.out.later (btr Hb.out (btr Hbe.out (btr (btr (bal (Below.refl _ wr) _) hb) (bal (Below.refl _ _) _))))) (by rw [cmdTk_else]; omega))
            rw [chkC_else 20 0 (by omega)] at hfl
            have Hck := Lib.hid hck
            have Hfl := Lib.hid hfl
            have Hbb := Lib.hid (btr Hb.out Hbe.out)
            have Hal := Lib.hid (bal (Below.refl _ wr) (.cells #[.int .i64 2, .slice none 0 0, .int .i64 1, .int .i64 0, .int .i64 0, .slice none 0 0, .slice none 0 0, .bool false, .int .i64 0, .slice none 0 0, .slice Ah nh ch, .slice none 0 0] 34))
            clear hBc hv1 hck hfl HB HV HG HE Hbe Htab
            go_wp2_with (go_at_call 15; first | (with_reducible refine Hck.out.mono ?_; rintro e w4 ⟨rfl, hb4⟩; obtain ⟨hF4, hf4⟩ := Hfl.out w4 hb4; have Hf4 := Lib.hid hf4; have Hb4 := Lib.hid hb4; have z0 := hF4.cell 0 _ rfl; have z1 := hF4.cell 1 _ rfl; have z2 := hF4.cell 2 _ rfl; have z3 := hF4.cell 3 _ rfl; have z4 := hF4.cell 4 _ rfl; have z5 := hF4.cell 5 _ rfl; have z6 := hF4.cell 6 _ rfl; have z7 := hF4.cell 7 _ rfl; have z8 := hF4.cell 8 _ rfl; have z9 := hF4.cell 9 _ rfl; have z10 := hF4.cell 10 _ rfl; have z11 := hF4.cell 11 _ rfl; clear hF4 hf4 hb4) | (with_reducible refine Hf4.out.mono ?_; rintro e w5 ⟨rfl, hb5⟩))
            go_ret
            exact ⟨rfl, btr Hbb.out (btr Hal.out (btr Hb4.out (btr (bal (Below.refl _ _) _) hb5)))⟩
theorem scriptDeep_walk (n : Int) (tests : Bool) (w : World) (hn : (Lit.int .i64 n).wf = true) (htab : TabsAt w) :
    Calls Tryd.prog 4 #[.int .i64 n, .bool tests] w fun e w' => e = .returned (.bool true) ∧ Below w.heap.size w w' := by
  cases tests
  · exact scriptDeep_cmds n w hn htab
  · exact scriptDeep_tests n w hn htab
end Go.Proofs.YtgmnoemkdigafaaDoor
