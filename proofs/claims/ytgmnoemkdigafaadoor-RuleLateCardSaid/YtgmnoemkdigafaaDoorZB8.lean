/- script.checkTest at a test whose parts may be: k = 3 ∨ k = 4 ∨ k = 5. script.checkTest at a test whose parts may be: how deep it is. script.bare and checkAll. -/
import Derived.Test.YtgmnoemkdigafaaDoorZB1
import Derived.Deep.DeepCutAuto
import Derived.Deep.CutBlock
import Derived.Test.YtgmnoemkdigafaaDoorZB6
import Derived.Test.YtgmnoemkdigafaaDoorZB7
namespace Go.Proofs.YtgmnoemkdigafaaDoor
open Go.RowKit
set_option linter.unusedVariables false

set_option maxRecDepth 100000 in
set_option maxHeartbeats 8000000 in
theorem checkTest_C (k m p : Int) (ns ks : List ByteArray) (o : Bool) (lm : Int) (ts : List Tst) (hk : k = 3 ∨ k = 4 ∨ k = 5) (hok : okT (.mk k m p ns ks o lm ts)) (ih : ∀ t ∈ ts, ∀ (d : Int) (vs : List Value) (w : World), 0 ≤ d → d ≤ 7 → TestV w t vs → Calls Tryd.prog 63 #[.agg vs.toArray, .int .i64 d] w fun e w' => e = .returned (.int .i64 (chkT t d)) ∧ Below w.heap.size w w') (d : Int) (vs : List Value) (w : World) (hd0 : 0 ≤ d) (hd7 : d ≤ 7) (hv : TestV w (.mk k m p ns ks o lm ts) vs) :
    Calls Tryd.prog 63 #[.agg vs.toArray, .int .i64 d] w fun e w' => e = .returned (.int .i64 (chkT (.mk k m p ns ks o lm ts) d)) ∧ Below w.heap.size w w' := by
  have hr := chkT_ok hok d
  rw [hr]
  generalize hres : (if 6 < d then (1 : Int) else chkTs ts (d + 1)) = res at *
  have Hres := Lib.hid hres
  clear hr hres
  unfold okT at hok
  obtain ⟨hk1, hk10, hf, hts⟩ := hok
  have hff := form_facts hf
  unfold TestV at hv
  obtain ⟨An, cn, Ak, ck, At, ct, rfl, hn, hks, hta, hle⟩ := hv
  have hb1 : Below w.heap.size w (w.alloc (.cells #[.int .i64 k, .int .i64 m, .int .i64 p, .slice An ns.length cn, .slice Ak ks.length ck, .bool o, .int .i64 lm, .slice At ts.length ct] 31)) := bal (Below.refl _ w) _
  have hT := Bk.new w [.int .i64 k, .int .i64 m, .int .i64 p, .slice An ns.length cn, .slice Ak ks.length ck, .bool o, .int .i64 lm, .slice At ts.length ct] 31
  have Hih := Lib.hid ih
  have Hta := Lib.hid hta
  have HT := Lib.hid hT
  have Hb1 := Lib.hid hb1
  have Hff := Lib.hid hff
  have hln : ns.length ≤ 1000000 ∧ ks.length ≤ 1000000 ∧ ts.length ≤ 1000000 := ⟨hle.2.2.2.1, hle.2.2.2.2.1, hle.2.2.2.2.2⟩
  clear hta hT hb1 hff hf hn hks hle hts ih
  have q1 : ¬ k < 1 := by omega
  have q10 : ¬ 10 < k := by omega
  go_enter Tryd.func63, Tryd.ntmps63
  go_upto_region 1 with fail
  generalize w.alloc (.cells #[.int .i64 k, .int .i64 m, .int .i64 p, .slice An ns.length cn, .slice Ak ks.length ck, .bool o, .int .i64 lm, .slice At ts.length ct] 31) = w1 at *
  have x0 := HT.out.cell 0 _ rfl
  by_cases h6 : 6 < d
  · have hr1 : res = 1 := by rw [← Hres.out, if_pos h6]
    subst hr1
    go_wp2_with fail
    go_ret
    exact ⟨rfl, Hb1.out⟩
  · go_upto_region 5 with fail
    have hX := Bk.new w1 [.int .i64 k, .int .i64 0, .int .i64 0, .slice none 0 0, .slice none 0 0, .bool false, .int .i64 0, .slice none 0 0] 31
    have hb2 : Below w1.heap.size w1 (w1.alloc (.cells #[.int .i64 k, .int .i64 0, .int .i64 0, .slice none 0 0, .slice none 0 0, .bool false, .int .i64 0, .slice none 0 0] 31)) := bal (Below.refl _ _) _
    have hlT := HT.out.lt
    have HX := Lib.hid hX
    have HT2 := Lib.hid (HT.out.later hb2)
    have Hb2 := Lib.hid (btr Hb1.out hb2)
    have hlw := Hb1.out.size
    clear hX hb2
    go_upto_region 6 with fail
    generalize w1.alloc (.cells #[.int .i64 k, .int .i64 0, .int .i64 0, .slice none 0 0, .slice none 0 0, .bool false, .int .i64 0, .slice none 0 0] 31) = w2 at *
    clear x0
    have x0 := HT2.out.cell 0 _ rfl
    have x1 := HT2.out.cell 1 _ rfl
    have x2 := HT2.out.cell 2 _ rfl
    have x3 := HT2.out.cell 3 _ rfl
    have x4 := HT2.out.cell 4 _ rfl
    have x5 := HT2.out.cell 5 _ rfl
    have x6 := HT2.out.cell 6 _ rfl
    have x7 := HT2.out.cell 7 _ rfl
    go_upto_block 0 with fail
    go_cut [6] from 25 to 118 (fun ok wx => ok = .bool true ∧ ∃ A1 c1 A2 c2, Hid (Bk wx w1.heap.size [.int .i64 k, .int .i64 m, .int .i64 p, .slice A1 ns.length c1, .slice A2 ks.length c2, .bool o, .int .i64 lm, .slice none 0 0] 31) ∧ Hid (Bk wx w.heap.size [.int .i64 k, .int .i64 m, .int .i64 p, .slice An ns.length cn, .slice Ak ks.length ck, .bool o, .int .i64 lm, .slice At ts.length ct] 31) ∧ Hid (Below w.heap.size w wx))
    case first =>
      obtain ⟨f3, f45, f68, f78, f9, f10, g9, g8, g7, g10, g5⟩ := Hff.out
      rcases hk with rfl | rfl | rfl
      · -- kind 3
        have en1 := g9 (by decide)
        obtain ⟨en2, em⟩ := g8 (by decide)
        have ep := g7 (by decide)
        obtain ⟨eo, el⟩ := g10 (by decide)
        have Hem := Lib.hid em
        have Hep := Lib.hid ep
        have Hen1 := Lib.hid en1
        have Hen2 := Lib.hid en2
        have Heo := Lib.hid eo
        have Hel := Lib.hid el
        clear em ep en1 en2 eo el
        have e1 : ((ts.length : Int) == 1) = true := by rw [f3 rfl]; rfl
        clear f3 f45 f68 f78 f9 f10 g9 g8 g7 g10 g5
        go_wp2_with fail
        go_meet
        refine ⟨by first | rfl | (simp; omega), none, 0, none, 0, Lib.hid ?_, Lib.hid (HT2.out), Lib.hid (Hb2.out)⟩
        rw [Hem.out, Hep.out, Hen1.out, Hen2.out, Heo.out, Hel.out]
        exact HX.out
      · -- kind 4
        have en1 := g9 (by decide)
        obtain ⟨en2, em⟩ := g8 (by decide)
        have ep := g7 (by decide)
        obtain ⟨eo, el⟩ := g10 (by decide)
        have Hem := Lib.hid em
        have Hep := Lib.hid ep
        have Hen1 := Lib.hid en1
        have Hen2 := Lib.hid en2
        have Heo := Lib.hid eo
        have Hel := Lib.hid el
        clear em ep en1 en2 eo el
        have hp := f45 (by decide)
        have hp1 : (0 : Int) < (ts.length : Int) := by omega
        clear f3 f45 f68 f78 f9 f10 g9 g8 g7 g10 g5
        by_cases h1 : ts.length = 1
        · have e1 : ((ts.length : Int) == 1) = true := by rw [h1]; rfl
          clear h1
          go_wp2_with fail
          go_meet
          refine ⟨by first | rfl | (simp; omega), none, 0, none, 0, Lib.hid ?_, Lib.hid (HT2.out), Lib.hid (Hb2.out)⟩
          rw [Hem.out, Hep.out, Hen1.out, Hen2.out, Heo.out, Hel.out]
          exact HX.out
        · have e1 : ((ts.length : Int) == 1) = false := by rw [beq_eq_false_iff_ne]; omega
          clear h1
          go_wp2_with fail
          go_meet
          refine ⟨by first | rfl | (simp; omega), none, 0, none, 0, Lib.hid ?_, Lib.hid (HT2.out), Lib.hid (Hb2.out)⟩
          rw [Hem.out, Hep.out, Hen1.out, Hen2.out, Heo.out, Hel.out]
          exact HX.out
      · -- kind 5
        have en1 := g9 (by decide)
        obtain ⟨en2, em⟩ := g8 (by decide)
        have ep := g7 (by decide)
        obtain ⟨eo, el⟩ := g10 (by decide)
        have Hem := Lib.hid em
        have Hep := Lib.hid ep
        have Hen1 := Lib.hid en1
        have Hen2 := Lib.hid en2
        have Heo := Lib.hid eo
        have Hel := Lib.hid el
        clear em ep en1 en2 eo el
        have hp := f45 (by decide)
        have hp1 : (0 : Int) < (ts.length : Int) := by omega
        clear f3 f45 f68 f78 f9 f10 g9 g8 g7 g10 g5
        by_cases h1 : ts.length = 1
        · have e1 : ((ts.length : Int) == 1) = true := by rw [h1]; rfl
          clear h1
          go_wp2_with fail
          go_meet
          refine ⟨by first | rfl | (simp; omega), none, 0, none, 0, Lib.hid ?_, Lib.hid (HT2.out), Lib.hid (Hb2.out)⟩
          rw [Hem.out, Hep.out, Hen1.out, Hen2.out, Heo.out, Hel.out]
          exact HX.out
        · have e1 : ((ts.length : Int) == 1) = false := by rw [beq_eq_false_iff_ne]; omega
          clear h1
          go_wp2_with fail
          go_meet
          refine ⟨by first | rfl | (simp; omega), none, 0, none, 0, Lib.hid ?_, Lib.hid (HT2.out), Lib.hid (Hb2.out)⟩
          rw [Hem.out, Hep.out, Hen1.out, Hen2.out, Heo.out, Hel.out]
          exact HX.out
    case rest =>
      obtain ⟨rfl, A1, c1, A2, c2, HX3, HT3, Hb3⟩ := hcut
      clear x0 x1 x2 x3 x4 x5 x6 x7 HX HT2 Hb2 HT Hb1
      have x0 := HT3.out.cell 0 _ rfl
      have x1 := HT3.out.cell 1 _ rfl
      have x2 := HT3.out.cell 2 _ rfl
      have x3 := HT3.out.cell 3 _ rfl
      have x4 := HT3.out.cell 4 _ rfl
      have x5 := HT3.out.cell 5 _ rfl
      have x6 := HT3.out.cell 6 _ rfl
      have x7 := HT3.out.cell 7 _ rfl
      have z1 := HX3.out.cell 1 _ rfl
      have z2 := HX3.out.cell 2 _ rfl
      have z3 := HX3.out.cell 3 _ rfl
      have z4 := HX3.out.cell 4 _ rfl
      have z5 := HX3.out.cell 5 _ rfl
      have z6 := HX3.out.cell 6 _ rfl
      have hr2 : chkTs ts (d + 1) = res := by rw [← Hres.out, if_neg h6]
      have Hr2 := Lib.hid hr2
      have hd6 : d ≤ 6 := by omega
      clear hr2 h6
      go_upto_region 28 with fail
      clear z1 z2 z3 z4 z5 z6 HX3
      have h3' : ¬ k < 3 := by omega
      have h5' : ¬ 5 < k := by omega
      clear hk
      go_upto_region 32 with fail
      clear x0 x1 x2 x3 x4 x5 x6
      go_wp2_with fail
      clear x7
      go_loopw [183] (fun i wr => ∃ j : Nat, j ≤ ts.length ∧ i = .int .i64 j ∧ Hid (chkTs (ts.drop j) (d + 1) = res) ∧ Hid (Below wc.heap.size wc wr)) (fun i _ => ts.length - (intOf i).toNat)
      case atStart => exact ⟨0, Nat.zero_le _, rfl, Lib.hid (by rw [List.drop_zero]; exact Hr2.out), Lib.hid (Below.refl _ _)⟩
      case round =>
        obtain ⟨j, hj, rfl, Hj, Hb4⟩ := hrel
        by_cases hlt : j < ts.length
        · have hj0 : (0 : Int) ≤ (j : Int) := by omega
          have hjn : (j : Int) < (ts.length : Int) := by omega
          obtain ⟨b, off, s, k2, m2, p2, lm2, o2, An2, Ak2, At2, nn2, cn2, nk2, ck2, nt2, ct2, rfl, hmem, hdr, huv, c0, c1, c2, c3, c4, c5, c6, c7⟩ := testsAt_round (btr Hb3.out Hb4.out) Hta.out hlt
          have hju := Hj.out
          rw [hdr] at hju
          have hih := fun W (hW : Below wr.heap.size wr W) => Hih.out s hmem (d + 1) [.int .i64 k2, .int .i64 m2, .int .i64 p2, .slice An2 nn2 cn2, .slice Ak2 nk2 ck2, .bool o2, .int .i64 lm2, .slice At2 nt2 ct2] W (by omega) (by omega) (testV_later hW s _ huv)
          have Hi := Lib.hid hih
          have Hju := Lib.hid hju
          have hN := Bk.new wr [.int .i64 k2, .int .i64 m2, .int .i64 p2, .slice An2 nn2 cn2, .slice Ak2 nk2 ck2, .bool o2, .int .i64 lm2, .slice At2 nt2 ct2] 31
          have hbn : Below wr.heap.size wr (wr.alloc (.cells #[.int .i64 k2, .int .i64 m2, .int .i64 p2, .slice An2 nn2 cn2, .slice Ak2 nk2 ck2, .bool o2, .int .i64 lm2, .slice At2 nt2 ct2] 31)) := bal (Below.refl _ _) _
          have HN := Lib.hid hN
          have Hbn := Lib.hid hbn
          clear hih hju hN hbn hmem hdr huv
          generalize hq : chkT s (d + 1) = q at *
          have Hq := Lib.hid hq
          clear hq
          go_upto_region 35 with fail
          generalize wr.alloc (.cells #[.int .i64 k2, .int .i64 m2, .int .i64 p2, .slice An2 nn2 cn2, .slice Ak2 nk2 ck2, .bool o2, .int .i64 lm2, .slice At2 nt2 ct2] 31) = w5 at *
          clear c0 c1 c2 c3 c4 c5 c6 c7
          have c0 := HN.out.cell 0 _ rfl
          have c1 := HN.out.cell 1 _ rfl
          have c2 := HN.out.cell 2 _ rfl
          have c3 := HN.out.cell 3 _ rfl
          have c4 := HN.out.cell 4 _ rfl
          have c5 := HN.out.cell 5 _ rfl
          have c6 := HN.out.cell 6 _ rfl
          have c7 := HN.out.cell 7 _ rfl
          have hi5 := Hi.out w5 Hbn.out
          have Hi5 := Lib.hid hi5
          clear hi5 Hi
          go_wp2_with fail
          refine Hi5.out.mono ?_
          rintro e w6 ⟨rfl, hb6⟩
          have Hb6 := Lib.hid (btr Hb4.out (btr Hbn.out hb6))
          clear hb6 c0 c1 c2 c3 c4 c5 c6 c7 HN Hbn Hi5
          have hju := Hju.out
          unfold chkTs at hju
          rw [Hq.out] at hju
          by_cases hq0 : q = 0
          · subst hq0
            rw [if_neg (by simp)] at hju
            have Hju2 := Lib.hid hju
            clear hju
            go_wp2_with fail
            go_roundw
            case rel => exact ⟨j + 1, by omega, by go_num, Hju2, Hb6⟩
            case measure => simp [intOf]; omega
          · rw [if_pos hq0] at hju
            have hqb : (q != 0) = true := by simpa using hq0
            subst hju
            clear hq0
            go_wp2_with fail
            go_ret
            exact ⟨rfl, btr Hb3.out Hb6.out⟩
        · obtain rfl : j = ts.length := by omega
          have hju := Hj.out
          rw [List.drop_length] at hju
          have hr0 : res = 0 := by rw [← hju]; unfold chkTs; rfl
          subst hr0
          go_wp2_with fail
          go_ret
          exact ⟨rfl, btr Hb3.out Hb4.out⟩
end Go.Proofs.YtgmnoemkdigafaaDoor
namespace Go.Proofs.YtgmnoemkdigafaaDoor
open Go.RowKit
set_option linter.unusedVariables false

theorem checkTest_calls : ∀ (N : Nat) (t : Tst), SizeOf.sizeOf t ≤ N → okT t → ∀ (d : Int) (vs : List Value) (w : World), 0 ≤ d → d ≤ 7 → TestV w t vs →
    Calls Tryd.prog 63 #[.agg vs.toArray, .int .i64 d] w fun e w' => e = .returned (.int .i64 (chkT t d)) ∧ Below w.heap.size w w'
  | 0, t, hN, _, _, _, _, _, _, _ => by cases t; simp at hN
  | N + 1, t, hN, hok, d, vs, w, hd0, hd7, hv => by
    have ih := checkTest_calls N
    obtain ⟨k, m, p, ns, ks, o, lm, ts⟩ := t
    have hok2 := hok
    unfold okT at hok2
    obtain ⟨hk1, hk10, hf, hts⟩ := hok2
    rcases (show (k = 1 ∨ k = 2) ∨ (k = 3 ∨ k = 4 ∨ k = 5) ∨ (k = 6 ∨ k = 7 ∨ k = 8 ∨ k = 9 ∨ k = 10) by omega) with h | h | h
    · exact checkTest_A k m p ns ks o lm ts h hok d vs w hd0 hd7 hv
    · refine checkTest_C k m p ns ks o lm ts h hok (fun t ht => ih t ?_ (okTs_mem ts t hts ht)) d vs w hd0 hd7 hv
      have h1 := List.sizeOf_lt_of_mem ht
      simp only [Tst.mk.sizeOf_spec] at hN
      omega
    · exact checkTest_B k m p ns ks o lm ts h hok d vs w hd0 hd7 hv
end Go.Proofs.YtgmnoemkdigafaaDoor
namespace Go.Proofs.YtgmnoemkdigafaaDoor
open Go.RowKit
set_option linter.unusedVariables false

set_option maxRecDepth 100000 in
set_option maxHeartbeats 8000000 in
theorem bare_zero (An Ak At : Option Addr) (cn ck ct : Nat) (w : World) :
    Calls Tryd.prog 64 #[.agg #[.int .i64 0, .int .i64 0, .int .i64 0, .slice An 0 cn, .slice Ak 0 ck, .bool false, .int .i64 0, .slice At 0 ct]] w fun e w' => e = .returned (.bool true) ∧ Below w.heap.size w w' := by
  have hb1 : Below w.heap.size w (w.alloc (.cells #[.int .i64 0, .int .i64 0, .int .i64 0, .slice An 0 cn, .slice Ak 0 ck, .bool false, .int .i64 0, .slice At 0 ct] 31)) := bal (Below.refl _ w) _
  have hT := Bk.new w [.int .i64 0, .int .i64 0, .int .i64 0, .slice An 0 cn, .slice Ak 0 ck, .bool false, .int .i64 0, .slice At 0 ct] 31
  have HT := Lib.hid hT
  have Hb1 := Lib.hid hb1
  clear hT hb1
  go_enter Tryd.func64, Tryd.ntmps64
  go_upto_region 1 with fail
  generalize w.alloc (.cells #[.int .i64 0, .int .i64 0, .int .i64 0, .slice An 0 cn, .slice Ak 0 ck, .bool false, .int .i64 0, .slice At 0 ct] 31) = w1 at *
  have x0 := HT.out.cell 0 _ rfl
  have x1 := HT.out.cell 1 _ rfl
  have x2 := HT.out.cell 2 _ rfl
  have x3 := HT.out.cell 3 _ rfl
  have x4 := HT.out.cell 4 _ rfl
  have x5 := HT.out.cell 5 _ rfl
  have x6 := HT.out.cell 6 _ rfl
  have x7 := HT.out.cell 7 _ rfl
  go_wp2_with fail
  go_ret
  exact ⟨rfl, Hb1.out⟩
set_option maxRecDepth 100000 in
set_option maxHeartbeats 8000000 in
theorem checkAll_of (cs : List Cmd) (ih : ∀ c ∈ cs, CkC c) : CkCs cs := by
  intro d A cp w hd0 hd7 hta hln
  generalize hres : chkCs cs d = res at *
  have Hres := Lib.hid hres
  have Hih := Lib.hid ih
  have Hta := Lib.hid hta
  clear hres ih hta
  go_enter Tryd.func27, Tryd.ntmps27
  go_wp2_with fail
  go_loopw [10] (fun i wr => ∃ j : Nat, j ≤ cs.length ∧ i = .int .i64 j ∧ Hid (chkCs (cs.drop j) d = res) ∧ Hid (Below w.heap.size w wr)) (fun i _ => cs.length - (intOf i).toNat)
  case atStart => exact ⟨0, Nat.zero_le _, rfl, Lib.hid (by rw [List.drop_zero]; exact Hres.out), Lib.hid (Below.refl _ _)⟩
  case round =>
    obtain ⟨j, hj, rfl, Hj, Hb4⟩ := hrel
    by_cases hlt : j < cs.length
    · have hj0 : (0 : Int) ≤ (j : Int) := by omega
      have hjn : (j : Int) < (cs.length : Int) := by omega
      obtain ⟨b, off, s, k, Ax, nx, cx, k2, m, p, lm, o, An, Ak, At, nn, cn, nk, ck, nt, ct, Ah, nh, ch, Ae, ne, ce, rfl, hmem, hgt, hdr, hki, huv, c0, c1, c2, c3, c4, c5, c6, c7, c8, c9, c10, c11⟩ := cmdsAt_round Hb4.out Hta.out hlt
      have hju := Hj.out
      rw [hdr] at hju
      have hN := Bk.new wr [.int .i64 k, .slice Ax nx cx, .int .i64 k2, .int .i64 m, .int .i64 p, .slice An nn cn, .slice Ak nk ck, .bool o, .int .i64 lm, .slice At nt ct, .slice Ah nh ch, .slice Ae ne ce] 34
      have hbn : Below wr.heap.size wr (wr.alloc (.cells #[.int .i64 k, .slice Ax nx cx, .int .i64 k2, .int .i64 m, .int .i64 p, .slice An nn cn, .slice Ak nk ck, .bool o, .int .i64 lm, .slice At nt ct, .slice Ah nh ch, .slice Ae ne ce] 34)) := bal (Below.refl _ _) _
      have hih := fun W (hW : Below w.heap.size w W) => Hih.out s hmem d [.int .i64 k, .slice Ax nx cx, .int .i64 k2, .int .i64 m, .int .i64 p, .slice An nn cn, .slice Ak nk ck, .bool o, .int .i64 lm, .slice At nt ct, .slice Ah nh ch, .slice Ae ne ce] W hd0 hd7 (cmdV_later hW s _ huv)
      have Hi := Lib.hid hih
      have Hju := Lib.hid hju
      have HN := Lib.hid hN
      have Hbn := Lib.hid (btr Hb4.out hbn)
      clear hih hju hN hbn hmem hgt hdr huv hki
      generalize hq : chkC s d = q at *
      have Hq := Lib.hid hq
      clear hq
      go_upto_region 4 with fail
      generalize wr.alloc (.cells #[.int .i64 k, .slice Ax nx cx, .int .i64 k2, .int .i64 m, .int .i64 p, .slice An nn cn, .slice Ak nk ck, .bool o, .int .i64 lm, .slice At nt ct, .slice Ah nh ch, .slice Ae ne ce] 34) = w5 at *
      clear c0 c1 c2 c3 c4 c5 c6 c7 c8 c9 c10 c11
      have c0 := HN.out.cell 0 _ rfl
      have c1 := HN.out.cell 1 _ rfl
      have c2 := HN.out.cell 2 _ rfl
      have c3 := HN.out.cell 3 _ rfl
      have c4 := HN.out.cell 4 _ rfl
      have c5 := HN.out.cell 5 _ rfl
      have c6 := HN.out.cell 6 _ rfl
      have c7 := HN.out.cell 7 _ rfl
      have c8 := HN.out.cell 8 _ rfl
      have c9 := HN.out.cell 9 _ rfl
      have c10 := HN.out.cell 10 _ rfl
      have c11 := HN.out.cell 11 _ rfl
      have hi5 := Hi.out w5 Hbn.out
      have Hi5 := Lib.hid hi5
      clear hi5 Hi
      go_wp2_with fail
      refine Hi5.out.mono ?_
      rintro e w6 ⟨rfl, hb6⟩
      have Hb6 := Lib.hid (btr Hbn.out hb6)
      clear hb6 c0 c1 c2 c3 c4 c5 c6 c7 c8 c9 c10 c11 HN Hbn Hi5
      have hju := Hju.out
      rw [chkCs, Hq.out] at hju
      by_cases hq0 : q = 0
      · subst hq0
        rw [if_neg (by simp)] at hju
        have Hju2 := Lib.hid hju
        clear hju
        go_wp2_with fail
        go_roundw
        case rel => exact ⟨j + 1, by omega, by go_num, Hju2, Hb6⟩
        case measure => simp [intOf]; omega
      · rw [if_pos hq0] at hju
        have hqb : (q != 0) = true := by simpa using hq0
        subst hju
        clear hq0
        go_wp2_with fail
        go_ret
        exact ⟨rfl, Hb6.out⟩
    · obtain rfl : j = cs.length := by omega
      have hju := Hj.out
      rw [List.drop_length] at hju
      have hr0 : res = 0 := by rw [← hju, chkCs]
      subst hr0
      go_wp2_with fail
      go_ret
      exact ⟨rfl, Hb4.out⟩
end Go.Proofs.YtgmnoemkdigafaaDoor
