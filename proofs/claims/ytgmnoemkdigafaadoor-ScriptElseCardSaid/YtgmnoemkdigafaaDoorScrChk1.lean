/- script.bare and checkAll. -/
import Derived.Test.YtgmnoemkdigafaaDoorScrCmdP
import Derived.Test.YtgmnoemkdigafaaDoorScrTest
namespace Go.Proofs.YtgmnoemkdigafaaDoor
open Go.RowKit
set_option linter.unusedVariables false

set_option maxRecDepth 100000 in
set_option maxHeartbeats 8000000 in
theorem bare_zero (An Ak At : Option Addr) (cn ck ct : Nat) (w : World) :
    Calls Tryd.prog 64 #[.agg #[.int .i64 0, .int .i64 0, .int .i64 0, .slice An 0 cn, .slice Ak 0 ck, .bool false, .int .i64 0, .slice At 0 ct]] w fun e w' => e = .returned (.bool true) ∧ Below w.heap.size w w' := by
  have hb1 : Below w.heap.size w (w.alloc (.cells #[.int .i64 0, .int .i64 0, .int .i64 0, .slice An 0 cn, .slice Ak 0 ck, .bool false, .int .i64 0, .slice At 0 ct] 31)) := bal (Below.refl _ w) _
  have hT := Bk.new w [.int .i64 0, .int .i64 0, .int .i64 0, .slice An 0 cn, .slice Ak 0 ck, .bool false, .int .i64 0, .slice At 0 ct] 31
  have HT := Lib.hid hT
  have Hb1 := Lib.hid hb1
  clear hT hb1
  go_enter Tryd.func64, Tryd.ntmps64
  go_upto_region 1 with fail
  generalize w.alloc (.cells #[.int .i64 0, .int .i64 0, .int .i64 0, .slice An 0 cn, .slice Ak 0 ck, .bool false, .int .i64 0, .slice At 0 ct] 31) = w1 at *
  have x0 := HT.out.cell 0 _ rfl
  have x1 := HT.out.cell 1 _ rfl
  have x2 := HT.out.cell 2 _ rfl
  have x3 := HT.out.cell 3 _ rfl
  have x4 := HT.out.cell 4 _ rfl
  have x5 := HT.out.cell 5 _ rfl
  have x6 := HT.out.cell 6 _ rfl
  have x7 := HT.out.cell 7 _ rfl
  go_wp2_with fail
  go_ret
  exact ⟨rfl, Hb1.out⟩
set_option maxRecDepth 100000 in
set_option maxHeartbeats 8000000 in
theorem checkAll_of (cs : List Cmd) (ih : ∀ c ∈ cs, CkC c) : CkCs cs := by
  intro d A cp w hd0 hd7 hta hln
  generalize hres : chkCs cs d = res at *
  have Hres := Lib.hid hres
  have Hih := Lib.hid ih
  have Hta := Lib.hid hta
  clear hres ih hta
  go_enter Tryd.func27, Tryd.ntmps27
  go_wp2_with fail
  go_loopw [10] (fun i wr => ∃ j : Nat, j ≤ cs.length ∧ i = .int .i64 j ∧ Hid (chkCs (cs.drop j) d = res) ∧ Hid (Below w.heap.size w wr)) (fun i _ => cs.length - (intOf i).toNat)
  case atStart => exact ⟨0, Nat.zero_le _, rfl, Lib.hid (by rw [List.drop_zero]; exact Hres.out), Lib.hid (Below.refl _ _)⟩
  case round =>
    obtain ⟨j, hj, rfl, Hj, Hb4⟩ := hrel
    by_cases hlt : j < cs.length
    · have hj0 : (0 : Int) ≤ (j : Int) := by omega
      have hjn : (j : Int) < (cs.length : Int) := by omega
      obtain ⟨b, off, s, k, Ax, nx, cx, k2, m, p, lm, o, An, Ak, At, nn, cn, nk, ck, nt, ct, Ah, nh, ch, Ae, ne, ce, rfl, hmem, hgt, hdr, hki, huv, c0, c1, c2, c3, c4, c5, c6, c7, c8, c9, c10, c11⟩ := cmdsAt_round Hb4.out Hta.out hlt
      have hju := Hj.out
      rw [hdr] at hju
      have hN := Bk.new wr [.int .i64 k, .slice Ax nx cx, .int .i64 k2, .int .i64 m, .int .i64 p, .slice An nn cn, .slice Ak nk ck, .bool o, .int .i64 lm, .slice At nt ct, .slice Ah nh ch, .slice Ae ne ce] 34
      have hbn : Below wr.heap.size wr (wr.alloc (.cells #[.int .i64 k, .slice Ax nx cx, .int .i64 k2, .int .i64 m, .int .i64 p, .slice An nn cn, .slice Ak nk ck, .bool o, .int .i64 lm, .slice At nt ct, .slice Ah nh ch, .slice Ae ne ce] 34)) := bal (Below.refl _ _) _
      have hih := fun W (hW : Below w.heap.size w W) => Hih.out s hmem d [.int .i64 k, .slice Ax nx cx, .int .i64 k2, .int .i64 m, .int .i64 p, .slice An nn cn, .slice Ak nk ck, .bool o, .int .i64 lm, .slice At nt ct, .slice Ah nh ch, .slice Ae ne ce] W hd0 hd7 (cmdV_later hW s _ huv)
      have Hi := Lib.hid hih
      have Hju := Lib.hid hju
      have HN := Lib.hid hN
      have Hbn := Lib.hid (btr Hb4.out hbn)
      clear hih hju hN hbn hmem hgt hdr huv hki
      generalize hq : chkC s d = q at *
      have Hq := Lib.hid hq
      clear hq
      go_upto_region 4 with fail
      generalize wr.alloc (.cells #[.int .i64 k, .slice Ax nx cx, .int .i64 k2, .int .i64 m, .int .i64 p, .slice An nn cn, .slice Ak nk ck, .bool o, .int .i64 lm, .slice At nt ct, .slice Ah nh ch, .slice Ae ne ce] 34) = w5 at *
      clear c0 c1 c2 c3 c4 c5 c6 c7 c8 c9 c10 c11
      have c0 := HN.out.cell 0 _ rfl
      have c1 := HN.out.cell 1 _ rfl
      have c2 := HN.out.cell 2 _ rfl
      have c3 := HN.out.cell 3 _ rfl
      have c4 := HN.out.cell 4 _ rfl
      have c5 := HN.out.cell 5 _ rfl
      have c6 := HN.out.cell 6 _ rfl
      have c7 := HN.out.cell 7 _ rfl
      have c8 := HN.out.cell 8 _ rfl
      have c9 := HN.out.cell 9 _ rfl
      have c10 := HN.out.cell 10 _ rfl
      have c11 := HN.out.cell 11 _ rfl
      have hi5 := Hi.out w5 Hbn.out
      have Hi5 := Lib.hid hi5
      clear hi5 Hi
      go_wp2_with fail
      refine Hi5.out.mono ?_
      rintro e w6 ⟨rfl, hb6⟩
      have Hb6 := Lib.hid (btr Hbn.out hb6)
      clear hb6 c0 c1 c2 c3 c4 c5 c6 c7 c8 c9 c10 c11 HN Hbn Hi5
      have hju := Hju.out
      rw [chkCs, Hq.out] at hju
      by_cases hq0 : q = 0
      · subst hq0
        rw [if_neg (by simp)] at hju
        have Hju2 := Lib.hid hju
        clear hju
        go_wp2_with fail
        go_roundw
        case rel => exact ⟨j + 1, by omega, by go_num, Hju2, Hb6⟩
        case measure => simp [intOf]; omega
      · rw [if_pos hq0] at hju
        have hqb : (q != 0) = true := by simpa using hq0
        subst hju
        clear hq0
        go_wp2_with fail
        go_ret
        exact ⟨rfl, Hb6.out⟩
    · obtain rfl : j = cs.length := by omega
      have hju := Hj.out
      rw [List.drop_length] at hju
      have hr0 : res = 0 := by rw [← hju, chkCs]
      subst hr0
      go_wp2_with fail
      go_ret
      exact ⟨rfl, Hb4.out⟩
end Go.Proofs.YtgmnoemkdigafaaDoor
