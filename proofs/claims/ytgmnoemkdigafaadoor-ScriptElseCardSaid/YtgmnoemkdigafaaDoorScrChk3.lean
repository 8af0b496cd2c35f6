/- script.check at an if. -/
import Derived.Test.YtgmnoemkdigafaaDoorScrChk1
namespace Go.Proofs.YtgmnoemkdigafaaDoor
open Go.RowKit
set_option linter.unusedVariables false

set_option maxRecDepth 100000 in
set_option maxHeartbeats 8000000 in
theorem check_if (t : Tst) (th el : List Cmd) (hok : okT t) (hth : CkCs th) (hel : CkCs el) (h1 : ∀ c ∈ el, CkC c) : CkC (.mk 2 [] t th el) := by
  intro d vs w hd0 hd7 hv
  rw [chkC_if_ok]
  obtain ⟨Ax, cx, k2, m, p, lm, o, An, Ak, At, nn, cn, nk, ck, nt, ct, Ah, ch, Ae, ce, rfl, _, ht, hch, hce, hle⟩ := cmdV_cells hv
  have hln : th.length ≤ 1000000 ∧ el.length ≤ 1000000 := ⟨hle.2.2.2.2.1, hle.2.2.2.2.2⟩
  simp only [List.length_nil]
  have hb1 : Below w.heap.size w (w.alloc (.cells #[.int .i64 2, .slice Ax 0 cx, .int .i64 k2, .int .i64 m, .int .i64 p, .slice An nn cn, .slice Ak nk ck, .bool o, .int .i64 lm, .slice At nt ct, .slice Ah th.length ch, .slice Ae el.length ce] 34)) := bal (Below.refl _ w) _
  have hT := Bk.new w [.int .i64 2, .slice Ax 0 cx, .int .i64 k2, .int .i64 m, .int .i64 p, .slice An nn cn, .slice Ak nk ck, .bool o, .int .i64 lm, .slice At nt ct, .slice Ah th.length ch, .slice Ae el.length ce] 34
  have htc := fun W (hW : Below w.heap.size w W) => checkTest_calls _ t (Nat.le_refl _) hok 1 _ W (by omega) (by omega) (testV_later hW t _ ht)
  have htl := fun W (hW : Below w.heap.size w W) (h : ¬ 6 < d) => hth (d + 1) Ah ch W (by omega) (by omega) (cmdsAt_later hW th _ hch) hln.1
  have hec := fun W (hW : Below w.heap.size w W) (h : ¬ 6 < d) => hel (d + 1) Ae ce W (by omega) (by omega) (cmdsAt_later hW el _ hce) hln.2
  have HT := Lib.hid hT
  have Hb1 := Lib.hid hb1
  have Htc := Lib.hid htc
  have Htl := Lib.hid htl
  have Hec := Lib.hid hec
  have Hce := Lib.hid hce
  have H1 := Lib.hid h1
  clear hT hb1 htc htl hec hce h1 hv ht hch hle hok hth hel
  generalize hq1 : chkT t 1 = r1 at *
  generalize hq2 : chkCs th (d + 1) = r2 at *
  generalize hq3 : chkCs el (d + 1) = r3 at *
  generalize hres : (if 6 < d then (1 : Int) else if r1 ≠ 0 then r1 else if r2 ≠ 0 then r2 else chkCs el (if lone el = true then d else d + 1)) = res at *
  have Hres := Lib.hid hres
  have Hq3 := Lib.hid hq3
  clear hq1 hq2 hq3 hres
  go_enter Tryd.func42, Tryd.ntmps42
  go_upto_region 1 with fail
  generalize w.alloc (.cells #[.int .i64 2, .slice Ax 0 cx, .int .i64 k2, .int .i64 m, .int .i64 p, .slice An nn cn, .slice Ak nk ck, .bool o, .int .i64 lm, .slice At nt ct, .slice Ah th.length ch, .slice Ae el.length ce] 34) = w1 at *
  have x0 := HT.out.cell 0 _ rfl
  by_cases h6 : 6 < d
  · have hr := Hres.out
    rw [if_pos h6] at hr
    subst hr
    go_wp2_with fail
    go_ret
    exact ⟨rfl, Hb1.out⟩
  · have hr := Hres.out
    rw [if_neg h6] at hr
    have Hr := Lib.hid hr
    clear hr Hres
    have x1 := HT.out.cell 1 _ rfl
    have x2 := HT.out.cell 2 _ rfl
    have x3 := HT.out.cell 3 _ rfl
    have x4 := HT.out.cell 4 _ rfl
    have x5 := HT.out.cell 5 _ rfl
    have x6 := HT.out.cell 6 _ rfl
    have x7 := HT.out.cell 7 _ rfl
    have x8 := HT.out.cell 8 _ rfl
    have x9 := HT.out.cell 9 _ rfl
    have hi1 := Htc.out w1 Hb1.out
    have Hi1 := Lib.hid hi1
    clear hi1 Htc
    go_upto_region 8 with fail
    go_wp2_with fail
    refine Hi1.out.mono ?_
    rintro e w2 ⟨rfl, hb2⟩
    have HT2 := Lib.hid (HT.out.later hb2)
    have Hb2 := Lib.hid (btr Hb1.out hb2)
    clear hb2 Hi1 HT Hb1 x0 x1 x2 x3 x4 x5 x6 x7 x8 x9
    by_cases hr1 : r1 = 0
    · subst hr1
      have hr := Hr.out
      rw [if_neg (by simp)] at hr
      have Hr2 := Lib.hid hr
      clear hr Hr
      have x10 := HT2.out.cell 10 _ rfl
      have hi2 := Htl.out w2 Hb2.out h6
      have Hi2 := Lib.hid hi2
      clear hi2 Htl
      have hd6 : d ≤ 6 := by omega
      go_wp2_with fail
      refine Hi2.out.mono ?_
      rintro e w3 ⟨rfl, hb3⟩
      have HT3 := Lib.hid (HT2.out.later hb3)
      have Hb3 := Lib.hid (btr Hb2.out hb3)
      clear hb3 Hi2 HT2 Hb2 x10
      by_cases hr2 : r2 = 0
      · subst hr2
        have hr := Hr2.out
        rw [if_neg (by simp)] at hr
        have x11 := HT3.out.cell 11 _ rfl
        by_cases hlone : el.length = 1
        · obtain ⟨b, off, s, k3, Bx, nx, dx, k4, m2, p2, lm2, o2, Bn, Bk, Bt, n1, d1, n2, d2, n3, d3, Bh, nh, dh, Be, ne, de, hAe, hmem, hgt, hdr, hki, huv, c0, c1, c2, c3, c4, c5, c6, c7, c8, c9, c10, c11⟩ := cmdsAt_round Hb3.out Hce.out (j := 0) (by omega)
          subst hAe
          simp only [Nat.zero_mul, Nat.add_zero] at c0 c1 c2 c3 c4 c5 c6 c7 c8 c9 c10 c11
          obtain rfl : el = [s] := by
            obtain ⟨s', rfl⟩ := List.length_eq_one_iff.1 hlone
            simp at hmem
            rw [hmem]
          by_cases hk3 : k3 = 2
          · subst hk3
            have hl : lone [s] = true := by simp [lone, hki]
            rw [hl, if_pos rfl] at hr
            have hi3 := H1.out s (by simp) d _ w3 hd0 hd7 (cmdV_later Hb3.out s _ huv)
            have hss : chkCs [s] d = chkC s d := by
              rw [chkCs, chkCs]
              by_cases h : chkC s d ≠ 0
              · rw [if_pos h]
              · rw [if_neg h]; exact (Decidable.not_not.1 h).symm
            rw [hss] at hr
            rw [hr] at hi3
            have Hi3 := Lib.hid hi3
            clear hi3 hr hss hl hki hdr hgt hmem huv hlone Hec H1 Hr2
            simp only [List.length_singleton] at x11
            go_wp2_with fail
            refine Hi3.out.mono ?_
            rintro e w4 ⟨rfl, hb4⟩
            have Hb4 := Lib.hid (btr Hb3.out hb4)
            clear hb4 c0 c1 c2 c3 c4 c5 c6 c7 c8 c9 c10 c11
            go_wp2_with fail
            go_ret
            exact ⟨rfl, Hb4.out⟩
          · have hl : lone [s] = false := by simp [lone, hki, hk3]
            rw [hl, if_neg (by decide), Hq3.out] at hr
            have hk4 : (k3 == 2) = false := by rw [beq_eq_false_iff_ne]; exact hk3
            have hi3 := Hec.out w3 Hb3.out h6
            have Hi3 := Lib.hid hi3
            subst hr
            clear hi3 hl hki hdr hgt hmem huv hlone Hec H1 Hr2 hk3 c1 c2 c3 c4 c5 c6 c7 c8 c9 c10 c11
            simp only [List.length_singleton] at x11
            go_wp2_with fail
            refine Hi3.out.mono ?_
            rintro e w4 ⟨rfl, hb4⟩
            have Hb4 := Lib.hid (btr Hb3.out hb4)
            clear hb4
            go_wp2_with fail
            go_ret
            exact ⟨rfl, Hb4.out⟩
        · have e1 : ((el.length : Int) == 1) = false := by rw [beq_eq_false_iff_ne]; omega
          have hl : lone el = false := by
            cases h : lone el with
            | false => rfl
            | true =>
              obtain ⟨c, rfl, _⟩ := lone_true h
              exact absurd rfl hlone
          rw [hl, if_neg (by decide), Hq3.out] at hr
          have hi3 := Hec.out w3 Hb3.out h6
          have Hi3 := Lib.hid hi3
          subst hr
          clear hi3 hl hlone Hec H1 Hr2
          go_wp2_with fail
          refine Hi3.out.mono ?_
          rintro e w4 ⟨rfl, hb4⟩
          have Hb4 := Lib.hid (btr Hb3.out hb4)
          clear hb4
          go_wp2_with fail
          go_ret
          exact ⟨rfl, Hb4.out⟩
      · have hr := Hr2.out
        rw [if_pos hr2] at hr
        have hqb : (r2 != 0) = true := by simpa using hr2
        subst hr
        clear hr2 Hr2 Hec H1 Hce
        go_wp2_with fail
        go_ret
        exact ⟨rfl, Hb3.out⟩
    · have hr := Hr.out
      rw [if_pos hr1] at hr
      have hqb : (r1 != 0) = true := by simpa using hr1
      subst hr
      clear hr1 Hr Htl Hec H1 Hce
      go_wp2_with fail
      go_ret
      exact ⟨rfl, Hb2.out⟩
end Go.Proofs.YtgmnoemkdigafaaDoor
