/- The writer of tokens of package script: branches. -/
import Derived.Test.YtgmnoemkdigafaaDoorScrWCmd1
namespace Go.Proofs.YtgmnoemkdigafaaDoor
open Go.RowKit
set_option linter.unusedVariables false

theorem cmdTk_if_tail (t : Tst) (th el : List Cmd) : (cmdTk (.mk 2 [] t th el)).tail = testTk t ++ (markTk 123 :: (cmdsTk th ++ [markTk 125])) ++ elseTk el := by
  rw [cmdTk, if_pos rfl, List.tail_cons]
theorem cmdTk_two (c : Cmd) (h : c.kind = 2) : cmdTk c = wordTk (wAt commandsW 2) :: (cmdTk c).tail := by
  obtain ⟨k, tx, t, th, el⟩ := c
  have h : k = 2 := h
  subst h
  rw [cmdTk, List.tail_cons]
set_option maxRecDepth 100000 in
set_option maxHeartbeats 8000000 in
theorem branch_of (t : Tst) (th el : List Cmd) (hok : okT t) (hth : BlkW th) (hel : BlkW el) (hbr : ∀ c ∈ el, c.kind = 2 → BrW c) : BrW (.mk 2 [] t th el) := by
  intro B b l vs w0 W hv htab hB hb h hlen
  rw [cmdTk_if_tail] at hlen ⊢
  obtain ⟨Ax, cx, k2, m, p, lm, o, An, Ak, At, nn, cn, nk, ck, nt, ct, Ah, ch, Ae, ce, rfl, _, ht, hch, hce, hle⟩ := cmdV_cells hv
  have hln : th.length ≤ 1000000 ∧ el.length ≤ 1000000 := ⟨hle.2.2.2.2.1, hle.2.2.2.2.2⟩
  simp only [List.length_nil]
  rw [List.length_append, List.length_append] at hlen
  have hs0 : WSt B w0 W W b l := ⟨h, Tw.refl B W, hb⟩
  have hs1 := hs0.alloc (.cells #[.int .i64 2, .slice Ax 0 cx, .int .i64 k2, .int .i64 m, .int .i64 p, .slice An nn cn, .slice Ak nk ck, .bool o, .int .i64 lm, .slice At nt ct, .slice Ah th.length ch, .slice Ae el.length ce] 34)
  have hT := Bk.new W [.int .i64 2, .slice Ax 0 cx, .int .i64 k2, .int .i64 m, .int .i64 p, .slice An nn cn, .slice Ak nk ck, .bool o, .int .i64 lm, .slice At nt ct, .slice Ah th.length ch, .slice Ae el.length ce] 34
  have htc := fun W2 (h1 : Below w0.heap.size w0 W2) (h2 : Wr B W2 b l) => wtest_calls _ t (Nat.le_refl _) hok B b l _ w0 W2 ht htab hB h1 h2 (by omega)
  have htl := fun W2 (h1 : Below w0.heap.size w0 W2) (h2 : Wr B W2 b (l ++ testTk t)) => hth B b (l ++ testTk t) Ah ch w0 W2 hch hln.1 htab hB h1 h2 (by rw [List.length_append]; omega)
  have HT := Lib.hid hT
  have Hs1 := Lib.hid hs1
  have Htc := Lib.hid htc
  have Htl := Lib.hid htl
  have Hel := Lib.hid hel
  have Hbr := Lib.hid hbr
  have Hce := Lib.hid hce
  have Htab := Lib.hid htab
  have Hlen := Lib.hid hlen
  clear hT hs1 htc htl hel hbr hce htab hlen hs0 hv ht hch hle hok hth hb h
  have happ : l ++ (testTk t ++ (markTk 123 :: (cmdsTk th ++ [markTk 125])) ++ elseTk el) = l ++ testTk t ++ (markTk 123 :: (cmdsTk th ++ [markTk 125])) ++ elseTk el := by simp only [List.append_assoc]
  rw [happ]
  clear happ
  have hlen2 : (l ++ testTk t ++ (markTk 123 :: (cmdsTk th ++ [markTk 125]))).length + (elseTk el).length ≤ 800000 := by
    have := Hlen.out
    rw [List.length_append, List.length_append]
    omega
  generalize l ++ testTk t ++ (markTk 123 :: (cmdsTk th ++ [markTk 125])) = l2 at *
  have Hlen2 := Lib.hid hlen2
  clear hlen2 Hlen
  go_enter Tryd.func44, Tryd.ntmps44
  go_upto_region 1 with fail
  generalize W.alloc (.cells #[.int .i64 2, .slice Ax 0 cx, .int .i64 k2, .int .i64 m, .int .i64 p, .slice An nn cn, .slice Ak nk ck, .bool o, .int .i64 lm, .slice At nt ct, .slice Ah th.length ch, .slice Ae el.length ce] 34) = w1 at *
  have x2 := HT.out.cell 2 _ rfl
  have x3 := HT.out.cell 3 _ rfl
  have x4 := HT.out.cell 4 _ rfl
  have x5 := HT.out.cell 5 _ rfl
  have x6 := HT.out.cell 6 _ rfl
  have x7 := HT.out.cell 7 _ rfl
  have x8 := HT.out.cell 8 _ rfl
  have x9 := HT.out.cell 9 _ rfl
  have hi1 := Htc.out w1 Hs1.out.old Hs1.out.wr
  have Hi1 := Lib.hid hi1
  clear hi1 Htc
  go_wp2_with fail
  refine Hi1.out.mono ?_
  rintro e w2 ⟨rfl, hw2, ht2⟩
  have HT2 := Lib.hid (ht2.bk _ _ _ HT.out (by decide) (by decide))
  have Hs2 := Lib.hid (Hs1.out.put hB hw2 ht2)
  have hi2 := Htl.out w2 Hs2.out.old hw2
  have Hi2 := Lib.hid hi2
  clear hw2 ht2 hi2 Htl Hi1 HT Hs1 x2 x3 x4 x5 x6 x7 x8 x9
  have x10 := HT2.out.cell 10 _ rfl
  go_wp2_with fail
  refine Hi2.out.mono ?_
  rintro e w3 ⟨rfl, hw3, ht3⟩
  have HT3 := Lib.hid (ht3.bk _ _ _ HT2.out (by decide) (by decide))
  have Hs3 := Lib.hid (Hs2.out.put hB hw3 ht3)
  clear hw3 ht3 Hi2 HT2 Hs2 x10
  have x11 := HT3.out.cell 11 _ rfl
  by_cases hlone : el.length = 1
  · obtain ⟨bb, off, s, k3, Bx, nx, dx, k4, m2, p2, lm2, o2, Bn, Bk, Bt, n1, d1, n2, d2, n3, d3, Bh, nh, dh, Be, ne, de, hAe, hmem, hgt, hdr, hki, huv, c0, c1, c2, c3, c4, c5, c6, c7, c8, c9, c10, c11⟩ := cmdsAt_round (Below.refl _ w0) Hce.out (j := 0) (by omega)
    subst hAe
    simp only [Nat.zero_mul, Nat.add_zero] at c0 c1 c2 c3 c4 c5 c6 c7 c8 c9 c10 c11
    obtain rfl : el = [s] := by
      obtain ⟨s', rfl⟩ := List.length_eq_one_iff.1 hlone
      simp at hmem
      rw [hmem]
    have y0 := cell_later Hs3.out.old c0
    by_cases hk3 : k3 = 2
    · subst hk3
      have hl2 := Hlen2.out
      have he := elseTk_one s hki
      rw [he, List.length_cons] at hl2
      have hp := put_calls B b l2 1 ⟨#[101, 108, 115, 105, 102]⟩ w3 Hs3.out.wr (by omega)
      have hi4 := fun W2 (h1 : Below w0.heap.size w0 W2) (h2 : Wr B W2 b (l2 ++ [⟨1, ⟨#[101, 108, 115, 105, 102]⟩, 0⟩])) => Hbr.out s (by simp) hki B b (l2 ++ [⟨1, ⟨#[101, 108, 115, 105, 102]⟩, 0⟩]) _ w0 W2 huv Htab.out hB h1 h2 (by rw [List.length_append, List.length_singleton]; omega)
      have hfi : l2 ++ elseTk [s] = l2 ++ [⟨1, ⟨#[101, 108, 115, 105, 102]⟩, 0⟩] ++ (cmdTk s).tail := by
        rw [he, List.append_assoc]; rfl
      have Hfi := Lib.hid hfi
      have Hp := Lib.hid hp
      have Hi4 := Lib.hid hi4
      have C := Lib.hid (And.intro c0 (And.intro c1 (And.intro c2 (And.intro c3 (And.intro c4 (And.intro c5 (And.intro c6 (And.intro c7 (And.intro c8 (And.intro c9 (And.intro c10 c11)))))))))))
      clear hp hi4 hfi he hl2 hmem hgt hdr hki huv hlone Hel Hbr Hce Htab Hlen2 c0 c1 c2 c3 c4 c5 c6 c7 c8 c9 c10 c11
      simp only [List.length_singleton] at x11
      go_wp2_with fail
      refine Hp.out.mono ?_
      rintro e w4 ⟨rfl, hw4, ht4⟩
      have hT4 := ht4.bk _ _ _ HT3.out (by decide) (by decide)
      have Hs4 := Lib.hid (Hs3.out.put hB hw4 ht4)
      have hi5 := Hi4.out w4 Hs4.out.old hw4
      have Hi5 := Lib.hid hi5
      clear x11 y0
      have x11 := hT4.cell 11 _ rfl
      simp only [List.length_singleton] at x11
      obtain ⟨c0, c1, c2, c3, c4, c5, c6, c7, c8, c9, c10, c11⟩ := C.out
      have y0 := cell_later Hs4.out.old c0
      have y1 := cell_later Hs4.out.old c1
      have y2 := cell_later Hs4.out.old c2
      have y3 := cell_later Hs4.out.old c3
      have y4 := cell_later Hs4.out.old c4
      have y5 := cell_later Hs4.out.old c5
      have y6 := cell_later Hs4.out.old c6
      have y7 := cell_later Hs4.out.old c7
      have y8 := cell_later Hs4.out.old c8
      have y9 := cell_later Hs4.out.old c9
      have y10 := cell_later Hs4.out.old c10
      have y11 := cell_later Hs4.out.old c11
      clear hw4 ht4 hT4 hi5 Hi4 Hp C c0 c1 c2 c3 c4 c5 c6 c7 c8 c9 c10 c11 Hs3 HT3
      go_wp2_with fail
      refine Hi5.out.mono ?_
      rintro e w5 ⟨rfl, hw5, ht5⟩
      have Hw5 := Lib.hid hw5
      have Ht5 := Lib.hid (Hs4.out.tw.trans ht5)
      clear hw5 ht5 y0 y1 y2 y3 y4 y5 y6 y7 y8 y9 y10 y11 x11
      go_wp2_with fail
      go_end0
      exact ⟨rfl, by rw [Hfi.out]; exact Hw5.out, Ht5.out⟩
    · have hk4 : (k3 == 2) = false := by rw [beq_eq_false_iff_ne]; exact hk3
      have hl : lone [s] = false := by simp [lone, hki, hk3]
      have hl2 := Hlen2.out
      have he := elseTk_many (l := [s]) (by simp) hl
      rw [he, List.length_cons] at hl2
      have hp := put_calls B b l2 1 ⟨#[101, 108, 115, 101]⟩ w3 Hs3.out.wr (by omega)
      have hi4 := fun W2 (h1 : Below w0.heap.size w0 W2) (h2 : Wr B W2 b (l2 ++ [⟨1, ⟨#[101, 108, 115, 101]⟩, 0⟩])) => Hel.out B b (l2 ++ [⟨1, ⟨#[101, 108, 115, 101]⟩, 0⟩]) _ ce w0 W2 Hce.out hln.2 Htab.out hB h1 h2 (by rw [List.length_append, List.length_singleton]; omega)
      have hfi : l2 ++ elseTk [s] = l2 ++ [⟨1, ⟨#[101, 108, 115, 101]⟩, 0⟩] ++ (markTk 123 :: (cmdsTk [s] ++ [markTk 125])) := by
        rw [he, List.append_assoc]; rfl
      have Hfi := Lib.hid hfi
      have Hp := Lib.hid hp
      have Hi4 := Lib.hid hi4
      clear hp hi4 hfi he hl2 hmem hgt hdr hki huv hlone hl hk3 Hel Hbr Hce Htab Hlen2 c0 c1 c2 c3 c4 c5 c6 c7 c8 c9 c10 c11
      simp only [List.length_singleton] at x11
      go_wp2_with fail
      refine Hp.out.mono ?_
      rintro e w4 ⟨rfl, hw4, ht4⟩
      have hT4 := ht4.bk _ _ _ HT3.out (by decide) (by decide)
      have Hs4 := Lib.hid (Hs3.out.put hB hw4 ht4)
      have hi5 := Hi4.out w4 Hs4.out.old hw4
      have Hi5 := Lib.hid hi5
      clear x11 y0
      have x11 := hT4.cell 11 _ rfl
      clear hw4 ht4 hT4 hi5 Hi4 Hp Hs3 HT3
      go_wp2_with fail
      refine Hi5.out.mono ?_
      rintro e w5 ⟨rfl, hw5, ht5⟩
      have Hw5 := Lib.hid hw5
      have Ht5 := Lib.hid (Hs4.out.tw.trans ht5)
      clear hw5 ht5 x11
      go_wp2_with fail
      go_end0
      exact ⟨rfl, by rw [Hfi.out]; exact Hw5.out, Ht5.out⟩
  · have e1 : ((el.length : Int) == 1) = false := by rw [beq_eq_false_iff_ne]; omega
    by_cases hnil : el.length = 0
    · obtain rfl := List.length_eq_zero_iff.1 hnil
      have hfi : l2 ++ elseTk [] = l2 := by rw [elseTk_nil, List.append_nil]
      have Hfi := Lib.hid hfi
      clear hfi hlone hnil Hel Hbr Hce Htab Hlen2
      simp only [List.length_nil] at x11
      go_wp2_with fail
      go_end0
      exact ⟨rfl, by rw [Hfi.out]; exact Hs3.out.wr, Hs3.out.tw⟩
    · have hpos : (0 : Int) < (el.length : Int) := by omega
      have hl : lone el = false := by
        cases h : lone el with
        | false => rfl
        | true =>
          obtain ⟨c, rfl, _⟩ := lone_true h
          exact absurd rfl hlone
      have hl2 := Hlen2.out
      have he := elseTk_many (l := el) (by rintro rfl; exact hnil rfl) hl
      rw [he, List.length_cons] at hl2
      have hp := put_calls B b l2 1 ⟨#[101, 108, 115, 101]⟩ w3 Hs3.out.wr (by omega)
      have hi4 := fun W2 (h1 : Below w0.heap.size w0 W2) (h2 : Wr B W2 b (l2 ++ [⟨1, ⟨#[101, 108, 115, 101]⟩, 0⟩])) => Hel.out B b (l2 ++ [⟨1, ⟨#[101, 108, 115, 101]⟩, 0⟩]) _ ce w0 W2 Hce.out hln.2 Htab.out hB h1 h2 (by rw [List.length_append, List.length_singleton]; omega)
      have hfi : l2 ++ elseTk el = l2 ++ [⟨1, ⟨#[101, 108, 115, 101]⟩, 0⟩] ++ (markTk 123 :: (cmdsTk el ++ [markTk 125])) := by
        rw [he, List.append_assoc]; rfl
      have Hfi := Lib.hid hfi
      have Hp := Lib.hid hp
      have Hi4 := Lib.hid hi4
      clear hp hi4 hfi he hl2 hlone hl hnil Hel Hbr Hce Htab Hlen2
      go_wp2_with fail
      refine Hp.out.mono ?_
      rintro e w4 ⟨rfl, hw4, ht4⟩
      have hT4 := ht4.bk _ _ _ HT3.out (by decide) (by decide)
      have Hs4 := Lib.hid (Hs3.out.put hB hw4 ht4)
      have hi5 := Hi4.out w4 Hs4.out.old hw4
      have Hi5 := Lib.hid hi5
      clear x11
      have x11 := hT4.cell 11 _ rfl
      clear hw4 ht4 hT4 hi5 Hi4 Hp Hs3 HT3
      go_wp2_with fail
      refine Hi5.out.mono ?_
      rintro e w5 ⟨rfl, hw5, ht5⟩
      have Hw5 := Lib.hid hw5
      have Ht5 := Lib.hid (Hs4.out.tw.trans ht5)
      clear hw5 ht5 x11
      go_wp2_with fail
      go_end0
      exact ⟨rfl, by rw [Hfi.out]; exact Hw5.out, Ht5.out⟩
end Go.Proofs.YtgmnoemkdigafaaDoor
