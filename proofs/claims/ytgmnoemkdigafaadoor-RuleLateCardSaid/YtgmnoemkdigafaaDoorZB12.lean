/- The writer of tokens of package script: blocks of commands, branches, commands. The writer of tokens of package script: branches. The writer of tokens of package script: it puts a command. script.Check at commands whose parts may be. rule.Check at commands whose parts may be. What the helper Test gives back. Rows of tests, or of commands, that grow one by one: what their parts lean on lies elsewhere. What the helper Command gives back. A row that begins within a list. The helper Commands of the statements: the commands of some sticks. Appending commands to a row of commands of one's own. The kind of a stick: what its cells say, and that an argument that reads as data has it. The kind of a stick, with a bound on how many sticks lie in each: the way to arguments that are lists of sticks. The helper Test of the statements: kind 1. -/
import Derived.Test.YtgmnoemkdigafaaDoorZB1
import Derived.Test.YtgmnoemkdigafaaDoorZB11
import Derived.Test.YtgmnoemkdigafaaDoorZB10
import Derived.Test.YtgmnoemkdigafaaDoorZB6
import Derived.Test.YtgmnoemkdigafaaDoorZB2
import Derived.Deep.AppendLies
import Derived.Deep.DeepCutAuto
import Derived.Maps.AppendAt
import Derived.Laws.AppendOwnNone
import Derived.SizedLaws
import Derived.Laws.Rows
import Derived.Deep.RegionLaw
import Derived.Deep.CutBlock
import Derived.RegionTactic
import Derived.BigRegion
namespace Go.Proofs.YtgmnoemkdigafaaDoor
open Go.RowKit
set_option linter.unusedVariables false

/-- What the writer makes of a command, of what stands behind an if, of a block. -/
def CmdW (c : Cmd) : Prop := ∀ (B b : Nat) (l : List Tok) (vs : List Value) (w0 W : World), CmdV w0 c vs → TabsAt w0 → w0.heap.size ≤ B → Below w0.heap.size w0 W → Wr B W b l → l.length + (cmdTk c).length ≤ 800000 →
  Calls Tryd.prog 28 #[.pointer (some ⟨b, 0, none⟩), .agg vs.toArray] W fun e W' => e = .returned (.tuple #[]) ∧ Wr B W' b (l ++ cmdTk c) ∧ Tw B W W'
def BrW (c : Cmd) : Prop := ∀ (B b : Nat) (l : List Tok) (vs : List Value) (w0 W : World), CmdV w0 c vs → TabsAt w0 → w0.heap.size ≤ B → Below w0.heap.size w0 W → Wr B W b l → l.length + (cmdTk c).tail.length ≤ 800000 →
  Calls Tryd.prog 44 #[.pointer (some ⟨b, 0, none⟩), .agg vs.toArray] W fun e W' => e = .returned (.tuple #[]) ∧ Wr B W' b (l ++ (cmdTk c).tail) ∧ Tw B W W'
def BlkW (cs : List Cmd) : Prop := ∀ (B b : Nat) (l : List Tok) (A : Option Addr) (cp : Nat) (w0 W : World), CmdsAt w0 cs A → cs.length ≤ 1000000 → TabsAt w0 → w0.heap.size ≤ B → Below w0.heap.size w0 W → Wr B W b l → l.length + (markTk 123 :: (cmdsTk cs ++ [markTk 125])).length ≤ 800000 →
  Calls Tryd.prog 66 #[.pointer (some ⟨b, 0, none⟩), .slice A cs.length cp] W fun e W' => e = .returned (.tuple #[]) ∧ Wr B W' b (l ++ (markTk 123 :: (cmdsTk cs ++ [markTk 125]))) ∧ Tw B W W'
set_option maxRecDepth 100000 in
set_option maxHeartbeats 8000000 in
theorem block_of (cs : List Cmd) (ih : ∀ c ∈ cs, CmdW c) : BlkW cs := by
  intro B b l A cp w0 W hta hln htab hB hb h hlen
  have hs0 : WSt B w0 W W b l := ⟨h, Tw.refl B W, hb⟩
  simp only [List.length_cons, List.length_append, List.length_nil] at hlen
  have hp := put_calls B b l 5 ⟨#[123]⟩ W h (by omega)
  have hih : ∀ c ∈ cs, ∀ (l : List Tok) (vs : List Value) (W : World), CmdV w0 c vs → Below w0.heap.size w0 W → Wr B W b l → l.length + (cmdTk c).length ≤ 800000 → Calls Tryd.prog 28 #[.pointer (some ⟨b, 0, none⟩), .agg vs.toArray] W fun e W' => e = .returned (.tuple #[]) ∧ Wr B W' b (l ++ cmdTk c) ∧ Tw B W W' := fun c hc l vs W h1 h2 h3 h4 => ih c hc B b l vs w0 W h1 htab hB h2 h3 h4
  have Hp := Lib.hid hp
  have Hs0 := Lib.hid hs0
  have Hih := Lib.hid hih
  have Hta := Lib.hid hta
  have Hlen := Lib.hid hlen
  clear hp hs0 hih hta hlen ih h hb htab
  go_enter Tryd.func66, Tryd.ntmps66
  go_wp2_with fail
  refine Hp.out.mono ?_
  rintro e w1 ⟨rfl, hw1, ht1⟩
  have Hs1 := Lib.hid (Hs0.out.put hB hw1 ht1)
  clear hw1 ht1 Hp Hs0
  go_wp2_with fail
  go_loopw [10] (fun i wr => ∃ j : Nat, j ≤ cs.length ∧ i = .int .i64 j ∧ Hid (WSt B w0 W wr b (l ++ [(⟨5, ⟨#[123]⟩, 0⟩ : Tok)] ++ cmdsTk (cs.take j)))) (fun i _ => cs.length - (intOf i).toNat)
  case atStart => exact ⟨0, Nat.zero_le _, rfl, Lib.hid (by simpa [cmdsTk] using Hs1.out)⟩
  case round =>
    obtain ⟨j, hj, rfl, Hj⟩ := hrel
    by_cases hlt : j < cs.length
    · have hj0 : (0 : Int) ≤ (j : Int) := by omega
      have hjn : (j : Int) < (cs.length : Int) := by omega
      obtain ⟨bb, off, s, k, Ax, nx, cx, k2, m, p, lm, o, An, Ak, At, nn, cn, nk, ck, nt, ct, Ah, nh, ch, Ae, ne, ce, rfl, hmem, hgt, hdr, hki, huv, c0, c1, c2, c3, c4, c5, c6, c7, c8, c9, c10, c11⟩ := cmdsAt_round Hj.out.old Hta.out hlt
      have htk0 := cmdsTk_take_succ hgt
      have hln2 := cmdsTk_take_le cs (j + 1)
      rw [htk0, List.length_append] at hln2
      have htk : l ++ [(⟨5, ⟨#[123]⟩, 0⟩ : Tok)] ++ cmdsTk (cs.take (j + 1)) = l ++ [(⟨5, ⟨#[123]⟩, 0⟩ : Tok)] ++ cmdsTk (cs.take j) ++ cmdTk s := by
        rw [htk0]; simp
      have hl0 := Hlen.out
      have hlj : (l ++ [(⟨5, ⟨#[123]⟩, 0⟩ : Tok)] ++ cmdsTk (cs.take j)).length + (cmdTk s).length ≤ 800000 := by
        simp only [List.length_append, List.length_singleton]; omega
      have Htk := Lib.hid htk
      have hih := fun (l : List Tok) (W : World) (h2 : Below w0.heap.size w0 W) (h3 : Wr B W b l) h4 => Hih.out s hmem l _ W huv h2 h3 h4
      generalize l ++ [(⟨5, ⟨#[123]⟩, 0⟩ : Tok)] ++ cmdsTk (cs.take j) = lj at *
      have Hi := Lib.hid hih
      have Hlj := Lib.hid hlj
      have hN := Bk.new wr [.int .i64 k, .slice Ax nx cx, .int .i64 k2, .int .i64 m, .int .i64 p, .slice An nn cn, .slice Ak nk ck, .bool o, .int .i64 lm, .slice At nt ct, .slice Ah nh ch, .slice Ae ne ce] 34
      have hS1 := Hj.out.alloc (.cells #[.int .i64 k, .slice Ax nx cx, .int .i64 k2, .int .i64 m, .int .i64 p, .slice An nn cn, .slice Ak nk ck, .bool o, .int .i64 lm, .slice At nt ct, .slice Ah nh ch, .slice Ae ne ce] 34)
      have HN := Lib.hid hN
      have HS0 := Lib.hid hS1
      clear hih hN hS1 hmem hgt hdr huv hki htk htk0 hln2 hl0 hlj
      go_upto_region 4 with fail
      generalize wr.alloc (.cells #[.int .i64 k, .slice Ax nx cx, .int .i64 k2, .int .i64 m, .int .i64 p, .slice An nn cn, .slice Ak nk ck, .bool o, .int .i64 lm, .slice At nt ct, .slice Ah nh ch, .slice Ae ne ce] 34) = w5 at *
      clear c0 c1 c2 c3 c4 c5 c6 c7 c8 c9 c10 c11
      have c0 := HN.out.cell 0 _ rfl
      have c1 := HN.out.cell 1 _ rfl
      have c2 := HN.out.cell 2 _ rfl
      have c3 := HN.out.cell 3 _ rfl
      have c4 := HN.out.cell 4 _ rfl
      have c5 := HN.out.cell 5 _ rfl
      have c6 := HN.out.cell 6 _ rfl
      have c7 := HN.out.cell 7 _ rfl
      have c8 := HN.out.cell 8 _ rfl
      have c9 := HN.out.cell 9 _ rfl
      have c10 := HN.out.cell 10 _ rfl
      have c11 := HN.out.cell 11 _ rfl
      have hi5 := Hi.out lj w5 HS0.out.old HS0.out.wr Hlj.out
      have Hi5 := Lib.hid hi5
      clear hi5 Hi
      go_wp2_with fail
      refine Hi5.out.mono ?_
      rintro e w6 ⟨rfl, hw6, ht6⟩
      have HS6 := Lib.hid (HS0.out.put hB hw6 ht6)
      clear hw6 ht6 c0 c1 c2 c3 c4 c5 c6 c7 c8 c9 c10 c11 HN Hi5
      go_wp2_with fail
      go_roundw
      case rel => exact ⟨j + 1, by omega, by go_num, Lib.hid (by rw [Htk.out]; exact HS6.out)⟩
      case measure => simp [intOf]; omega
    · obtain rfl : j = cs.length := by omega
      have hS := Hj.out
      rw [List.take_length] at hS
      have hl0 := Hlen.out
      have hp := put_calls B b (l ++ [(⟨5, ⟨#[123]⟩, 0⟩ : Tok)] ++ cmdsTk cs) 5 ⟨#[125]⟩ wr hS.wr (by simp only [List.length_append, List.length_singleton]; omega)
      have Hp := Lib.hid hp
      have HS := Lib.hid hS
      clear hp hS hlt hl0
      go_wp2_with fail
      refine Hp.out.mono ?_
      rintro e w5 ⟨rfl, hw5, ht5⟩
      have Hw5 := Lib.hid hw5
      have Ht5 := Lib.hid (HS.out.tw.trans ht5)
      clear hw5 ht5
      go_wp2_with fail
      go_end0
      refine ⟨rfl, ?_, Ht5.out⟩
      have hfin := Hw5.out
      simp only [List.append_assoc, List.cons_append, List.nil_append] at hfin ⊢
      exact hfin
end Go.Proofs.YtgmnoemkdigafaaDoor
namespace Go.Proofs.YtgmnoemkdigafaaDoor
open Go.RowKit
set_option linter.unusedVariables false

theorem cmdTk_if_tail (t : Tst) (th el : List Cmd) : (cmdTk (.mk 2 [] t th el)).tail = testTk t ++ (markTk 123 :: (cmdsTk th ++ [markTk 125])) ++ elseTk el := by
  rw [cmdTk, if_pos rfl, List.tail_cons]
theorem cmdTk_two (c : Cmd) (h : c.kind = 2) : cmdTk c = wordTk (wAt commandsW 2) :: (cmdTk c).tail := by
  obtain ⟨k, tx, t, th, el⟩ := c
  have h : k = 2 := h
  subst h
  rw [cmdTk, List.tail_cons]
set_option maxRecDepth 100000 in
set_option maxHeartbeats 8000000 in
theorem branch_of (t : Tst) (th el : List Cmd) (hok : okT t) (hth : BlkW th) (hel : BlkW el) (hbr : ∀ c ∈ el, c.kind = 2 → BrW c) : BrW (.mk 2 [] t th el) := by
  intro B b l vs w0 W hv htab hB hb h hlen
  rw [cmdTk_if_tail] at hlen ⊢
  obtain ⟨Ax, cx, k2, m, p, lm, o, An, Ak, At, nn, cn, nk, ck, nt, ct, Ah, ch, Ae, ce, rfl, _, ht, hch, hce, hle⟩ := cmdV_cells hv
  have hln : th.length ≤ 1000000 ∧ el.length ≤ 1000000 := ⟨hle.2.2.2.2.1, hle.2.2.2.2.2⟩
  simp only [List.length_nil]
  rw [List.length_append, List.length_append] at hlen
  have hs0 : WSt B w0 W W b l := ⟨h, Tw.refl B W, hb⟩
  have hs1 := hs0.alloc (.cells #[.int .i64 2, .slice Ax 0 cx, .int .i64 k2, .int .i64 m, .int .i64 p, .slice An nn cn, .slice Ak nk ck, .bool o, .int .i64 lm, .slice At nt ct, .slice Ah th.length ch, .slice Ae el.length ce] 34)
  have hT := Bk.new W [.int .i64 2, .slice Ax 0 cx, .int .i64 k2, .int .i64 m, .int .i64 p, .slice An nn cn, .slice Ak nk ck, .bool o, .int .i64 lm, .slice At nt ct, .slice Ah th.length ch, .slice Ae el.length ce] 34
  have htc := fun W2 (h1 : Below w0.heap.size w0 W2) (h2 : Wr B W2 b l) => wtest_calls _ t (Nat.le_refl _) hok B b l _ w0 W2 ht htab hB h1 h2 (by omega)
  have htl := fun W2 (h1 : Below w0.heap.size w0 W2) (h2 : Wr B W2 b (l ++ testTk t)) => hth B b (l ++ testTk t) Ah ch w0 W2 hch hln.1 htab hB h1 h2 (by rw [List.length_append]; omega)
  have HT := Lib.hid hT
  have Hs1 := Lib.hid hs1
  have Htc := Lib.hid htc
  have Htl := Lib.hid htl
  have Hel := Lib.hid hel
  have Hbr := Lib.hid hbr
  have Hce := Lib.hid hce
  have Htab := Lib.hid htab
  have Hlen := Lib.hid hlen
  clear hT hs1 htc htl hel hbr hce htab hlen hs0 hv ht hch hle hok hth hb h
  have happ : l ++ (testTk t ++ (markTk 123 :: (cmdsTk th ++ [markTk 125])) ++ elseTk el) = l ++ testTk t ++ (markTk 123 :: (cmdsTk th ++ [markTk 125])) ++ elseTk el := by simp only [List.append_assoc]
  rw [happ]
  clear happ
  have hlen2 : (l ++ testTk t ++ (markTk 123 :: (cmdsTk th ++ [markTk 125]))).length + (elseTk el).length ≤ 800000 := by
    have := Hlen.out
    rw [List.length_append, List.length_append]
    omega
  generalize l ++ testTk t ++ (markTk 123 :: (cmdsTk th ++ [markTk 125])) = l2 at *
  have Hlen2 := Lib.hid hlen2
  clear hlen2 Hlen
  go_enter Tryd.func44, Tryd.ntmps44
  go_upto_region 1 with fail
  generalize W.alloc (.cells #[.int .i64 2, .slice Ax 0 cx, .int .i64 k2, .int .i64 m, .int .i64 p, .slice An nn cn, .slice Ak nk ck, .bool o, .int .i64 lm, .slice At nt ct, .slice Ah th.length ch, .slice Ae el.length ce] 34) = w1 at *
  have x2 := HT.out.cell 2 _ rfl
  have x3 := HT.out.cell 3 _ rfl
  have x4 := HT.out.cell 4 _ rfl
  have x5 := HT.out.cell 5 _ rfl
  have x6 := HT.out.cell 6 _ rfl
  have x7 := HT.out.cell 7 _ rfl
  have x8 := HT.out.cell 8 _ rfl
  have x9 := HT.out.cell 9 _ rfl
  have hi1 := Htc.out w1 Hs1.out.old Hs1.out.wr
  have Hi1 := Lib.hid hi1
  clear hi1 Htc
  go_wp2_with fail
  refine Hi1.out.mono ?_
  rintro e w2 ⟨rfl, hw2, ht2⟩
  have HT2 := Lib.hid (ht2.bk _ _ _ HT.out (by decide) (by decide))
  have Hs2 := Lib.hid (Hs1.out.put hB hw2 ht2)
  have hi2 := Htl.out w2 Hs2.out.old hw2
  have Hi2 := Lib.hid hi2
  clear hw2 ht2 hi2 Htl Hi1 HT Hs1 x2 x3 x4 x5 x6 x7 x8 x9
  have x10 := HT2.out.cell 10 _ rfl
  go_wp2_with fail
  refine Hi2.out.mono ?_
  rintro e w3 ⟨rfl, hw3, ht3⟩
  have HT3 := Lib.hid (ht3.bk _ _ _ HT2.out (by decide) (by decide))
  have Hs3 := Lib.hid (Hs2.out.put hB hw3 ht3)
  clear hw3 ht3 Hi2 HT2 Hs2 x10
  have x11 := HT3.out.cell 11 _ rfl
  by_cases hlone : el.length = 1
  · obtain ⟨bb, off, s, k3, Bx, nx, dx, k4, m2, p2, lm2, o2, Bn, Bk, Bt, n1, d1, n2, d2, n3, d3, Bh, nh, dh, Be, ne, de, hAe, hmem, hgt, hdr, hki, huv, c0, c1, c2, c3, c4, c5, c6, c7, c8, c9, c10, c11⟩ := cmdsAt_round (Below.refl _ w0) Hce.out (j := 0) (by omega)
    subst hAe
    simp only [Nat.zero_mul, Nat.add_zero] at c0 c1 c2 c3 c4 c5 c6 c7 c8 c9 c10 c11
    obtain rfl : el = [s] := by
      obtain ⟨s', rfl⟩ := List.length_eq_one_iff.1 hlone
      simp at hmem
      rw [hmem]
    have y0 := cell_later Hs3.out.old c0
    by_cases hk3 : k3 = 2
    · subst hk3
      have hl2 := Hlen2.out
      have he := elseTk_one s hki
      rw [he, List.length_cons] at hl2
      have hp := put_calls B b l2 1 ⟨#[101, 108, 115, 105, 102]⟩ w3 Hs3.out.wr (by omega)
      have hi4 := fun W2 (h1 : Below w0.heap.size w0 W2) (h2 : Wr B W2 b (l2 ++ [⟨1, ⟨#[101, 108, 115, 105, 102]⟩, 0⟩])) => Hbr.out s (by simp) hki B b (l2 ++ [⟨1, ⟨#[101, 108, 115, 105, 102]⟩, 0⟩]) _ w0 W2 huv Htab.out hB h1 h2 (by rw [List.length_append, List.length_singleton]; omega)
      have hfi : l2 ++ elseTk [s] = l2 ++ [⟨1, ⟨#[101, 108, 115, 105, 102]⟩, 0⟩] ++ (cmdTk s).tail := by
        rw [he, List.append_assoc]; rfl
      have Hfi := Lib.hid hfi
      have Hp := Lib.hid hp
      have Hi4 := Lib.hid hi4
      have C := Lib.hid (And.intro c0 (And.intro c1 (And.intro c2 (And.intro c3 (And.intro c4 (And.intro c5 (And.intro c6 (And.intro c7 (And.intro c8 (And.intro c9 (And.intro c10 c11)))))))))))
      clear hp hi4 hfi he hl2 hmem hgt hdr hki huv hlone Hel Hbr Hce Htab Hlen2 c0 c1 c2 c3 c4 c5 c6 c7 c8 c9 c10 c11
      simp only [List.length_singleton] at x11
      go_wp2_with fail
      refine Hp.out.mono ?_
      rintro e w4 ⟨rfl, hw4, ht4⟩
      have hT4 := ht4.bk _ _ _ HT3.out (by decide) (by decide)
      have Hs4 := Lib.hid (Hs3.out.put hB hw4 ht4)
      have hi5 := Hi4.out w4 Hs4.out.old hw4
      have Hi5 := Lib.hid hi5
      clear x11 y0
      have x11 := hT4.cell 11 _ rfl
      simp only [List.length_singleton] at x11
      obtain ⟨c0, c1, c2, c3, c4, c5, c6, c7, c8, c9, c10, c11⟩ := C.out
      have y0 := cell_later Hs4.out.old c0
      have y1 := cell_later Hs4.out.old c1
      have y2 := cell_later Hs4.out.old c2
      have y3 := cell_later Hs4.out.old c3
      have y4 := cell_later Hs4.out.old c4
      have y5 := cell_later Hs4.out.old c5
      have y6 := cell_later Hs4.out.old c6
      have y7 := cell_later Hs4.out.old c7
      have y8 := cell_later Hs4.out.old c8
      have y9 := cell_later Hs4.out.old c9
      have y10 := cell_later Hs4.out.old c10
      have y11 := cell_later Hs4.out.old c11
      clear hw4 ht4 hT4 hi5 Hi4 Hp C c0 c1 c2 c3 c4 c5 c6 c7 c8 c9 c10 c11 Hs3 HT3
      go_wp2_with fail
      refine Hi5.out.mono ?_
      rintro e w5 ⟨rfl, hw5, ht5⟩
      have Hw5 := Lib.hid hw5
      have Ht5 := Lib.hid (Hs4.out.tw.trans ht5)
      clear hw5 ht5 y0 y1 y2 y3 y4 y5 y6 y7 y8 y9 y10 y11 x11
      go_wp2_with fail
      go_end0
      exact ⟨rfl, by rw [Hfi.out]; exact Hw5.out, Ht5.out⟩
    · have hk4 : (k3 == 2) = false := by rw [beq_eq_false_iff_ne]; exact hk3
      have hl : lone [s] = false := by simp [lone, hki, hk3]
      have hl2 := Hlen2.out
      have he := elseTk_many (l := [s]) (by simp) hl
      rw [he, List.length_cons] at hl2
      have hp := put_calls B b l2 1 ⟨#[101, 108, 115, 101]⟩ w3 Hs3.out.wr (by omega)
      have hi4 := fun W2 (h1 : Below w0.heap.size w0 W2) (h2 : Wr B W2 b (l2 ++ [⟨1, ⟨#[101, 108, 115, 101]⟩, 0⟩])) => Hel.out B b (l2 ++ [⟨1, ⟨#[101, 108, 115, 101]⟩, 0⟩]) _ ce w0 W2 Hce.out hln.2 Htab.out hB h1 h2 (by rw [List.length_append, List.length_singleton]; omega)
      have hfi : l2 ++ elseTk [s] = l2 ++ [⟨1, ⟨#[101, 108, 115, 101]⟩, 0⟩] ++ (markTk 123 :: (cmdsTk [s] ++ [markTk 125])) := by
        rw [he, List.append_assoc]; rfl
      have Hfi := Lib.hid hfi
      have Hp := Lib.hid hp
      have Hi4 := Lib.hid hi4
      clear hp hi4 hfi he hl2 hmem hgt hdr hki huv hlone hl hk3 Hel Hbr Hce Htab Hlen2 c0 c1 c2 c3 c4 c5 c6 c7 c8 c9 c10 c11
      simp only [List.length_singleton] at x11
      go_wp2_with fail
      refine Hp.out.mono ?_
      rintro e w4 ⟨rfl, hw4, ht4⟩
      have hT4 := ht4.bk _ _ _ HT3.out (by decide) (by decide)
      have Hs4 := Lib.hid (Hs3.out.put hB hw4 ht4)
      have hi5 := Hi4.out w4 Hs4.out.old hw4
      have Hi5 := Lib.hid hi5
      clear x11 y0
      have x11 := hT4.cell 11 _ rfl
      clear hw4 ht4 hT4 hi5 Hi4 Hp Hs3 HT3
      go_wp2_with fail
      refine Hi5.out.mono ?_
      rintro e w5 ⟨rfl, hw5, ht5⟩
      have Hw5 := Lib.hid hw5
      have Ht5 := Lib.hid (Hs4.out.tw.trans ht5)
      clear hw5 ht5 x11
      go_wp2_with fail
      go_end0
      exact ⟨rfl, by rw [Hfi.out]; exact Hw5.out, Ht5.out⟩
  · have e1 : ((el.length : Int) == 1) = false := by rw [beq_eq_false_iff_ne]; omega
    by_cases hnil : el.length = 0
    · obtain rfl := List.length_eq_zero_iff.1 hnil
      have hfi : l2 ++ elseTk [] = l2 := by rw [elseTk_nil, List.append_nil]
      have Hfi := Lib.hid hfi
      clear hfi hlone hnil Hel Hbr Hce Htab Hlen2
      simp only [List.length_nil] at x11
      go_wp2_with fail
      go_end0
      exact ⟨rfl, by rw [Hfi.out]; exact Hs3.out.wr, Hs3.out.tw⟩
    · have hpos : (0 : Int) < (el.length : Int) := by omega
      have hl : lone el = false := by
        cases h : lone el with
        | false => rfl
        | true =>
          obtain ⟨c, rfl, _⟩ := lone_true h
          exact absurd rfl hlone
      have hl2 := Hlen2.out
      have he := elseTk_many (l := el) (by rintro rfl; exact hnil rfl) hl
      rw [he, List.length_cons] at hl2
      have hp := put_calls B b l2 1 ⟨#[101, 108, 115, 101]⟩ w3 Hs3.out.wr (by omega)
      have hi4 := fun W2 (h1 : Below w0.heap.size w0 W2) (h2 : Wr B W2 b (l2 ++ [⟨1, ⟨#[101, 108, 115, 101]⟩, 0⟩])) => Hel.out B b (l2 ++ [⟨1, ⟨#[101, 108, 115, 101]⟩, 0⟩]) _ ce w0 W2 Hce.out hln.2 Htab.out hB h1 h2 (by rw [List.length_append, List.length_singleton]; omega)
      have hfi : l2 ++ elseTk el = l2 ++ [⟨1, ⟨#[101, 108, 115, 101]⟩, 0⟩] ++ (markTk 123 :: (cmdsTk el ++ [markTk 125])) := by
        rw [he, List.append_assoc]; rfl
      have Hfi := Lib.hid hfi
      have Hp := Lib.hid hp
      have Hi4 := Lib.hid hi4
      clear hp hi4 hfi he hl2 hlone hl hnil Hel Hbr Hce Htab Hlen2
      go_wp2_with fail
      refine Hp.out.mono ?_
      rintro e w4 ⟨rfl, hw4, ht4⟩
      have hT4 := ht4.bk _ _ _ HT3.out (by decide) (by decide)
      have Hs4 := Lib.hid (Hs3.out.put hB hw4 ht4)
      have hi5 := Hi4.out w4 Hs4.out.old hw4
      have Hi5 := Lib.hid hi5
      clear x11
      have x11 := hT4.cell 11 _ rfl
      clear hw4 ht4 hT4 hi5 Hi4 Hp Hs3 HT3
      go_wp2_with fail
      refine Hi5.out.mono ?_
      rintro e w5 ⟨rfl, hw5, ht5⟩
      have Hw5 := Lib.hid hw5
      have Ht5 := Lib.hid (Hs4.out.tw.trans ht5)
      clear hw5 ht5 x11
      go_wp2_with fail
      go_end0
      exact ⟨rfl, by rw [Hfi.out]; exact Hw5.out, Ht5.out⟩
end Go.Proofs.YtgmnoemkdigafaaDoor
namespace Go.Proofs.YtgmnoemkdigafaaDoor
open Go.RowKit
set_option linter.unusedVariables false

theorem cmdTk_other {k : Int} {tx : List ByteArray} {t : Tst} {th el : List Cmd} (h : k ≠ 2) : cmdTk (.mk k tx t th el) = wordTk (wAt commandsW k) :: ((if 0 < tx.length then listTk tx else []) ++ [markTk 59]) := by
  rw [cmdTk, if_neg h]
set_option maxRecDepth 100000 in
set_option maxHeartbeats 8000000 in
theorem command_if (t : Tst) (th el : List Cmd) (hbr : BrW (.mk 2 [] t th el)) : CmdW (.mk 2 [] t th el) := by
  intro B b l vs w0 W hv htab hB hb h hlen
  have htwo := cmdTk_two (.mk 2 [] t th el) rfl
  rw [htwo] at hlen ⊢
  rw [List.length_cons] at hlen
  generalize htl : (cmdTk (.mk 2 [] t th el)).tail = tl at *
  have hbi := fun W2 (h1 : Below w0.heap.size w0 W2) (h2 : Wr B W2 b (l ++ [⟨1, mkS (commandsW.getD 2 []), 0⟩])) => hbr B b (l ++ [⟨1, mkS (commandsW.getD 2 []), 0⟩]) vs w0 W2 hv htab hB h1 h2 (by rw [htl, List.length_append, List.length_singleton]; omega)
  rw [htl] at hbi
  have hfi : l ++ wordTk (wAt commandsW 2) :: tl = l ++ [⟨1, mkS (commandsW.getD 2 []), 0⟩] ++ tl := by rw [List.append_assoc]; rfl
  rw [hfi]
  clear hfi htwo htl
  obtain ⟨Ax, cx, k2, m, p, lm, o, An, Ak, At, nn, cn, nk, ck, nt, ct, Ah, ch, Ae, ce, rfl, _, ht, hch, hce, hle⟩ := cmdV_cells hv
  simp only [List.length_nil] at *
  have hs0 : WSt B w0 W W b l := ⟨h, Tw.refl B W, hb⟩
  have hs1 := hs0.alloc (.cells #[.int .i64 2, .slice Ax 0 cx, .int .i64 k2, .int .i64 m, .int .i64 p, .slice An nn cn, .slice Ak nk ck, .bool o, .int .i64 lm, .slice At nt ct, .slice Ah th.length ch, .slice Ae el.length ce] 34)
  have hT := Bk.new W [.int .i64 2, .slice Ax 0 cx, .int .i64 k2, .int .i64 m, .int .i64 p, .slice An nn cn, .slice Ak nk ck, .bool o, .int .i64 lm, .slice At nt ct, .slice Ah th.length ch, .slice Ae el.length ce] 34
  have tc := cell_later hs1.old (htab.cs 2 (by omega))
  have hp := put_calls B b l 1 (mkS (commandsW.getD 2 [])) _ hs1.wr (by omega)
  have HT := Lib.hid hT
  have Hs1 := Lib.hid hs1
  have Hp := Lib.hid hp
  have Hbi := Lib.hid hbi
  clear hT hs1 hp hbi hs0 hv ht hch hce hle hb h htab hlen
  go_enter Tryd.func28, Tryd.ntmps28
  go_upto_region 1 with fail
  generalize W.alloc (.cells #[.int .i64 2, .slice Ax 0 cx, .int .i64 k2, .int .i64 m, .int .i64 p, .slice An nn cn, .slice Ak nk ck, .bool o, .int .i64 lm, .slice At nt ct, .slice Ah th.length ch, .slice Ae el.length ce] 34) = w1 at *
  have x0 := HT.out.cell 0 _ rfl
  go_wp2_with fail
  refine Hp.out.mono ?_
  rintro e w2 ⟨rfl, hw2, ht2⟩
  have HT2 := Lib.hid (ht2.bk _ _ _ HT.out (by decide) (by decide))
  have Hs2 := Lib.hid (Hs1.out.put hB hw2 ht2)
  have hi2 := Hbi.out w2 Hs2.out.old hw2
  have Hi2 := Lib.hid hi2
  clear hw2 ht2 hi2 Hbi HT Hs1 Hp x0 tc
  have x0 := HT2.out.cell 0 _ rfl
  have x1 := HT2.out.cell 1 _ rfl
  have x2 := HT2.out.cell 2 _ rfl
  have x3 := HT2.out.cell 3 _ rfl
  have x4 := HT2.out.cell 4 _ rfl
  have x5 := HT2.out.cell 5 _ rfl
  have x6 := HT2.out.cell 6 _ rfl
  have x7 := HT2.out.cell 7 _ rfl
  have x8 := HT2.out.cell 8 _ rfl
  have x9 := HT2.out.cell 9 _ rfl
  have x10 := HT2.out.cell 10 _ rfl
  have x11 := HT2.out.cell 11 _ rfl
  go_wp2_with fail
  refine Hi2.out.mono ?_
  rintro e w3 ⟨rfl, hw3, ht3⟩
  have Hw3 := Lib.hid hw3
  have Ht3 := Lib.hid (Hs2.out.tw.trans ht3)
  clear hw3 ht3
  go_wp2_with fail
  exact bodyPost_ret (results_none rfl _ _ _) rfl ⟨rfl, Hw3.out, Ht3.out⟩
set_option maxRecDepth 100000 in
set_option maxHeartbeats 8000000 in
theorem command_other (k : Int) (tx : List ByteArray) (t : Tst) (th el : List Cmd) (h1 : 1 ≤ k) (h2 : k ≤ 10) (h3 : k ≠ 2) : CmdW (.mk k tx t th el) := by
  intro B b l vs w0 W hv htab hB hb h hlen
  rw [cmdTk_other h3] at hlen ⊢
  rw [List.length_cons, List.length_append, List.length_singleton] at hlen
  obtain ⟨Ax, cx, k2, m, p, lm, o, An, Ak, At, nn, cn, nk, ck, nt, ct, Ah, ch, Ae, ce, rfl, hx, ht, hch, hce, hle⟩ := cmdV_cells hv
  have hln : tx.length ≤ 1000000 := hle.2.2.2.1
  have hs0 : WSt B w0 W W b l := ⟨h, Tw.refl B W, hb⟩
  have hs1 := hs0.alloc (.cells #[.int .i64 k, .slice Ax tx.length cx, .int .i64 k2, .int .i64 m, .int .i64 p, .slice An nn cn, .slice Ak nk ck, .bool o, .int .i64 lm, .slice At nt ct, .slice Ah th.length ch, .slice Ae el.length ce] 34)
  have hT := Bk.new W [.int .i64 k, .slice Ax tx.length cx, .int .i64 k2, .int .i64 m, .int .i64 p, .slice An nn cn, .slice Ak nk ck, .bool o, .int .i64 lm, .slice At nt ct, .slice Ah th.length ch, .slice Ae el.length ce] 34
  obtain ⟨k', rfl⟩ : ∃ n : Nat, k = n := ⟨k.toNat, by omega⟩
  have tc := cell_later hs1.old (htab.cs k' (by omega))
  have hp := put_calls B b l 1 (mkS (commandsW.getD k' [])) _ hs1.wr (by omega)
  have hfi : l ++ wordTk (wAt commandsW (k' : Int)) :: ((if 0 < tx.length then listTk tx else []) ++ [markTk 59]) = l ++ [⟨1, mkS (commandsW.getD k' []), 0⟩] ++ ((if 0 < tx.length then listTk tx else []) ++ [markTk 59]) := by rw [List.append_assoc]; rfl
  rw [hfi]
  have HT := Lib.hid hT
  have Hs1 := Lib.hid hs1
  have Hp := Lib.hid hp
  have Hx := Lib.hid hx
  have Hlen := Lib.hid hlen
  have hlen1 : l.length + 2 ≤ 800000 := by omega
  have kk0 : (0 : Int) ≤ (k' : Int) := by omega
  have kk1 : (k' : Int) < 11 := by omega
  have k2f : ((k' : Int) == 2) = false := by rw [beq_eq_false_iff_ne]; exact h3
  clear hT hs1 hp hs0 hv hx ht hch hce hle hb h htab hfi h1 h2 h3 hlen
  have hl1 : (l ++ [(⟨1, mkS (commandsW.getD k' []), 0⟩ : Tok)]).length = l.length + 1 := by simp
  generalize l ++ [(⟨1, mkS (commandsW.getD k' []), 0⟩ : Tok)] = l1 at *
  go_enter Tryd.func28, Tryd.ntmps28
  go_upto_region 1 with fail
  generalize W.alloc (.cells #[.int .i64 (k' : Int), .slice Ax tx.length cx, .int .i64 k2, .int .i64 m, .int .i64 p, .slice An nn cn, .slice Ak nk ck, .bool o, .int .i64 lm, .slice At nt ct, .slice Ah th.length ch, .slice Ae el.length ce] 34) = w1 at *
  have x0 := HT.out.cell 0 _ rfl
  go_wp2_with fail
  refine Hp.out.mono ?_
  rintro e w2 ⟨rfl, hw2, ht2⟩
  have HT2 := Lib.hid (ht2.bk _ _ _ HT.out (by decide) (by decide))
  have Hs2 := Lib.hid (Hs1.out.put hB hw2 ht2)
  clear hw2 ht2 HT Hs1 Hp x0 tc kk0 kk1
  have x0 := HT2.out.cell 0 _ rfl
  have x1 := HT2.out.cell 1 _ rfl
  by_cases hz : 0 < tx.length
  · have hz1 : (0 : Int) < (tx.length : Int) := by omega
    rw [if_pos hz] at Hlen
    have hl2 := Hlen.out
    have htl := listTk_len tx
    have hi3 := wlist_calls B b l1 tx Ax cx w0 w2 Hx.out hB Hs2.out.old Hs2.out.wr (by omega)
    have Hi3 := Lib.hid hi3
    clear hi3 htl hl2
    go_wp2_with fail
    refine Hi3.out.mono ?_
    rintro e w3 ⟨rfl, hw3, ht3⟩
    have Hs3 := Lib.hid (Hs2.out.put hB hw3 ht3)
    have hl2 := Hlen.out
    have hp4 := put_calls B b (l1 ++ listTk tx) 5 ⟨#[59]⟩ w3 hw3 (by rw [List.length_append]; omega)
    have Hp4 := Lib.hid hp4
    clear hw3 ht3 hp4 hl2 x0 x1 Hi3
    go_wp2_with fail
    refine Hp4.out.mono ?_
    rintro e w4 ⟨rfl, hw4, ht4⟩
    have Hw4 := Lib.hid hw4
    have Ht4 := Lib.hid (Hs3.out.tw.trans ht4)
    clear hw4 ht4
    go_wp2_with fail
    go_end0
    exact ⟨rfl, by rw [← List.append_assoc]; exact Hw4.out, Ht4.out⟩
  · have hz1 : tx.length = 0 := by omega
    rw [hz1] at x1
    have hp4 := put_calls B b l1 5 ⟨#[59]⟩ w2 Hs2.out.wr (by omega)
    have Hp4 := Lib.hid hp4
    clear hp4
    go_wp2_with fail
    refine Hp4.out.mono ?_
    rintro e w4 ⟨rfl, hw4, ht4⟩
    have Hw4 := Lib.hid hw4
    have Ht4 := Lib.hid (Hs2.out.tw.trans ht4)
    clear hw4 ht4
    go_wp2_with fail
    go_end0
    exact ⟨rfl, Hw4.out, Ht4.out⟩
theorem wcmd_calls : ∀ (N : Nat) (c : Cmd), SizeOf.sizeOf c ≤ N → okC c → CmdW c ∧ (c.kind = 2 → BrW c)
  | 0, c, hN, _ => by cases c; simp at hN
  | N + 1, c, hN, hok => by
    obtain ⟨k, tx, t, th, el⟩ := c
    unfold okC at hok
    rcases hok with ⟨rfl, rfl, h1, h2, h3⟩ | ⟨h1, h2, h3, h4, rfl, rfl, rfl⟩
    · have hth : ∀ c ∈ th, CmdW c := fun c hc => (wcmd_calls N c (by
        have h := List.sizeOf_lt_of_mem hc
        simp only [Cmd.mk.sizeOf_spec] at hN
        omega) (okCs_mem th c h2 hc)).1
      have hel : ∀ c ∈ el, CmdW c ∧ (c.kind = 2 → BrW c) := fun c hc => wcmd_calls N c (by
        have h := List.sizeOf_lt_of_mem hc
        simp only [Cmd.mk.sizeOf_spec] at hN
        omega) (okCs_mem el c h3 hc)
      have hb := branch_of t th el h1 (block_of th hth) (block_of el fun c hc => (hel c hc).1) fun c hc hk => (hel c hc).2 hk
      exact ⟨command_if t th el hb, fun _ => hb⟩
    · exact ⟨command_other k tx zeroT [] [] h1 h2 h3, fun h => absurd h h3⟩
theorem wcommand_calls (c : Cmd) (h : okC c) : CmdW c := (wcmd_calls _ c (Nat.le_refl _) h).1
end Go.Proofs.YtgmnoemkdigafaaDoor
namespace Go.Proofs.YtgmnoemkdigafaaDoor
open Go.RowKit
set_option linter.unusedVariables false

/-- What Check answers. -/
def chkS (cs : List Cmd) : Int := if chkCs cs 0 ≠ 0 then chkCs cs 0 else if 400 < (cmdsTk cs).length then 5 else 0
set_option maxRecDepth 100000 in
set_option maxHeartbeats 8000000 in
theorem Check_calls (cs : List Cmd) (hok : okCs cs) (A : Option Addr) (cp : Nat) (w : World) (hta : CmdsAt w cs A) (htab : TabsAt w) (hln : cs.length ≤ 1000000) (hlen : (cmdsTk cs).length ≤ 700000) :
    Calls Tryd.prog 15 #[.slice A cs.length cp] w fun e w' => e = .returned (.int .i64 (chkS cs)) ∧ Below w.heap.size w w' := by
  have hc := checkAll_calls cs hok 0 A cp w (by omega) (by omega) hta hln
  have hih : ∀ (B b : Nat), w.heap.size ≤ B → ∀ c ∈ cs, ∀ (l : List Tok) (vs : List Value) (W : World), CmdV w c vs → Below w.heap.size w W → Wr B W b l → l.length + (cmdTk c).length ≤ 800000 → Calls Tryd.prog 28 #[.pointer (some ⟨b, 0, none⟩), .agg vs.toArray] W fun e W' => e = .returned (.tuple #[]) ∧ Wr B W' b (l ++ cmdTk c) ∧ Tw B W W' := fun B b hB c hc l vs W h1 h2 h3 h4 => wcommand_calls c (okCs_mem cs c hok hc) B b l vs w W h1 htab hB h2 h3 h4
  generalize hres : chkS cs = res at *
  have Hres := Lib.hid hres
  generalize hq : chkCs cs 0 = q at *
  have Hq := Lib.hid hq
  have Hc := Lib.hid hc
  have Hih := Lib.hid hih
  have Hta := Lib.hid hta
  have Hlen := Lib.hid hlen
  clear hres hq hc hih hta hlen htab hok
  go_enter Tryd.func15, Tryd.ntmps15
  go_wp2_with fail
  refine Hc.out.mono ?_
  rintro e w1 ⟨rfl, hb1⟩
  have Hb1 := Lib.hid hb1
  clear hb1 Hc
  by_cases hq0 : q = 0
  · subst hq0
    have hres2 : res = if 400 < (cmdsTk cs).length then 5 else 0 := by
      rw [← Hres.out, chkS, Hq.out, if_neg (by simp)]
    have Hres2 := Lib.hid hres2
    clear hres2 Hres Hq
    have hB := Hb1.out.size
    have hW := Bk.new w1 [.slice none 0 0] 68
    have hs1 : WSt w1.heap.size w w1 (w1.alloc (.cells #[.slice none 0 0] 68)) w1.heap.size [] :=
      ⟨⟨Nat.le_refl _, .slice none 0 0, hW, World.ownsRow_nil _ _ _ _⟩, ⟨(bal (Below.refl _ w1) _).mono (Nat.le_refl _), fun q cs t hb _ _ => hb.alloc _⟩, btr Hb1.out (bal (Below.refl _ _) _)⟩
    have Hs1 := Lib.hid hs1
    clear hs1 hW
    go_upto_region 5 with fail
    generalize w1.alloc (.cells #[.slice none 0 0] 68) = w2 at *
    go_wp2_with fail
    go_loopw [16] (fun i wr => ∃ j : Nat, j ≤ cs.length ∧ i = .int .i64 j ∧ Hid (WSt w1.heap.size w w1 wr w1.heap.size (cmdsTk (cs.take j)))) (fun i _ => cs.length - (intOf i).toNat)
    case atStart => exact ⟨0, Nat.zero_le _, rfl, Lib.hid (by simpa [cmdsTk] using Hs1.out)⟩
    case round =>
      obtain ⟨j, hj, rfl, Hj⟩ := hrel
      by_cases hlt : j < cs.length
      · have hj0 : (0 : Int) ≤ (j : Int) := by omega
        have hjn : (j : Int) < (cs.length : Int) := by omega
        obtain ⟨bb, off, s, k, Ax, nx, cx, k2, m, p, lm, o, An, Ak, At, nn, cn, nk, ck, nt, ct, Ah, nh, ch, Ae, ne, ce, rfl, hmem, hgt, hdr, hki, huv, c0, c1, c2, c3, c4, c5, c6, c7, c8, c9, c10, c11⟩ := cmdsAt_round Hj.out.old Hta.out hlt
        have htk := cmdsTk_take_succ hgt
        have hln2 := cmdsTk_take_le cs (j + 1)
        have hl0 := Hlen.out
        rw [htk, List.length_append] at hln2
        have hlj : (cmdsTk (cs.take j)).length + (cmdTk s).length ≤ 800000 := by omega
        have Htk := Lib.hid htk
        have hih := fun (l : List Tok) (W : World) (h2 : Below w.heap.size w W) (h3 : Wr w1.heap.size W w1.heap.size l) h4 => Hih.out w1.heap.size w1.heap.size hB s hmem l _ W huv h2 h3 h4
        generalize cmdsTk (cs.take j) = lj at *
        have Hi := Lib.hid hih
        have Hlj := Lib.hid hlj
        have hN := Bk.new wr [.int .i64 k, .slice Ax nx cx, .int .i64 k2, .int .i64 m, .int .i64 p, .slice An nn cn, .slice Ak nk ck, .bool o, .int .i64 lm, .slice At nt ct, .slice Ah nh ch, .slice Ae ne ce] 34
        have hS1 := Hj.out.alloc (.cells #[.int .i64 k, .slice Ax nx cx, .int .i64 k2, .int .i64 m, .int .i64 p, .slice An nn cn, .slice Ak nk ck, .bool o, .int .i64 lm, .slice At nt ct, .slice Ah nh ch, .slice Ae ne ce] 34)
        have HN := Lib.hid hN
        have HS0 := Lib.hid hS1
        clear hih hN hS1 hmem hgt hdr huv hki htk hln2 hl0 hlj
        go_upto_region 8 with fail
        generalize wr.alloc (.cells #[.int .i64 k, .slice Ax nx cx, .int .i64 k2, .int .i64 m, .int .i64 p, .slice An nn cn, .slice Ak nk ck, .bool o, .int .i64 lm, .slice At nt ct, .slice Ah nh ch, .slice Ae ne ce] 34) = w5 at *
        clear c0 c1 c2 c3 c4 c5 c6 c7 c8 c9 c10 c11
        have c0 := HN.out.cell 0 _ rfl
        have c1 := HN.out.cell 1 _ rfl
        have c2 := HN.out.cell 2 _ rfl
        have c3 := HN.out.cell 3 _ rfl
        have c4 := HN.out.cell 4 _ rfl
        have c5 := HN.out.cell 5 _ rfl
        have c6 := HN.out.cell 6 _ rfl
        have c7 := HN.out.cell 7 _ rfl
        have c8 := HN.out.cell 8 _ rfl
        have c9 := HN.out.cell 9 _ rfl
        have c10 := HN.out.cell 10 _ rfl
        have c11 := HN.out.cell 11 _ rfl
        have hi5 := Hi.out lj w5 HS0.out.old HS0.out.wr Hlj.out
        have Hi5 := Lib.hid hi5
        clear hi5 Hi
        go_wp2_with fail
        refine Hi5.out.mono ?_
        rintro e w6 ⟨rfl, hw6, ht6⟩
        have HS6 := Lib.hid (HS0.out.put hB hw6 ht6)
        clear hw6 ht6 c0 c1 c2 c3 c4 c5 c6 c7 c8 c9 c10 c11 HN Hi5
        go_wp2_with fail
        go_roundw
        case rel => exact ⟨j + 1, by omega, by go_num, Lib.hid (by rw [Htk.out]; exact HS6.out)⟩
        case measure => simp [intOf]; omega
      · obtain rfl : j = cs.length := by omega
        have hS := Hj.out
        rw [List.take_length] at hS
        obtain ⟨_, v, hv1, hv2⟩ := hS.wr
        obtain ⟨A2, c2, rfl⟩ := own_sl hv2
        have x0 := hv1.cell 0 _ rfl
        have Hold := Lib.hid hS.old
        have hl0 := Hlen.out
        have hr2 := Hres2.out
        clear hS hv1 hv2 hlt
        generalize (cmdsTk cs).length = n at *
        by_cases h4 : 400 < n
        · rw [if_pos h4] at hr2
          subst hr2
          have h4' : (400 : Int) < (n : Int) := by omega
          go_wp2_with fail
          go_ret
          exact ⟨rfl, Hold.out⟩
        · rw [if_neg h4] at hr2
          subst hr2
          have h4' : ¬ (400 : Int) < (n : Int) := by omega
          go_wp2_with fail
          go_ret
          exact ⟨rfl, Hold.out⟩
  · have hqb : (q != 0) = true := by simpa using hq0
    have hres2 : res = q := by rw [← Hres.out, chkS, Hq.out, if_pos hq0]
    subst hres2
    clear hq0
    go_wp2_with fail
    go_ret
    exact ⟨rfl, Hb1.out⟩
end Go.Proofs.YtgmnoemkdigafaaDoor
namespace Go.Proofs.YtgmnoemkdigafaaDoor
open Go.RowKit Go.Maps Go.WideMaps
set_option linter.unusedVariables false

/-- What rule.Check answers. -/
def ruleR (cs : List Cmd) : Int := if chkS cs ≠ 0 then chkS cs else judR leafR [] cs
def ExtsAt (w : World) : Prop := ∀ i, i < extsS.length → w.cell? ⟨1, 0 + i, none⟩ = some (.string (extsS.getD i ByteArray.empty))
theorem ExtsAt.later {w w' : World} (hb : Below w.heap.size w w') (h : ExtsAt w) : ExtsAt w' := fun i hi => cell_later hb (h i hi)
/-- Behind the first command. -/
theorem cmds_slice {w : World} {x : Cmd} {l : List Cmd} {A : Option Addr} (c : Nat) (hA : CmdsAt w (x :: l) A) (hlc : l.length + 1 ≤ c) :
    ∃ A2, (∀ W : World, (Instr.slice 32 (.slice A (l.length + 1) c) (some (.int .i64 1)) none none).run Tryd.prog W = .ok (.slice A2 l.length (c - 1)) W) ∧ CmdsAt w l A2 := by
  refine ⟨if c = 1 then A else A.map (·.add (1 * 12)), fun W => ?_, ?_⟩
  · have hs : (sizeOf (Tryd.prog.elem 32)).run Tryd.prog W = .ok 12 W := by kernel_rfl
    rw [run_slice_l W 32 A (l.length + 1) c (by kernel_rfl) .i64 1 (by omega) (by omega), hs]
    rfl
  · unfold CmdsAt at hA
    obtain ⟨g, off, vs, rfl, _, _, h3⟩ := hA
    by_cases hc : c = 1
    · have : l = [] := List.eq_nil_of_length_eq_zero (by omega)
      subst this
      unfold CmdsAt; trivial
    · rw [if_neg hc]
      simp only [Option.map_some, Addr.add_lit]
      exact h3
/-- .. whose map lies in new memory. -/
def HasIn (B : Nat) (w : World) (j : Nat) (has : List ByteArray) : Prop := ∃ b, B ≤ b ∧ Bk w j [.map (some b)] 84 ∧ w.ownsMap Tryd.prog 9 unitElem b has.length (setD has)
theorem HasIn.toAt {B : Nat} {w : World} {j : Nat} {has : List ByteArray} (h : HasIn B w j has) : HasAt w j has := by
  obtain ⟨b, _, h1, h2⟩ := h
  exact ⟨b, h1, h2⟩
theorem HasIn.put {B : Nat} {w w' : World} {j b : Nat} {has : List ByteArray} {s : ByteArray} (h1 : Bk w j [.map (some b)] 84) (h2 : w'.ownsMap Tryd.prog 9 unitElem b (has.length + 1) ((setD has).put (keyL s) (.agg []))) (hg : w.grownBy w' (some b)) (hne : j ≠ b) (hB : B ≤ b) : HasIn B w' j (has ++ [s]) :=
  ⟨b, hB, h1.grown hg (fun e => hne (Option.some.inj e)), by rw [setD_snoc, List.length_append]; exact h2⟩
theorem inS_mem {l : List ByteArray} {s : ByteArray} : inS l s = true ↔ s ∈ l := by
  unfold inS
  rw [List.any_eq_true]
  exact ⟨fun ⟨a, h1, h2⟩ => by rw [of_decide_eq_true h2]; exact h1, fun h => ⟨s, h, by simp⟩⟩
theorem exts_in {s : ByteArray} {v : Bool} (h : inS extsS s = v) : Lib.containsS (extsS.take 4) s = v := by
  have e : extsS.take 4 = extsS := rfl
  rw [e, ← h, Bool.eq_iff_iff, Lib.containsS_iff, inS_mem]
theorem exts_size {s : ByteArray} (h : inS extsS s = true) : s.size ≤ maxLen := by
  have h := inS_mem.1 h
  unfold maxLen
  simp only [extsS, List.mem_cons, List.not_mem_nil, or_false] at h
  rcases h with rfl | rfl | rfl | rfl <;> decide
set_option maxRecDepth 100000 in
set_option maxHeartbeats 8000000 in
theorem rule_calls (cs : List Cmd) (hok : okCs cs) (A : Option Addr) (cp : Nat) (w : World) (hta : CmdsAt w cs A) (htab : TabsAt w) (hN : NamesAt w) (hX : ExtsAt w) (m : Int) (hm : w.cell? ⟨6, 0, none⟩ = some (.int .i64 m))
    (hln : cs.length ≤ 1000000) (hcp : cs.length ≤ cp) (hlen : (cmdsTk cs).length ≤ 700000) :
    Calls Tryd.prog 22 #[.slice A cs.length cp] w fun e w' => e = .returned (.int .i64 (ruleR cs)) ∧ Below w.heap.size w w' := by
  have hck := Check_calls cs hok A cp w hta htab hln hlen
  generalize hres : ruleR cs = res at *
  unfold ruleR at hres
  generalize hq : chkS cs = q at *
  have Hck := Lib.hid hck
  have Hres := Lib.hid hres
  have Hta := Lib.hid hta
  have Hok := Lib.hid hok
  have Hm := Lib.hid hm
  have HN := Lib.hid hN
  have HX := Lib.hid hX
  clear hck hres hta hok hm hN hX htab hq hlen
  have hmm := @run_makeMap Tryd.prog
  go_enter Tryd.func22, Tryd.ntmps22
  by_cases hq0 : q = 0
  · subst hq0
    have hr := Hres.out
    rw [if_neg (by simp)] at hr
    have Hr := Lib.hid hr
    clear hr Hres
    go_upto_region 5 with (go_at_call 15; refine Hck.out.mono ?_; rintro e w1 ⟨rfl, hb1⟩; have Hb1 := Lib.hid hb1; clear hb1)
    have hb3 : Below w.heap.size w ((w1.alloc (.map #[] 0)).alloc (.cells #[.map (some w1.heap.size)] 84)) := bal (bal Hb1.out _) _
    have hHas : HasIn w.heap.size ((w1.alloc (.map #[] 0)).alloc (.cells #[.map (some w1.heap.size)] 84)) (w1.heap.size + 1) [] := by
      refine ⟨w1.heap.size, Hb1.out.size, ?_, (World.ownsMap_made w1 Tryd.prog 9 unitElem).alloc _⟩
      have h := Bk.new (w1.alloc (.map #[] 0)) [.map (some w1.heap.size)] 84
      simpa using h
    have HHas := Lib.hid hHas
    have HB3 := Lib.hid hb3
    clear hb3 hHas Hck
    generalize (w1.alloc (.map #[] 0)).alloc (.cells #[.map (some w1.heap.size)] 84) = w3 at *
    generalize w1.heap.size + 1 = jb at *
    clear Hb1
    go_loopw [0] (fun v wr => ∃ (L : List Cmd) (hs : List ByteArray) (A' : Option Addr) (c' : Nat), v = .slice A' L.length c' ∧ L.length ≤ c' ∧ hs.length + L.length * 1000000 ≤ 1000000 * 1000000 ∧ Hid (CmdsAt w L A') ∧ Hid (okCs L) ∧ Hid (judR leafR hs L = res) ∧ Hid (HasIn w.heap.size wr jb hs) ∧ Hid (Below w.heap.size w wr)) (fun v _ => match v with | .slice _ n _ => n | _ => 0)
    case atStart => exact ⟨cs, [], A, cp, rfl, hcp, by simp; omega, Hta, Hok, Hr, HHas, HB3⟩
    case round =>
      obtain ⟨L, hs, A', c', rfl, hlc, hcnt, Hcl, Hokl, Hj, HH, Hbr⟩ := hrel
      clear Hta Hok Hr HHas HB3
      obtain rfl | ⟨c0, L', rfl⟩ : L = [] ∨ ∃ c0 L', L = c0 :: L' := by
        cases L with
        | nil => exact .inl rfl
        | cons c l => exact .inr ⟨c, l, rfl⟩
      · clear hcnt
        have hall := Lib.hid (rall_calls hs jb [] Hokl.out A' c' wr (cmdsAt_later Hbr.out _ A' Hcl.out) ⟨HH.out.toAt, NamesAt.later Hbr.out HN.out, m, cell_later Hbr.out Hm.out⟩ (by simp))
        have hr0 : judCs leafR (inS hs) [] = res := by rw [← Hj.out, judR, judCs]
        have Hr0 := Lib.hid hr0
        clear hr0
        simp only [List.length_nil] at *
        go_wp2_with (go_at_call 38; refine hall.out.mono ?_; rintro e w4 ⟨he, hb4⟩; rw [Hr0.out] at he; subst he; have Hb4 := Lib.hid hb4; clear hb4)
        go_ret
        exact ⟨(by first | rfl | trivial), btr Hbr.out Hb4.out⟩
      · obtain ⟨k, tx, t, th, el⟩ := c0
        have hcl := Hcl.out
        unfold CmdsAt at hcl
        obtain ⟨g, off, vs, rfl, hcells, hv, hrest⟩ := hcl
        obtain ⟨Ax, cx, k2, m2, p, lm, o, An, Ak, At, nn, cn, nk, ck, nt, ct, Ah, ch, Ae, ce, rfl, htx, htv, hth, hel, hle⟩ := cmdV_cells hv
        have x0 := cell_later Hbr.out (hcells 0 _ rfl)
        have x1 := cell_later Hbr.out (hcells 1 _ rfl)
        rw [Nat.add_zero] at x0
        have hpos : 0 < L'.length + 1 := by omega
        have hposi : (0 : Int) < ((L'.length + 1 : Nat) : Int) := by omega
        have hlen : (Cmd.mk k tx t th el :: L').length = L'.length + 1 := rfl
        have htl : tx.length ≤ 1000000 := hle.2.2.2.1
        by_cases hk : k = 1
        · subst hk
          have Htx := Lib.hid htx
          have hj : (if (tx.all fun s => inS extsS s) = false then (7 : Int) else judR leafR (hs ++ tx) L') = res := by
            have h := Hj.out
            rw [judR, if_pos (show (Cmd.mk 1 tx t th el).kind = 1 from rfl)] at h
            exact h
          have Hj2 := Lib.hid hj
          obtain ⟨A2, hrun, hA2⟩ := cmds_slice c' Hcl.out (by rw [← hlen]; exact hlc)
          have Hrest := Lib.hid hA2
          have hokl := Hokl.out
          unfold okCs at hokl
          have Hokl2 := Lib.hid hokl.2
          have hcnt2 : hs.length + tx.length + L'.length * 1000000 ≤ 1000000 * 1000000 := by rw [hlen] at hcnt; omega
          have hlc2 : L'.length ≤ c' - 1 := by rw [hlen] at hlc; omega
          rw [hlen]
          clear hj hv htv hth hel hle hcells hrest htx Hj Hokl Hcl hokl hA2 hlc hcnt hlen
          have Hrun := Lib.hid hrun
          clear hrun
          obtain ⟨wo, rfl⟩ : ∃ wo : World, wo = wr := ⟨_, rfl⟩
          go_upto_region 7 with fail
          clear x0 x1
          go_loopw [30] (fun i wr => ∃ r : Nat, r ≤ tx.length ∧ i = .int .i64 r ∧ Hid (((tx.take r).all fun s => inS extsS s) = true) ∧ Hid (HasIn w.heap.size wr jb (hs ++ tx.take r)) ∧ Hid (Below w.heap.size w wr)) (fun i _ => tx.length - (intOf i).toNat)
          case atStart => exact ⟨0, Nat.zero_le _, rfl, Lib.hid (by simp), Lib.hid (by simpa using HH.out), Hbr⟩
          case round =>
            obtain ⟨r, hr, rfl, Hr, HHi, Hbi⟩ := hrel
            by_cases hrl : r < tx.length
            · have hr0 : (0 : Int) ≤ (r : Int) := by omega
              have hrn : (r : Int) < (tx.length : Int) := by omega
              obtain ⟨g2, off2, s, rfl, hs0, hcs⟩ := txAt_get Htx.out hrl
              have cs0 := cell_later Hbi.out hcs
              have Hs := Lib.hid hs0
              have hcon := Lib.hid (fun W (hW : ExtsAt W) => Tryd.slices_Contains_string 1 0 4 4 extsS s W (by decide) (by decide) hW)
              have hX1 := HX.out.later Hbi.out
              clear hs0 hcs
              cases hin : inS extsS s with
              | false =>
                have hc0 : Lib.containsS (extsS.take 4) s = false := exts_in hin
                have hr7 : res = 7 := by rw [← Hj2.out, if_pos (all_false Hs.out hin)]
                have Hc0 := Lib.hid hc0
                have hX2 := Lib.hid hX1
                subst hr7
                clear hin hc0 hX1
                go_wp2_with (go_at_call 37; refine (hcon.out _ hX2.out).mono ?_; rintro e w5 ⟨he, hw⟩; rw [Hc0.out] at he; subst he; subst hw)
                go_ret
                exact ⟨(by first | rfl | trivial), Hbi.out⟩
              | true =>
                have hc0 : Lib.containsS (extsS.take 4) s = true := exts_in hin
                have Hin := Lib.hid hin
                have Hc0 := Lib.hid hc0
                have hX2 := Lib.hid hX1
                obtain ⟨mb, HMB, hbk, hown⟩ := HHi.out
                have c0 := hbk.cell 0 _ rfl
                have hne : jb ≠ mb := by
                  rintro rfl
                  obtain ⟨es, clock, h1, _⟩ := hown
                  unfold Bk at hbk
                  rw [h1] at hbk
                  simp at hbk
                have hsz : s.size ≤ maxLen := exts_size hin
                have hkey : keyOf Tryd.prog 9 (.string s) = some (keyL s) := keyOf_string_mk Tryd.underlying9 hsz
                have hnl : (hs ++ tx.take r).length < maxLen := by rw [List.length_append, List.length_take]; unfold maxLen; omega
                have hput : ∀ w5 : World, w5.ownsMap Tryd.prog 9 unitElem mb ((hs ++ tx.take r).length + 1) ((setD (hs ++ tx.take r)).put (keyL s) (.agg [])) → wr.grownBy w5 (some mb) → HasIn w.heap.size w5 jb (hs ++ tx.take (r + 1)) ∧ Below w.heap.size w w5 := fun w5 h1 h2 => by
                  have hb5 := HasIn.put hbk h1 h2 hne HMB
                  rw [List.append_assoc] at hb5
                  rw [List.take_add_one, Hs.out, Option.toList_some]
                  exact ⟨hb5, Hbi.out.grown h2 Hbi.out.size (fun k e => by cases e; exact HMB)⟩
                have Hput := Lib.hid hput
                have Hown := Lib.hid hown
                clear hin hc0 hX1 hbk hown hput hsz
                go_wp2_with (first
                  | (go_at_call 37; refine (hcon.out _ hX2.out).mono ?_; rintro e w5 ⟨he, hw⟩; rw [Hc0.out] at he; subst he; subst hw)
                  | (at_mapUpdate; refine wpList_mapUpdate_own _ rfl _ _ _ 82 rfl 9 87 (string_keyed Tryd.underlying9) Tryd.underlying82 unitElem mb (hs ++ tx.take r).length _ rfl Hown.out hnl _ _ (keyL s) rfl rfl hkey (.agg []) [] unitElem_mk ?_; intro w5 hown5 hgr5; have H5 := Lib.hid (Hput.out w5 hown5 hgr5); clear hown5 hgr5))
                go_roundw
                case rel => exact ⟨r + 1, by omega, by go_num, Lib.hid (all_take_succ Hs.out Hr.out Hin.out), Lib.hid H5.out.1, Lib.hid H5.out.2⟩
                case measure => simp [intOf]; omega
            · obtain rfl : r = tx.length := by omega
              have hra := Hr.out
              rw [List.take_length] at hra
              have hj := Hj2.out
              rw [if_neg (by rw [hra]; simp)] at hj
              have hhi := HHi.out
              rw [List.take_length] at hhi
              have Hj3 := Lib.hid hj
              have Hh3 := Lib.hid hhi
              have hrun := Hrun.out
              clear hra hj hhi Hr HHi Hj2
              go_wp2_with fail
              go_roundw
              case rel => exact ⟨L', hs ++ tx, A2, c' - 1, rfl, hlc2, by rw [List.length_append]; exact hcnt2, Hrest, Hokl2, Hj3, Hh3, Hbi⟩
              case measure => simp
        · have hkb : (k == 1) = false := by simpa using hk
          have hall := Lib.hid (rall_calls hs jb _ Hokl.out (some ⟨g, off, none⟩) c' wr (cmdsAt_later Hbr.out _ _ Hcl.out) ⟨HH.out.toAt, NamesAt.later Hbr.out HN.out, m, cell_later Hbr.out Hm.out⟩ (by omega))
          have hr0 : judCs leafR (inS hs) (.mk k tx t th el :: L') = res := by rw [← Hj.out, judR, if_neg (show ¬ (Cmd.mk k tx t th el).kind = 1 from hk)]
          have Hr0 := Lib.hid hr0
          rw [hlen] at hall ⊢
          clear hr0 hk hv htv hth hel hle hcells hrest htx Hj Hokl Hcl hlc hcnt hlen
          go_wp2_with (go_at_call 38; refine hall.out.mono ?_; rintro e w4 ⟨he, hb4⟩; rw [Hr0.out] at he; subst he; have Hb4 := Lib.hid hb4; clear hb4)
          go_ret
          exact ⟨(by first | rfl | trivial), btr Hbr.out Hb4.out⟩
  · have hqb : (q != 0) = true := by simpa using hq0
    have hr := Hres.out
    rw [if_pos hq0] at hr
    subst hr
    clear hq0 Hres
    go_wp2_with (go_at_call 15; refine Hck.out.mono ?_; rintro e w1 ⟨rfl, hb1⟩; have Hb1 := Lib.hid hb1; clear hb1)
    go_ret
    exact ⟨rfl, Hb1.out⟩
end Go.Proofs.YtgmnoemkdigafaaDoor
namespace Go.Proofs.YtgmnoemkdigafaaDoor
open Go.RowKit
set_option linter.unusedVariables false

theorem testV_cells {w : World} {t : Tst} {vs : List Value} (h : TestV w t vs) : ∃ (k m p lm : Int) (o : Bool) (An Ak At : Option Addr) (nn cn nk ck nt ct : Nat),
    vs = [.int .i64 k, .int .i64 m, .int .i64 p, .slice An nn cn, .slice Ak nk ck, .bool o, .int .i64 lm, .slice At nt ct] := by
  obtain ⟨k, m, p, ns, ks, o, lm, ts⟩ := t
  unfold TestV at h
  obtain ⟨An, cn, Ak, ck, At, ct, rfl, _⟩ := h
  exact ⟨k, m, p, lm, o, An, Ak, At, _, cn, _, ck, _, ct, rfl⟩
theorem stkV_cells {w : World} {x : Stk} {vs : List Value} (h : StkV w x vs) : ∃ (k a b : Int) (s t : ByteArray) (A : Option Addr) (n c : Nat), vs = [.int .i64 k, .int .i64 a, .int .i64 b, .string s, .string t, .slice A n c] := by
  obtain ⟨k, a, b, s, t, inn⟩ := x
  unfold StkV at h
  obtain ⟨A, c, rfl, _⟩ := h
  exact ⟨k, a, b, s, t, A, _, c, rfl⟩
/-- What Test gives back: a test's cells, that lie in new memory. -/
def TestA (t : Tst) (w : World) (e : Ending) (w' : World) : Prop :=
  ∃ (k m p lm : Int) (o : Bool) (An Ak At : Option Addr) (nn cn nk ck nt ct : Nat),
    e = .returned (.agg #[.int .i64 k, .int .i64 m, .int .i64 p, .slice An nn cn, .slice Ak nk ck, .bool o, .int .i64 lm, .slice At nt ct]) ∧
    Hid (∀ W, New w.heap.size w' W → TestV W t [.int .i64 k, .int .i64 m, .int .i64 p, .slice An nn cn, .slice Ak nk ck, .bool o, .int .i64 lm, .slice At nt ct]) ∧ Below w.heap.size w w'
theorem testA_of {t t' : Tst} {w : World} {args : Array Value} (h : Calls Tryd.prog 16 args w fun e w' => ∃ tv, e = .returned (.agg (List.toArray tv)) ∧ (∀ W, New w.heap.size w' W → TestV W t tv) ∧ Below w.heap.size w w') (ht : t' = t) :
    Calls Tryd.prog 16 args w (TestA t' w) := by
  subst ht
  refine h.mono ?_
  rintro e w' ⟨tv, rfl, h1, h2⟩
  obtain ⟨k, m, p, lm, o, An, Ak, At, nn, cn, nk, ck, nt, ct, rfl⟩ := testV_cells (h1 w' (New.refl _ _))
  exact ⟨k, m, p, lm, o, An, Ak, At, nn, cn, nk, ck, nt, ct, rfl, Lib.hid h1, h2⟩
theorem New.setN {C b j : Nat} {w W : World} {v : Value} (h : New C w W) (hb : b < C) : New C w (W.setCell ⟨b, j, none⟩ v) := fun k h1 h2 => by
  rw [Below.heap_setCell _ _ _ k (fun e => by have : k = b := e; omega)]
  exact h k h1 h2
theorem New.allocN {C : Nat} {w W : World} {o : Obj} (h : New C w W) (hs : w.heap.size ≤ W.heap.size) : New C w (W.alloc o) := fun k h1 h2 => by
  rw [← h k h1 h2]
  show (W.heap.push o)[k]? = W.heap[k]?
  rw [Array.getElem?_push, if_neg (by omega)]
end Go.Proofs.YtgmnoemkdigafaaDoor
namespace Go.Proofs.YtgmnoemkdigafaaDoor
open Go.RowKit
set_option linter.unusedVariables false

/-- What lies from block B on is as it was, but for the row's own block. -/
def AwayB (B : Nat) (r : Option Nat) (w W : World) : Prop := ∀ k, B ≤ k → k < w.heap.size → some k ≠ r → W.heap[k]? = w.heap[k]?
theorem AwayB.of_new {B : Nat} {r : Option Nat} {w W : World} (h : New B w W) : AwayB B r w W := fun k h1 h2 _ => h k h1 h2
/-- A row of one's own whose elements E holds of, whatever becomes of the row's block. -/
def Rowed {α : Type} (E : World → α → List Value → Prop) (e : TypeId) (sz B : Nat) (W : World) (v : Value) (xs : List α) : Prop :=
  ∃ vss : List (List Value), vss.length = xs.length ∧ (∀ vs ∈ vss, vs.length = sz) ∧ W.ownsRow B e sz v xs.length vss.flatten ∧ ∀ W', AwayB B v.ownBlock W W' → ∀ (i : Nat) x vs, xs[i]? = some x → vss[i]? = some vs → E W' x vs
section
variable {α : Type} {E : World → α → List Value → Prop} {e : TypeId} {sz B : Nat} {W W1 : World} {v : Value} {xs : List α}
theorem Rowed.nil : Rowed E e sz B W (.slice none 0 0) [] := ⟨[], rfl, fun vs h => absurd h (by simp), World.ownsRow_nil _ _ _ _, fun _ _ i x vs h => absurd h (by simp)⟩
theorem Rowed.later (h : Rowed E e sz B W v xs) (hb : Below W.heap.size W W1) : Rowed E e sz B W1 v xs := by
  obtain ⟨vss, h1, h2, h3, h4⟩ := h
  refine ⟨vss, h1, h2, row_later hb h3, fun W' hW => h4 W' fun k a1 a2 a3 => ?_⟩
  have := hb.size
  rw [hW k a1 (by omega) a3, hb.block k a2]
theorem Rowed.set (h : Rowed E e sz B W v xs) {b : Nat} (hb : b < B) (j : Nat) (u : Value) : Rowed E e sz B (W.setCell ⟨b, j, none⟩ u) v xs := by
  obtain ⟨vss, h1, h2, h3, h4⟩ := h
  refine ⟨vss, h1, h2, row_grown h3 (setCell_grown W b j u) (fun k hk e => ?_), fun W' hW => h4 W' fun k a1 a2 a3 => ?_⟩
  · have := own_base' h3 k hk
    have := Option.some.inj e
    omega
  · rw [hW k a1 (by simpa using a2) a3]
    exact Below.heap_setCell _ _ _ k (fun e => by have : k = b := e; omega)
theorem Rowed.own (h : Rowed E e sz B W v xs) : ∃ vss : List (List Value), W.ownsRow B e sz v xs.length vss.flatten := by
  obtain ⟨vss, _, _, h3, _⟩ := h
  exact ⟨vss, h3⟩
theorem Rowed.sl (h : Rowed E e sz B W v xs) : ∃ A c, v = .slice A xs.length c ∧ (∀ k, v.ownBlock = some k → k < W.heap.size) := by
  obtain ⟨vss, _, _, h3, _⟩ := h
  obtain ⟨A, c, rfl⟩ := own_sl h3
  refine ⟨A, c, rfl, fun k hk => ?_⟩
  rcases h3.2 with ⟨h, _⟩ | ⟨g, cap, cur, h, _, hg, _⟩
  · rw [h] at hk; simp [Value.ownBlock] at hk
  · rw [h] at hk
    obtain rfl : g = k := by simpa [Value.ownBlock] using hk
    exact (Array.getElem?_eq_some_iff.1 hg).1
/-- One more: W is the world ahead of the append, w8 behind it. -/
theorem Rowed.push (vss : List (List Value)) (h1 : vss.length = xs.length) (h2 : ∀ vs ∈ vss, vs.length = sz) (h3 : W.ownsRow B e sz v xs.length vss.flatten)
    (h4 : ∀ W', AwayB B v.ownBlock W W' → ∀ (i : Nat) x vs, xs[i]? = some x → vss[i]? = some vs → E W' x vs)
    {x : α} {vs : List Value} {C g cap : Nat} {w8 : World} (hl : vs.length = sz) (hC : B ≤ C) (hC2 : ∀ k, v.ownBlock = some k → k < C) (hx : ∀ W', New C W W' → E W' x vs)
    (ho : w8.ownsRow B e sz (.slice (some ⟨g, 0, none⟩) (xs.length + 1) cap) (xs.length + 1) (vss.flatten ++ vs)) (hg : W.grownBy w8 v.ownBlock) (hat : v.ownBlock = some g ∨ g = W.heap.size) :
    Rowed E e sz B w8 (.slice (some ⟨g, 0, none⟩) (xs.length + 1) cap) (xs ++ [x]) := by
  have hown : Value.ownBlock (.slice (some ⟨g, 0, none⟩) (xs.length + 1) cap) = some g := rfl
  have hkeep : ∀ W', AwayB B (some g) w8 W' → ∀ k, B ≤ k → k < W.heap.size → some k ≠ v.ownBlock → W'.heap[k]? = W.heap[k]? := fun W' hW k a1 a2 a3 => by
    have hs := hg.size
    have hne : k ≠ g := by
      rcases hat with h | h
      · rintro rfl; exact a3 h.symm
      · omega
    rw [hW k a1 (by omega) (fun e => hne (Option.some.inj e)), hg.block k a2 a3]
  refine ⟨vss ++ [vs], by simp [h1], fun u hu => ?_, by simpa using ho, fun W' hW i y us hi hu => ?_⟩
  · rcases List.mem_append.1 hu with h | h
    · exact h2 u h
    · obtain rfl := List.mem_singleton.1 h
      exact hl
  · rw [hown] at hW
    have hk := hkeep W' hW
    by_cases hlt : i < xs.length
    · rw [List.getElem?_append_left hlt] at hi
      rw [List.getElem?_append_left (by omega)] at hu
      exact h4 W' hk i y us hi hu
    · rw [List.getElem?_append_right (by omega)] at hi
      rw [List.getElem?_append_right (by omega)] at hu
      have hi0 : i - xs.length = 0 := by
        have := (List.getElem?_eq_some_iff.1 hi).1
        simp at this; omega
      rw [hi0] at hi
      rw [h1, hi0] at hu
      obtain rfl : x = y := by simpa using hi
      obtain rfl : vs = us := by simpa using hu
      exact hx W' fun k a1 a2 => hk k (by omega) a2 (fun e => by have := hC2 k e.symm; omega)
end
theorem flatten_get {sz : Nat} : ∀ (vss : List (List Value)) (i k : Nat) (vs : List Value) (u : Value), (∀ vs ∈ vss, vs.length = sz) → vss[i]? = some vs → vs[k]? = some u → vss.flatten[i * sz + k]? = some u
  | [], i, k, vs, u, _, h, _ => by simp at h
  | w :: l, 0, k, vs, u, hl, h, hk => by
    obtain rfl : w = vs := by simpa using h
    rw [List.flatten_cons, Nat.zero_mul, Nat.zero_add, List.getElem?_append_left (List.getElem?_eq_some_iff.1 hk).1]
    exact hk
  | w :: l, i + 1, k, vs, u, hl, h, hk => by
    have h0 := hl w (by simp)
    rw [List.flatten_cons, List.getElem?_append_right (by rw [h0, Nat.add_mul]; omega), show (i + 1) * sz + k - w.length = i * sz + k by rw [h0, Nat.add_mul]; omega]
    exact flatten_get l i k vs u (fun vs hv => hl vs (by simp [hv])) (by simpa using h) hk
/-- The row's cells, read where its block still stands. -/
theorem rowed_cells {α : Type} {E : World → α → List Value → Prop} {e : TypeId} {sz B : Nat} {W : World} {v : Value} {xs : List α} (h : Rowed E e sz B W v xs) :
    ∃ A c, v = .slice A xs.length c ∧ xs.length ≤ c ∧ ∀ W', New B W W' → (xs = [] ∨ ∃ g, A = some ⟨g, 0, none⟩ ∧ ∀ (i : Nat) x, xs[i]? = some x → ∃ vs, E W' x vs ∧ vs.length = sz ∧ ∀ k u, vs[k]? = some u → W'.cell? ⟨g, i * sz + k, none⟩ = some u) := by
  obtain ⟨vss, h1, h2, h3, h4⟩ := h
  obtain ⟨A, c, rfl⟩ := own_sl h3
  rcases h3.2 with ⟨h, hn⟩ | ⟨g, cap, cur, h, hB, hg, hle, _, _, htk⟩
  · simp only [Value.slice.injEq] at h
    exact ⟨A, c, rfl, by omega, fun _ _ => .inl (List.length_eq_zero_iff.1 hn)⟩
  · simp only [Value.slice.injEq] at h
    obtain ⟨rfl, _, rfl⟩ := h
    refine ⟨_, c, rfl, hle, fun W' hW => .inr ⟨g, rfl, fun i x hx => ?_⟩⟩
    have hi := (List.getElem?_eq_some_iff.1 hx).1
    obtain ⟨vs, hvs⟩ : ∃ vs, vss[i]? = some vs := ⟨vss[i]'(by omega), by simp⟩
    refine ⟨vs, h4 W' (AwayB.of_new hW) i x vs hx hvs, h2 vs (List.mem_of_getElem? hvs), fun k u hk => ?_⟩
    have hb : Bk W g cur.toList e := hg
    have hb2 := hb.neu hW hB
    refine hb2.cell _ _ ?_
    have hf := flatten_get vss i k vs u h2 hvs hk
    rw [← htk, List.getElem?_take] at hf
    split at hf
    · exact hf
    · cases hf
theorem testsAt_of {W : World} {g : Nat} : ∀ (ts : List Tst) (off : Nat), (∀ (i : Nat) x, ts[i]? = some x → ∃ vs, TestV W x vs ∧ vs.length = 8 ∧ ∀ k u, vs[k]? = some u → W.cell? ⟨g, off + i * 8 + k, none⟩ = some u) → TestsAt W ts (some ⟨g, off, none⟩)
  | [], off, h => by unfold TestsAt; trivial
  | t :: l, off, h => by
    unfold TestsAt
    obtain ⟨vs, h1, _, h2⟩ := h 0 t rfl
    refine ⟨g, off, vs, rfl, fun i v hi => by have := h2 i v hi; simpa using this, h1, testsAt_of l (off + 8) fun i x hx => ?_⟩
    obtain ⟨us, a1, a2, a3⟩ := h (i + 1) x (by simpa using hx)
    exact ⟨us, a1, a2, fun k u hk => by have := a3 k u hk; rwa [show off + 8 + i * 8 + k = off + (i + 1) * 8 + k by omega]⟩
theorem cmdsAt_of {W : World} {g : Nat} : ∀ (ts : List Cmd) (off : Nat), (∀ (i : Nat) x, ts[i]? = some x → ∃ vs, CmdV W x vs ∧ vs.length = 12 ∧ ∀ k u, vs[k]? = some u → W.cell? ⟨g, off + i * 12 + k, none⟩ = some u) → CmdsAt W ts (some ⟨g, off, none⟩)
  | [], off, h => by unfold CmdsAt; trivial
  | t :: l, off, h => by
    unfold CmdsAt
    obtain ⟨vs, h1, _, h2⟩ := h 0 t rfl
    refine ⟨g, off, vs, rfl, fun i v hi => by have := h2 i v hi; simpa using this, h1, cmdsAt_of l (off + 12) fun i x hx => ?_⟩
    obtain ⟨us, a1, a2, a3⟩ := h (i + 1) x (by simpa using hx)
    exact ⟨us, a1, a2, fun k u hk => by have := a3 k u hk; rwa [show off + 12 + i * 12 + k = off + (i + 1) * 12 + k by omega]⟩
/-- A row of tests, read as a test's tests. -/
theorem rowed_tests {B : Nat} {W : World} {v : Value} {ts : List Tst} (h : Rowed TestV 31 8 B W v ts) : ∃ A c, v = .slice A ts.length c ∧ ts.length ≤ c ∧ ∀ W', New B W W' → TestsAt W' ts A := by
  obtain ⟨A, c, e, hle, hc⟩ := rowed_cells h
  refine ⟨A, c, e, hle, fun W' hW => ?_⟩
  rcases hc W' hW with rfl | ⟨g, rfl, hx⟩
  · unfold TestsAt; trivial
  · exact testsAt_of ts 0 fun i x hi => by
      obtain ⟨vs, a1, a2, a3⟩ := hx i x hi
      exact ⟨vs, a1, a2, fun k u hk => by rw [Nat.zero_add]; exact a3 k u hk⟩
theorem rowed_cmds {B : Nat} {W : World} {v : Value} {ts : List Cmd} (h : Rowed CmdV 34 12 B W v ts) : ∃ A c, v = .slice A ts.length c ∧ ts.length ≤ c ∧ ∀ W', New B W W' → CmdsAt W' ts A := by
  obtain ⟨A, c, e, hle, hc⟩ := rowed_cells h
  refine ⟨A, c, e, hle, fun W' hW => ?_⟩
  rcases hc W' hW with rfl | ⟨g, rfl, hx⟩
  · unfold CmdsAt; trivial
  · exact cmdsAt_of ts 0 fun i x hi => by
      obtain ⟨vs, a1, a2, a3⟩ := hx i x hi
      exact ⟨vs, a1, a2, fun k u hk => by rw [Nat.zero_add]; exact a3 k u hk⟩
theorem stksAt_ptr {w : World} {l : List Stk} {A : Option Addr} (h : StksAt w l A) (hl : l ≠ []) : ∃ b off, A = some ⟨b, off, none⟩ := by
  cases l with
  | nil => exact absurd rfl hl
  | cons t l =>
    unfold StksAt at h
    obtain ⟨b, off, vs, rfl, _⟩ := h
    exact ⟨b, off, rfl⟩
theorem testV_row {w : World} {k : Int} {ts : List Tst} {A : Option Addr} {c : Nat} (h : TestsAt w ts A) (hl : ts.length ≤ c ∧ ts.length ≤ 1000000) : TestV w (.mk k 0 0 [] [] false 0 ts) [.int .i64 k, .int .i64 0, .int .i64 0, .slice none 0 0, .slice none 0 0, .bool false, .int .i64 0, .slice A ts.length c] := by
  unfold TestV
  exact ⟨none, 0, none, 0, A, c, rfl, .inl rfl, .inl rfl, h, by simp; omega⟩
theorem testsAt_one {w : World} {t : Tst} {tv : List Value} {q : Nat} (h : TestV w t tv) (hq : Bk w q tv 31) : TestsAt w [t] (some ⟨q, 0, none⟩) := by
  unfold TestsAt
  exact ⟨q, 0, tv, rfl, fun i v hi => by rw [Nat.zero_add]; exact hq.cell i v hi, h, by unfold TestsAt; trivial⟩
theorem info_tst : (Tryd.prog.info? 31).map (fun i => (i.zero, i.size, i.bytes)) = some (some (.agg #[.int .i64 0, .int .i64 0, .int .i64 0, .slice none 0 0, .slice none 0 0, .bool false, .int .i64 0, .slice none 0 0]), 8, 112) := by kernel_rfl
end Go.Proofs.YtgmnoemkdigafaaDoor
namespace Go.Proofs.YtgmnoemkdigafaaDoor
open Go.RowKit
set_option linter.unusedVariables false

/-- A command's cells, that lie in new memory. -/
def CmdA (c : Cmd) (w : World) (e : Ending) (w' : World) : Prop :=
  ∃ (k : Int) (Ax : Option Addr) (nx cx : Nat) (k2 m p lm : Int) (o : Bool) (An Ak At : Option Addr) (nn cn nk ck nt ct : Nat) (Ah : Option Addr) (nh ch : Nat) (Ae : Option Addr) (ne ce : Nat),
    e = .returned (.agg #[.int .i64 k, .slice Ax nx cx, .int .i64 k2, .int .i64 m, .int .i64 p, .slice An nn cn, .slice Ak nk ck, .bool o, .int .i64 lm, .slice At nt ct, .slice Ah nh ch, .slice Ae ne ce]) ∧
    Hid (∀ W, New w.heap.size w' W → CmdV W c [.int .i64 k, .slice Ax nx cx, .int .i64 k2, .int .i64 m, .int .i64 p, .slice An nn cn, .slice Ak nk ck, .bool o, .int .i64 lm, .slice At nt ct, .slice Ah nh ch, .slice Ae ne ce]) ∧ Below w.heap.size w w'
theorem cmdA_of {c c' : Cmd} {w : World} {args : Array Value} (h : Calls Tryd.prog 47 args w fun e w' => ∃ tv, e = .returned (.agg (List.toArray tv)) ∧ (∀ W, New w.heap.size w' W → CmdV W c tv) ∧ Below w.heap.size w w') (ht : c' = c) :
    Calls Tryd.prog 47 args w (CmdA c' w) := by
  subst ht
  refine h.mono ?_
  rintro e w' ⟨tv, rfl, h1, h2⟩
  obtain ⟨k, tx, t, th, el⟩ := c'
  obtain ⟨Ax, cx, k2, m, p, lm, o, An, Ak, At, nn, cn, nk, ck, nt, ct, Ah, ch, Ae, ce, rfl, _⟩ := cmdV_cells (h1 w' (New.refl _ _))
  exact ⟨k, Ax, _, cx, k2, m, p, lm, o, An, Ak, At, nn, cn, nk, ck, nt, ct, Ah, _, ch, Ae, _, ce, rfl, Lib.hid h1, h2⟩
theorem cmdV_leaf {W : World} {k : Int} {x : Stk} {txs : List ByteArray} {A : Option Addr} {n c : Nat} (h : TxAt W A txs) (he : (textsC k x, n, decide (n ≤ c)) = (txs, txs.length, true)) :
    CmdV W (leafC k x) [.int .i64 k, .slice A n c, .int .i64 0, .int .i64 0, .int .i64 0, .slice none 0 0, .slice none 0 0, .bool false, .int .i64 0, .slice none 0 0, .slice none 0 0, .slice none 0 0] := by
  simp only [Prod.mk.injEq, decide_eq_true_eq] at he
  obtain ⟨h1, h2, h3⟩ := he
  have hl := textsC_len k x
  rw [h1] at hl
  subst h2
  unfold leafC CmdV
  refine ⟨A, c, [.int .i64 0, .int .i64 0, .int .i64 0, .slice none 0 0, .slice none 0 0, .bool false, .int .i64 0, .slice none 0 0], none, 0, none, 0, by rw [h1]; rfl, by rw [h1]; exact h, ?_, by unfold CmdsAt; trivial, by unfold CmdsAt; trivial, by rw [h1]; simp; omega⟩
  unfold zeroT TestV
  exact ⟨none, 0, none, 0, none, 0, rfl, .inl rfl, .inl rfl, by unfold TestsAt; trivial, by simp⟩
end Go.Proofs.YtgmnoemkdigafaaDoor
namespace Go.Proofs.YtgmnoemkdigafaaDoor
open Go.RowKit
set_option linter.unusedVariables false

theorem txAt_at {W : World} {q off : Nat} {s : ByteArray} (h : W.cell? ⟨q, off, none⟩ = some (.string s)) : TxAt W (some ⟨q, off, none⟩) [s] :=
  .inr ⟨q, off, rfl, fun j s' hj => by
    match j with
    | 0 =>
      obtain rfl : s = s' := by simpa using hj
      exact h
    | j + 1 => simp at hj⟩
end Go.Proofs.YtgmnoemkdigafaaDoor
namespace Go.Proofs.YtgmnoemkdigafaaDoor
open Go.RowKit
set_option linter.unusedVariables false
set_option linter.unusedSimpArgs false

/-- Where a slice's cells lie: in the blocks from B on. -/
def SlAt (A : Option Addr) (c B : Nat) (w : World) : Prop := (A = none → c = 0) ∧ ∀ g off s, A = some ⟨g, off, s⟩ → B ≤ g ∧ g < w.heap.size
theorem rowed_slAt {α : Type} {E : World → α → List Value → Prop} {e : TypeId} {sz B n c : Nat} {W : World} {A : Option Addr} {xs : List α} (h : Rowed E e sz B W (.slice A n c) xs) : SlAt A c B W := by
  obtain ⟨vss, h1, h2, h3, h4⟩ := h
  rcases h3.2 with ⟨h, hn⟩ | ⟨g, cap, cur, h, hB, hg, _⟩
  · simp only [Value.slice.injEq] at h
    obtain ⟨rfl, _, rfl⟩ := h
    exact ⟨fun _ => rfl, fun g off s e => (by cases e)⟩
  · simp only [Value.slice.injEq] at h
    obtain ⟨rfl, _, rfl⟩ := h
    refine ⟨fun e => (by cases e), fun g' off s e => ?_⟩
    simp only [Option.some.injEq, Addr.mk.injEq] at e
    obtain ⟨rfl, _⟩ := e
    exact ⟨hB, (Array.getElem?_eq_some_iff.1 hg).1⟩
theorem SlAt.later {A : Option Addr} {c B : Nat} {w w' : World} (h : SlAt A c B w) (hs : w.heap.size ≤ w'.heap.size) : SlAt A c B w' :=
  ⟨h.1, fun g off s e => ⟨(h.2 g off s e).1, Nat.lt_of_lt_of_le (h.2 g off s e).2 hs⟩⟩
/-- Commands in a row of new memory. -/
def CmdsA (cs : List Cmd) (w : World) (e : Ending) (w' : World) : Prop :=
  ∃ (A : Option Addr) (c : Nat), e = .returned (.slice A cs.length c) ∧ cs.length ≤ c ∧ Hid (∀ W, New w.heap.size w' W → CmdsAt W cs A) ∧ Hid (SlAt A c w.heap.size w') ∧ Below w.heap.size w w'
theorem info_cmd2 : (Tryd.prog.info? 34).map (fun i => (i.zero, i.size, i.bytes)) = some (some (.agg #[.int .i64 0, .slice none 0 0, .int .i64 0, .int .i64 0, .int .i64 0, .slice none 0 0, .slice none 0 0, .bool false, .int .i64 0, .slice none 0 0, .slice none 0 0, .slice none 0 0]), 12, 192) := by kernel_rfl
set_option maxRecDepth 100000 in
set_option maxHeartbeats 8000000 in
theorem commands_of (cm : Stk → Cmd) (d : Int) (l : List Stk) (ih : ∀ (y : Stk), y ∈ l → ∀ (vs : List Value) (W : World), StkV W y vs → Calls Tryd.prog 47 #[.agg vs.toArray, .int .i64 d] W (CmdA (cm y) W)) (A : Option Addr) (c : Nat) (w : World) (hA : StksAt w l A) (hl : l.length ≤ 9223372036854775807) :
    Calls Tryd.prog 31 #[.slice A l.length c, .int .i64 d] w (CmdsA ((l.take 4).map cm) w) := by
  have Hih := Lib.hid ih
  have HA := Lib.hid hA
  clear ih hA
  generalize hcs : (l.take 4).map cm = cs
  have Hcs := Lib.hid hcs
  clear hcs
  obtain ⟨i0, hi, hz0, hz1, hz2⟩ := info_parts info_cmd2
  go_enter Tryd.func31, Tryd.ntmps31
  go_wp2_with fail
  go_loopw [5, 6] (fun out i wr => ∃ (j : Nat) (Ar : Option Addr) (cr : Nat), j ≤ l.length ∧ j ≤ 4 ∧ i = .int .i64 j ∧ out = .slice Ar j cr ∧ w.heap.size ≤ wr.heap.size ∧ Hid (Rowed CmdV 34 12 w.heap.size wr (.slice Ar j cr) ((l.take j).map cm)) ∧ Hid (Below w.heap.size w wr)) (fun _ i _ => 4 - (intOf i).toNat)
  case atStart => exact ⟨0, none, 0, Nat.zero_le _, Nat.zero_le _, rfl, rfl, Nat.le_refl _, Lib.hid Rowed.nil, Lib.hid (Below.refl _ _)⟩
  case round =>
    obtain ⟨j, Ar, cr, hj, hj4, rfl, rfl, hsz, Hrow, Hbr⟩ := hrel
    by_cases hlt : j < l.length ∧ j < 4
    · obtain ⟨hlt1, hlt2⟩ := hlt
      have hj0 : (0 : Int) ≤ (j : Int) := by omega
      have hj1 : (j : Int) < (l.length : Int) := by omega
      have hj2 : (j : Int) < 4 := by omega
      obtain ⟨sy, hsy⟩ : ∃ s, l[j]? = some s := ⟨l[j], by simp [hlt1]⟩
      obtain ⟨g, off, rfl⟩ := stksAt_ptr HA.out (by rintro rfl; simp at hlt1)
      obtain ⟨vs, hcl, hv⟩ := stksAt_get l g off j sy HA.out hsy
      obtain ⟨yk, ya, yb, ys, yt, YA, yn, yc, rfl⟩ := stkV_cells hv
      have v0 := cell_later Hbr.out (hcl 0 _ rfl)
      have v1 := cell_later Hbr.out (hcl 1 _ rfl)
      have v2 := cell_later Hbr.out (hcl 2 _ rfl)
      have v3 := cell_later Hbr.out (hcl 3 _ rfl)
      have v4 := cell_later Hbr.out (hcl 4 _ rfl)
      have v5 := cell_later Hbr.out (hcl 5 _ rfl)
      simp only [Nat.add_zero] at v0
      have hcall := Hih.out sy (List.mem_of_getElem? hsy) _ wr (stkV_later Hbr.out sy _ hv)
      have Hcall := Lib.hid hcall
      clear hcall hcl hv
      go_upto_region 6 with (go_at_call 47; (refine Hcall.out.mono ?_); rintro e w9 ⟨k1, Ax1, nx1, cx1, k2, m2, p2, lm2, o2, An2, Ak2, At2, nn2, cn2, nk2, ck2, nt2, ct2, Ah1, nh1, ch1, Ae1, ne1, ce1, rfl, HTy, hb9⟩; have Hb9 := Lib.hid hb9; clear hb9)
      have hba := btr Hb9.out (bal (Below.refl _ w9) (.cells #[.int .i64 k1, .slice Ax1 nx1 cx1, .int .i64 k2, .int .i64 m2, .int .i64 p2, .slice An2 nn2 cn2, .slice Ak2 nk2 ck2, .bool o2, .int .i64 lm2, .slice At2 nt2 ct2, .slice Ah1 nh1 ch1, .slice Ae1 ne1 ce1] 34))
      have HL := Lib.hid (Bk.new w9 [.int .i64 k1, .slice Ax1 nx1 cx1, .int .i64 k2, .int .i64 m2, .int .i64 p2, .slice An2 nn2 cn2, .slice Ak2 nk2 ck2, .bool o2, .int .i64 lm2, .slice At2 nt2 ct2, .slice Ah1 nh1 ch1, .slice Ae1 ne1 ce1] 34)
      have Hrowa := Lib.hid (Hrow.out.later hba)
      have Hba := Lib.hid (btr Hbr.out hba)
      obtain ⟨_, _, hsl, hown⟩ := Hrow.out.sl
      have hs9 := Hb9.out.size
      have hsa : (w9.alloc (.cells #[.int .i64 k1, .slice Ax1 nx1 cx1, .int .i64 k2, .int .i64 m2, .int .i64 p2, .slice An2 nn2 cn2, .slice Ak2 nk2 ck2, .bool o2, .int .i64 lm2, .slice At2 nt2 ct2, .slice Ah1 nh1 ch1, .slice Ae1 ne1 ce1] 34)).heap.size = w9.heap.size + 1 := by simp
      have hny : ∀ W', New wr.heap.size (w9.alloc (.cells #[.int .i64 k1, .slice Ax1 nx1 cx1, .int .i64 k2, .int .i64 m2, .int .i64 p2, .slice An2 nn2 cn2, .slice Ak2 nk2 ck2, .bool o2, .int .i64 lm2, .slice At2 nt2 ct2, .slice Ah1 nh1 ch1, .slice Ae1 ne1 ce1] 34)) W' → CmdV W' (cm sy) [.int .i64 k1, .slice Ax1 nx1 cx1, .int .i64 k2, .int .i64 m2, .int .i64 p2, .slice An2 nn2 cn2, .slice Ak2 nk2 ck2, .bool o2, .int .i64 lm2, .slice At2 nt2 ct2, .slice Ah1 nh1 ch1, .slice Ae1 ne1 ce1] := fun W' hW => HTy.out W' fun k q1 q2 => by
        rw [hW k q1 (by omega)]
        show (w9.heap.push _)[k]? = w9.heap[k]?
        rw [Array.getElem?_push, if_neg (by omega)]
      have Hny := Lib.hid hny
      have Hown := Lib.hid hown
      clear hba hny hown hsl v0 v1 v2 v3 v4 v5 Hrow Hbr Hcall HTy Hb9
      generalize w9.alloc (.cells #[.int .i64 k1, .slice Ax1 nx1 cx1, .int .i64 k2, .int .i64 m2, .int .i64 p2, .slice An2 nn2 cn2, .slice Ak2 nk2 ck2, .bool o2, .int .i64 lm2, .slice At2 nt2 ct2, .slice Ah1 nh1 ch1, .slice Ae1 ne1 ce1] 34) = wa at *
      have l0 := HL.out.cell 0 _ rfl
      have l1 := HL.out.cell 1 _ rfl
      have l2 := HL.out.cell 2 _ rfl
      have l3 := HL.out.cell 3 _ rfl
      have l4 := HL.out.cell 4 _ rfl
      have l5 := HL.out.cell 5 _ rfl
      have l6 := HL.out.cell 6 _ rfl
      have l7 := HL.out.cell 7 _ rfl
      have l8 := HL.out.cell 8 _ rfl
      have l9 := HL.out.cell 9 _ rfl
      have l10 := HL.out.cell 10 _ rfl
      have l11 := HL.out.cell 11 _ rfl
      have Hrowb := Lib.hid (Hrowa.out.later (bal (Below.refl _ wa) (.cells #[.int .i64 k1, .slice Ax1 nx1 cx1, .int .i64 k2, .int .i64 m2, .int .i64 p2, .slice An2 nn2 cn2, .slice Ak2 nk2 ck2, .bool o2, .int .i64 lm2, .slice At2 nt2 ct2, .slice Ah1 nh1 ch1, .slice Ae1 ne1 ce1] 34)))
      obtain ⟨vss, r1, r2, r3, r4⟩ := Hrowb.out
      have hlenj : ((l.take j).map cm).length = j := by rw [List.length_map, List.length_take]; omega
      rw [hlenj] at r1 r3
      have hfin : ∀ (g' cap : Nat) (w12 : World), w12.ownsRow w.heap.size 34 12 (.slice (some ⟨g', 0, none⟩) (j + 1) cap) (j + 1) (vss.flatten ++ [.int .i64 k1, .slice Ax1 nx1 cx1, .int .i64 k2, .int .i64 m2, .int .i64 p2, .slice An2 nn2 cn2, .slice Ak2 nk2 ck2, .bool o2, .int .i64 lm2, .slice At2 nt2 ct2, .slice Ah1 nh1 ch1, .slice Ae1 ne1 ce1]) → (wa.alloc (.cells #[.int .i64 k1, .slice Ax1 nx1 cx1, .int .i64 k2, .int .i64 m2, .int .i64 p2, .slice An2 nn2 cn2, .slice Ak2 nk2 ck2, .bool o2, .int .i64 lm2, .slice At2 nt2 ct2, .slice Ah1 nh1 ch1, .slice Ae1 ne1 ce1] 34)).grownBy w12 (Value.ownBlock (.slice Ar j cr)) → ((Value.slice Ar j cr).ownBlock = some g' ∨ g' = (wa.alloc (.cells #[.int .i64 k1, .slice Ax1 nx1 cx1, .int .i64 k2, .int .i64 m2, .int .i64 p2, .slice An2 nn2 cn2, .slice Ak2 nk2 ck2, .bool o2, .int .i64 lm2, .slice At2 nt2 ct2, .slice Ah1 nh1 ch1, .slice Ae1 ne1 ce1] 34)).heap.size) → Hid (Rowed CmdV 34 12 w.heap.size w12 (.slice (some ⟨g', 0, none⟩) (j + 1) cap) ((l.take (j + 1)).map cm) ∧ Below w.heap.size w w12 ∧ w.heap.size ≤ w12.heap.size) := fun g' cap w12 ho hg hat => by
        have hp := Rowed.push (xs := (l.take j).map cm) (x := cm sy) (vs := [.int .i64 k1, .slice Ax1 nx1 cx1, .int .i64 k2, .int .i64 m2, .int .i64 p2, .slice An2 nn2 cn2, .slice Ak2 nk2 ck2, .bool o2, .int .i64 lm2, .slice At2 nt2 ct2, .slice Ah1 nh1 ch1, .slice Ae1 ne1 ce1]) (C := wr.heap.size) (g := g') (cap := cap) (w8 := w12) (W := wa.alloc (.cells #[.int .i64 k1, .slice Ax1 nx1 cx1, .int .i64 k2, .int .i64 m2, .int .i64 p2, .slice An2 nn2 cn2, .slice Ak2 nk2 ck2, .bool o2, .int .i64 lm2, .slice At2 nt2 ct2, .slice Ah1 nh1 ch1, .slice Ae1 ne1 ce1] 34)) vss (by rw [hlenj]; exact r1) r2 (by rw [hlenj]; exact r3) r4 rfl hsz (fun k hk => Hown.out k hk) (fun W' hW => Hny.out W' (fun k q1 q2 => by
            rw [hW k q1 (by simp; omega)]
            show (wa.heap.push _)[k]? = wa.heap[k]?
            rw [Array.getElem?_push, if_neg (by omega)])) (by rw [hlenj]; exact ho) hg hat
        rw [hlenj] at hp
        have htk : (l.take (j + 1)).map cm = (l.take j).map cm ++ [cm sy] := by rw [List.take_add_one, hsy, Option.toList_some, List.map_append]; rfl
        rw [htk]
        refine Lib.hid ⟨hp, ((Hba.out.alloc Hba.out.size _).grown hg (by have := Hba.out.size; simp; omega) (fun k e => own_base' r3 k e)), ?_⟩
        have := hg.size
        simp at this ⊢
        omega
      have Hfin := Lib.hid hfin
      clear hfin
      have Hnw := Lib.hid (bk_newN wa (w9.heap.size + 1) [.int .i64 k1, .slice Ax1 nx1 cx1, .int .i64 k2, .int .i64 m2, .int .i64 p2, .slice An2 nn2 cn2, .slice Ak2 nk2 ck2, .bool o2, .int .i64 lm2, .slice At2 nt2 ct2, .slice Ah1 nh1 ch1, .slice Ae1 ne1 ce1] 34 hsa)
      go_wp2_with (at_builtin; refine wpList_append_lies _ rfl _ _ 32 rfl w.heap.size 34 i0 _ 12 192 Tryd.underlying32 hi hz0 hz1 hz2 rfl (by omega) (.slice Ar j cr) j vss.flatten rfl r3 ⟨w9.heap.size + 1, 0, none⟩ 1 1 [.int .i64 k1, .slice Ax1 nx1 cx1, .int .i64 k2, .int .i64 m2, .int .i64 p2, .slice An2 nn2 cn2, .slice Ak2 nk2 ck2, .bool o2, .int .i64 lm2, .slice At2 nt2 ct2, .slice Ah1 nh1 ch1, .slice Ae1 ne1 ce1] rfl rfl (World.news_of_block (cs := #[.int .i64 k1, .slice Ax1 nx1 cx1, .int .i64 k2, .int .i64 m2, .int .i64 p2, .slice An2 nn2 cn2, .slice Ak2 nk2 ck2, .bool o2, .int .i64 lm2, .slice At2 nt2 ct2, .slice Ah1 nh1 ch1, .slice Ae1 ne1 ce1]) (t := 34) (fr := (0, 0)) Hnw.out) (by simp [Value.oneCell']) (by omega) (by unfold maxLen; omega) (by omega) (by simp; omega) _ rfl ?_; intro g' cap w12 hown9 hgrow9 hat9 hglt9; have Hf := Hfin.out g' cap w12 hown9 hgrow9 hat9; clear hown9 hgrow9 hat9)
      go_roundw
      case rel =>
        obtain ⟨q1, q2, q3⟩ := Hf.out
        exact ⟨j + 1, some ⟨g', 0, none⟩, cap, by omega, by omega, by go_num, rfl, q3, Lib.hid q1, Lib.hid q2⟩
      case measure => simp [intOf]; omega
    · have hend : l.take j = l.take 4 := by
        by_cases h : j = 4
        · rw [h]
        · rw [List.take_of_length_le (by omega), List.take_of_length_le (by omega)]
      have hrow := Hrow.out
      rw [hend, Hcs.out] at hrow
      have hlenj : cs.length = j := by rw [← Hcs.out, ← hend, List.length_map, List.length_take]; omega
      have Hrow4 := Lib.hid hrow
      have Hl := Lib.hid hlenj
      clear hrow Hrow hend hlenj
      rcases (show l.length ≤ j ∨ (j < l.length ∧ 4 ≤ j) by omega) with hq | ⟨hq, hq4⟩
      · have q1 : ¬ ((j : Int) < (l.length : Int)) := by omega
        go_wp2_with fail
        refine bodyPost_ret (results_tmp rfl _ _ _) rfl ?_
        obtain ⟨A2, c2, hA2, hc2, hts⟩ := rowed_cmds Hrow4.out
        simp only [Value.slice.injEq] at hA2
        obtain ⟨rfl, _, rfl⟩ := hA2
        refine ⟨Ar, cr, ?_, hc2, Lib.hid hts, Lib.hid (rowed_slAt Hrow4.out), Hbr.out⟩
        rw [Hl.out]; rfl
      · have q1 : (j : Int) < (l.length : Int) := by omega
        have q2 : ¬ ((j : Int) < 4) := by omega
        go_wp2_with fail
        refine bodyPost_ret (results_tmp rfl _ _ _) rfl ?_
        obtain ⟨A2, c2, hA2, hc2, hts⟩ := rowed_cmds Hrow4.out
        simp only [Value.slice.injEq] at hA2
        obtain ⟨rfl, _, rfl⟩ := hA2
        refine ⟨Ar, cr, ?_, hc2, Lib.hid hts, Lib.hid (rowed_slAt Hrow4.out), Hbr.out⟩
        rw [Hl.out]; rfl
end Go.Proofs.YtgmnoemkdigafaaDoor
namespace Go.Proofs.YtgmnoemkdigafaaDoor
open Go.RowKit
set_option linter.unusedVariables false

theorem tstV_one {w : World} {t : Tst} {vs : List Value} (h : TestV w t vs) : ∀ u ∈ vs, u.oneCell' = true := by
  obtain ⟨k, m, p, lm, o, An, Ak, At, nn, cn, nk, ck, nt, ct, rfl⟩ := testV_cells h
  simp [Value.oneCell']
theorem cmdV_one {w : World} {c : Cmd} {vs : List Value} (h : CmdV w c vs) : ∀ u ∈ vs, u.oneCell' = true := by
  obtain ⟨k, tx, t, th, el⟩ := c
  obtain ⟨Ax, cx, k2, m, p, lm, o, An, Ak, At, nn, cn, nk, ck, nt, ct, Ah, ch, Ae, ce, rfl, _⟩ := cmdV_cells h
  simp [Value.oneCell']
/-- The cells of commands that lie in a row. -/
theorem cmdsAt_cells {w : World} : ∀ (ys : List Cmd) (g off : Nat), CmdsAt w ys (some ⟨g, off, none⟩) → ∃ vss : List (List Value), vss.length = ys.length ∧ (∀ vs ∈ vss, vs.length = 12) ∧ (∀ vs ∈ vss, ∀ u ∈ vs, u.oneCell' = true) ∧
    (∀ j u, vss.flatten[j]? = some u → w.cell? ⟨g, off + j, none⟩ = some u) ∧ ∀ (i k : Nat) vs u, vss[i]? = some vs → vs[k]? = some u → w.cell? ⟨g, off + i * 12 + k, none⟩ = some u
  | [], g, off, h => ⟨[], rfl, by simp, by simp, by simp, by simp⟩
  | y :: ys, g, off, h => by
    unfold CmdsAt at h
    obtain ⟨b, off', vs, e, h1, h2, h3⟩ := h
    simp only [Option.some.injEq, Addr.mk.injEq, and_true] at e
    obtain ⟨rfl, rfl⟩ := e
    obtain ⟨vss, a1, a2, a3, a4, a5⟩ := cmdsAt_cells ys g (off + 12) h3
    have hl := cmdV_len h2
    refine ⟨vs :: vss, by simp [a1], fun u hu => ?_, fun u hu => ?_, fun j u hj => ?_, fun i k us u hi hk => ?_⟩
    · rcases List.mem_cons.1 hu with rfl | hu
      · exact hl
      · exact a2 u hu
    · rcases List.mem_cons.1 hu with rfl | hu
      · exact cmdV_one h2
      · exact a3 u hu
    · rw [List.flatten_cons] at hj
      by_cases hlt : j < 12
      · rw [List.getElem?_append_left (by omega)] at hj
        exact h1 j u hj
      · rw [List.getElem?_append_right (by omega), hl] at hj
        have := a4 (j - 12) u hj
        rwa [show off + 12 + (j - 12) = off + j by omega] at this
    · cases i with
      | zero =>
        obtain rfl : vs = us := by simpa using hi
        have := h1 k u hk
        simpa using this
      | succ i =>
        have := a5 i k us u (by simpa using hi) hk
        rwa [show off + 12 + i * 12 + k = off + (i + 1) * 12 + k by omega] at this
theorem list_ext12 {a b : List Value} (ha : a.length = 12) (hb : b.length = 12) (h : ∀ (k : Nat) u v, a[k]? = some u → b[k]? = some v → u = v) : a = b := by
  apply List.ext_getElem (by omega)
  intro i h1 h2
  exact h i _ _ (by simp [h1]) (by simp [h2])
/-- Appending commands to a row of one's own. -/
theorem wpList_append_cmds {w : World} {ops : Array Oper} {rest : List Oper} {o : Oper} {a : Act} {Q : Exit → Act → World → Prop} (hgd : o.guard = none) (s x : Operand)
    (ho : o.op = .call { callee := .builtin .append, args := #[s, x], argTypes := #[32, 32] })
    (B : Nat) (v : Value) (xs ys : List Cmd) (hs : a.eval s = v) (hrow : Rowed CmdV 34 12 B w v xs) (A : Option Addr) (c : Nat) (hx : a.eval x = .slice A ys.length c) (hA : A = none → c = 0)
    (hg : ys ≠ [] → ∀ g off, A = some ⟨g, off, none⟩ → B ≤ g ∧ some g ≠ v.ownBlock)
    (hy : ∀ W', AwayB B v.ownBlock w W' → CmdsAt W' ys A) (hlen : xs.length + ys.length ≤ 1000) (hB : B ≤ w.heap.size)
    (h : ∀ v' w', Rowed CmdV 34 12 B w' v' (xs ++ ys) → w.grownBy w' v.ownBlock → (v'.ownBlock = v.ownBlock ∨ v'.ownBlock = some w.heap.size) → wpList Tryd.prog ops Q rest (a.put o.dst v') w') :
    wpList Tryd.prog ops Q (o :: rest) a w := by
  obtain ⟨i0, hi, hz0, hz1, hz2⟩ := info_parts info_cmd2
  have hrow0 := hrow
  obtain ⟨vss, r1, r2, r3, r4⟩ := hrow
  have hrefl : AwayB B v.ownBlock w w := fun _ _ _ _ => rfl
  have hy0 := hy w hrefl
  rcases A with _ | ad
  · have hnil : ys = [] := by
      cases ys with
      | nil => rfl
      | cons y ys =>
        unfold CmdsAt at hy0
        obtain ⟨b, off, vs, e, _⟩ := hy0
        cases e
    subst hnil
    obtain rfl := hA rfl
    refine wpList_append_own_none hgd s x _ ho B 34 i0 12 Tryd.underlying32 hi v xs.length vss.flatten hs r3 hx (h _ _ ?_ ⟨rfl, rfl, rfl, Nat.le_refl _, fun _ _ _ => rfl⟩ (.inl rfl))
    rw [List.append_nil]; exact hrow0
  · have hcells : ∃ ns : List (List Value), ns.length = ys.length ∧ (∀ vs ∈ ns, vs.length = 12) ∧ (∀ vs ∈ ns, ∀ u ∈ vs, u.oneCell' = true) ∧ (∀ j u, ns.flatten[j]? = some u → w.cell? (ad.add j) = some u) ∧
        ∀ W', AwayB B v.ownBlock w W' → ∀ (i : Nat) x vs, ys[i]? = some x → ns[i]? = some vs → CmdV W' x vs := by
      by_cases hn : ys = []
      · subst hn
        exact ⟨[], rfl, by simp, by simp, by simp, by simp⟩
      · obtain ⟨g, off, e⟩ := cmdsAt_ptr hy0 hn
        simp only [Option.some.injEq] at e
        subst e
        obtain ⟨ns, a1, a2, a3, a4, a5⟩ := cmdsAt_cells ys g off hy0
        obtain ⟨g1, g2⟩ := hg hn g off rfl
        refine ⟨ns, a1, a2, a3, fun j u hj => by rw [Addr.add_lit]; exact a4 j u hj, fun W' hW i y vs hyi hvi => ?_⟩
        obtain ⟨us, b1, b2⟩ := cmdsAt_get ys g off i y (hy W' hW) hyi
        have hlu := cmdV_len b2
        have hlv := a2 vs (List.mem_of_getElem? hvi)
        have heq : vs = us := list_ext12 hlv hlu fun k u u' hk hk' => by
          have e1 := a5 i k vs u hvi hk
          have e2 := b1 k u' hk'
          obtain ⟨ob, ho1, _⟩ := cells_of_cell e1
          have hlt : g < w.heap.size := (Array.getElem?_eq_some_iff.1 ho1).1
          have e3 : W'.cell? ⟨g, off + i * 12 + k, none⟩ = w.cell? ⟨g, off + i * 12 + k, none⟩ := World.cell?_of_block (hW g g1 hlt g2)
          rw [e3, e1] at e2
          exact Option.some.inj e2
        rw [heq]; exact b2
    obtain ⟨ns, a1, a2, a3, a4, a5⟩ := hcells
    have hnl : ns.flatten.length = ys.length * 12 := by
      rw [List.length_flatten]
      have : ∀ l : List (List Value), (∀ vs ∈ l, vs.length = 12) → (l.map List.length).sum = l.length * 12 := by
        intro l
        induction l with
        | nil => intro _; rfl
        | cons z l ih =>
          intro hz
          rw [List.map_cons, List.sum_cons, ih (fun vs hv => hz vs (by simp [hv])), hz z (by simp), List.length_cons]
          omega
      rw [this ns a2, a1]
    refine wpList_append_own_at w hgd s x _ ho B 34 i0 _ 12 192 Tryd.underlying32 hi hz0 hz1 hz2 rfl (by decide) v xs.length vss.flatten hs r3 ad ys.length c ns.flatten hx hnl a4 ?_ (by unfold maxLen; omega) (by omega) hB ?_
    · intro u hu
      obtain ⟨vs, h1, h2⟩ := List.mem_flatten.1 hu
      exact a3 vs h1 u h2
    · intro v' w' ho2 hgr _ hat
      refine h v' w' ⟨vss ++ ns, by simp [r1, a1], fun u hu => ?_, by rw [List.length_append, List.flatten_append]; exact ho2, fun W' hW i y us hi hu => ?_⟩ hgr hat
      · rcases List.mem_append.1 hu with h | h
        · exact r2 u h
        · exact a2 u h
      · have hk : AwayB B v.ownBlock w W' := fun k b1 b2 b3 => by
          have hs := hgr.size
          have hne : some k ≠ v'.ownBlock := by
            rcases hat with h | h
            · rw [h]; exact b3
            · rw [h]; intro e; have := Option.some.inj e; omega
          rw [hW k b1 (by omega) hne, hgr.block k b2 b3]
        by_cases hlt : i < xs.length
        · rw [List.getElem?_append_left hlt] at hi
          rw [List.getElem?_append_left (by omega)] at hu
          exact r4 W' hk i y us hi hu
        · rw [List.getElem?_append_right (by omega)] at hi
          rw [List.getElem?_append_right (by omega), r1] at hu
          exact a5 W' hk _ y us hi hu
end Go.Proofs.YtgmnoemkdigafaaDoor
namespace Go.Proofs.YtgmnoemkdigafaaDoor
open Go.RowKit
set_option linter.unusedVariables false

theorem stks_of {w : World} {a : Addr} : ∀ (len : Nat), (∀ i, i < len → ∃ s cs, StkV w s cs ∧ ∀ k u, cs[k]? = some u → w.cell? ((a.add (i * 6)).add k) = some u) → ∃ l : List Stk, l.length = len ∧ StksAt w l (some a) := by
  intro len one
  by_cases h0 : len = 0
  · subst h0
    exact ⟨[], rfl, by unfold StksAt; trivial⟩
  · have hpl : a.spot = none := by
      obtain ⟨s, cs, hv, hc⟩ := one 0 (by omega)
      obtain ⟨k, x, y, s, t, inn⟩ := s
      unfold StkV at hv
      obtain ⟨A, c, rfl, _⟩ := hv
      have h2 := cell_plain (hc 0 _ rfl)
      revert h2
      unfold Addr.add
      split <;> simp_all
    obtain ⟨b, off, spot⟩ := a
    have hpl : spot = none := hpl
    subst hpl
    have all : ∀ m, m ≤ len → ∃ l : List Stk, l.length = m ∧ StksAt w l (some ⟨b, off + (len - m) * 6, none⟩) := by
      intro m
      induction m with
      | zero => exact fun _ => ⟨[], rfl, by unfold StksAt; trivial⟩
      | succ m ih =>
        intro hm
        obtain ⟨l, hl, hs⟩ := ih (by omega)
        obtain ⟨s, cs, hv, hc⟩ := one (len - (m + 1)) (by omega)
        refine ⟨s :: l, by simp [hl], ?_⟩
        unfold StksAt
        refine ⟨b, off + (len - (m + 1)) * 6, cs, rfl, fun i v hi => ?_, hv, ?_⟩
        · have h4 := hc i v hi
          rw [add_plain (show (⟨b, off, none⟩ : Addr).spot = none from rfl), add_plain rfl] at h4
          exact h4
        · rw [show off + (len - (m + 1)) * 6 + 6 = off + (len - m) * 6 by
            have : len - m = len - (m + 1) + 1 := by omega
            rw [this]; omega]
          exact hs
    obtain ⟨l, hl, hs⟩ := all len (Nat.le_refl _)
    refine ⟨l, hl, ?_⟩
    rw [Nat.sub_self, Nat.zero_mul, Nat.add_zero] at hs
    exact hs
set_option maxRecDepth 100000 in
theorem stk_opens {H : Type} (enc : TypeId × Value → H) (w : World) (base : Nat) (spare : Nat → Bool) (held : Bool) : ∀ (N fuel : Nat) (cs : List Value) (x : DataW H × List MemPlace), fuel ≤ N → DataW.trod enc Tryd.prog w base spare held fuel 39 cs = some x → ∃ s : Stk, StkV w s cs
  | 0, fuel, cs, x, hN, hx => by
    obtain ⟨xs, n, h, _⟩ := DataW.trod_struct Tryd.underlying39 hx
    omega
  | N + 1, fuel, cs, x, hN, hx => by
    obtain ⟨xs, n, rfl, _, hl, hxs, hget⟩ := DataW.trod_struct Tryd.underlying39 hx
    have hl6 : cs.length = 6 := by rw [hl]; kernel_rfl
    have hx6 : xs.length = 6 := hxs
    match cs, hl6, xs, hx6 with
    | [c0, c1, c2, c3, c4, c5], _, [y0, y1, y2, y3, y4, y5], _ =>
      have e1 : Tryd.prog.cellsOf 3 = 1 := by kernel_rfl
      have e2 : Tryd.prog.cellsOf 9 = 1 := by kernel_rfl
      have e3 : Tryd.prog.cellsOf 37 = 1 := by kernel_rfl
      have e6 : Tryd.prog.cellsOf 39 = 6 := by kernel_rfl
      have g0 : DataW.trod enc Tryd.prog w base spare held n 3 [c0] = some y0 := by
        have h := hget 0 ⟨"Kind", 3, 0, false, "", "", 0⟩ rfl
        dsimp only at h
        rw [e1] at h
        exact h
      have g1 : DataW.trod enc Tryd.prog w base spare held n 3 [c1] = some y1 := by
        have h := hget 1 ⟨"A", 3, 1, false, "", "", 8⟩ rfl
        dsimp only at h
        rw [e1] at h
        exact h
      have g2 : DataW.trod enc Tryd.prog w base spare held n 3 [c2] = some y2 := by
        have h := hget 2 ⟨"B", 3, 2, false, "", "", 16⟩ rfl
        dsimp only at h
        rw [e1] at h
        exact h
      have g3 : DataW.trod enc Tryd.prog w base spare held n 9 [c3] = some y3 := by
        have h := hget 3 ⟨"S", 9, 3, false, "", "", 24⟩ rfl
        dsimp only at h
        rw [e2] at h
        exact h
      have g4 : DataW.trod enc Tryd.prog w base spare held n 9 [c4] = some y4 := by
        have h := hget 4 ⟨"T", 9, 4, false, "", "", 40⟩ rfl
        dsimp only at h
        rw [e2] at h
        exact h
      have g5 : DataW.trod enc Tryd.prog w base spare held n 37 [c5] = some y5 := by
        have h := hget 5 ⟨"In", 37, 5, false, "", "", 56⟩ rfl
        dsimp only at h
        rw [e3] at h
        exact h
      obtain ⟨k, h0, _, w0⟩ := DataW.trod_int Tryd.underlying3 g0
      obtain ⟨a, h1, _, w1⟩ := DataW.trod_int Tryd.underlying3 g1
      obtain ⟨b, h2, _, w2⟩ := DataW.trod_int Tryd.underlying3 g2
      obtain ⟨s, h3, _, w3⟩ := DataW.trod_string Tryd.underlying9 g3
      obtain ⟨t, h4, _, w4⟩ := DataW.trod_string Tryd.underlying9 g4
      simp only [List.cons.injEq, and_true] at h0 h1 h2 h3 h4
      subst h0 h1 h2 h3 h4
      rcases DataW.trod_slice Tryd.underlying37 g5 with ⟨h5, _⟩ | ⟨ad, len, cap, elems, rest, n2, h, h5, _, _, hlc, hcm, hel, hget2, _⟩
      · simp only [List.cons.injEq, and_true] at h5
        subst h5
        refine ⟨.mk k a b s t [], ?_⟩
        unfold StkV
        exact ⟨none, 0, rfl, by unfold StksAt; trivial, w0, w1, w2, w3, w4, Nat.le_refl _, Nat.zero_le _⟩
      · simp only [List.cons.injEq, and_true] at h5
        subst h5
        obtain ⟨l, hl2, hs⟩ := stks_of (w := w) (a := ad) len (fun i hi => by
          have h1 := hget2 i hi
          rw [List.getElem?_eq_getElem (by omega), e6] at h1
          obtain ⟨cs2, hcs, htr⟩ := Option.bind_eq_some_iff.1 h1
          obtain ⟨s2, hv⟩ := stk_opens enc w base spare held N n2 cs2 _ (by omega) htr
          exact ⟨s2, cs2, hv, (cells_get hcs).2⟩)
        subst hl2
        refine ⟨.mk k a b s t l, ?_⟩
        unfold StkV
        exact ⟨some ad, cap, rfl, hs, w0, w1, w2, w3, w4, hlc, hcm⟩
end Go.Proofs.YtgmnoemkdigafaaDoor
namespace Go.Proofs.YtgmnoemkdigafaaDoor
open Go.RowKit
set_option linter.unusedVariables false

/-- No list of sticks within is longer than memory reaches. -/
def StkSz : Stk → Prop
  | .mk _ _ _ _ _ inn => inn.length ≤ 140737488351232 ∧ ∀ s ∈ inn, StkSz s
theorem weights_mem_all {H : Type} {P : Program} (e : TypeId) : ∀ (l : List (DataW H)) (d : DataW H), d ∈ l → ∀ n ∈ DataW.weights P e d, n ∈ DataW.weightsAll P e l
  | [], d, h, _, _ => by cases h
  | a :: l, d, h, n, hn => by
    rw [DataW.weightsAll]
    rcases List.mem_cons.1 h with rfl | h
    · exact List.mem_append_left _ hn
    · exact List.mem_append_right _ (weights_mem_all e l d h n hn)
theorem stks_of2 {w : World} {a : Addr} (Q : Stk → Prop) : ∀ (len : Nat), (∀ i, i < len → ∃ s cs, StkV w s cs ∧ Q s ∧ ∀ k u, cs[k]? = some u → w.cell? ((a.add (i * 6)).add k) = some u) → ∃ l : List Stk, l.length = len ∧ StksAt w l (some a) ∧ ∀ s ∈ l, Q s := by
  intro len one
  by_cases h0 : len = 0
  · subst h0
    exact ⟨[], rfl, by unfold StksAt; trivial, fun s h => absurd h (by simp)⟩
  · have hpl : a.spot = none := by
      obtain ⟨s, cs, hv, _, hc⟩ := one 0 (by omega)
      obtain ⟨k, x, y, s, t, inn⟩ := s
      unfold StkV at hv
      obtain ⟨A, c, rfl, _⟩ := hv
      have h2 := cell_plain (hc 0 _ rfl)
      revert h2
      unfold Addr.add
      split <;> simp_all
    obtain ⟨b, off, spot⟩ := a
    have hpl : spot = none := hpl
    subst hpl
    have all : ∀ m, m ≤ len → ∃ l : List Stk, l.length = m ∧ StksAt w l (some ⟨b, off + (len - m) * 6, none⟩) ∧ ∀ s ∈ l, Q s := by
      intro m
      induction m with
      | zero => exact fun _ => ⟨[], rfl, by unfold StksAt; trivial, fun s h => absurd h (by simp)⟩
      | succ m ih =>
        intro hm
        obtain ⟨l, hl, hs, hQ⟩ := ih (by omega)
        obtain ⟨s, cs, hv, hq, hc⟩ := one (len - (m + 1)) (by omega)
        refine ⟨s :: l, by simp [hl], ?_, fun u hu => (List.mem_cons.1 hu).elim (fun e => e ▸ hq) (hQ u)⟩
        unfold StksAt
        refine ⟨b, off + (len - (m + 1)) * 6, cs, rfl, fun i v hi => ?_, hv, ?_⟩
        · have h4 := hc i v hi
          rw [add_plain (show (⟨b, off, none⟩ : Addr).spot = none from rfl), add_plain rfl] at h4
          exact h4
        · rw [show off + (len - (m + 1)) * 6 + 6 = off + (len - m) * 6 by
            have : len - m = len - (m + 1) + 1 := by omega
            rw [this]; omega]
          exact hs
    obtain ⟨l, hl, hs, hQ⟩ := all len (Nat.le_refl _)
    refine ⟨l, hl, ?_, hQ⟩
    rw [Nat.sub_self, Nat.zero_mul, Nat.add_zero] at hs
    exact hs
set_option maxRecDepth 100000 in
theorem stk_opens2 {H : Type} (enc : TypeId × Value → H) (w : World) (base : Nat) (spare : Nat → Bool) (held : Bool) : ∀ (N fuel : Nat) (cs : List Value) (x : DataW H × List MemPlace), fuel ≤ N → DataW.trod enc Tryd.prog w base spare held fuel 39 cs = some x → (∀ n ∈ DataW.weights Tryd.prog 39 x.1, n ≤ reachBytes) → ∃ s : Stk, StkV w s cs ∧ StkSz s
  | 0, fuel, cs, x, hN, hx, hw => by
    obtain ⟨xs, n, h, _⟩ := DataW.trod_struct Tryd.underlying39 hx
    omega
  | N + 1, fuel, cs, x, hN, hx, hw => by
    obtain ⟨xs, n, rfl, hxe, hl, hxs, hget⟩ := DataW.trod_struct Tryd.underlying39 hx
    have hl6 : cs.length = 6 := by rw [hl]; kernel_rfl
    have hx6 : xs.length = 6 := hxs
    match cs, hl6, xs, hx6 with
    | [c0, c1, c2, c3, c4, c5], _, [y0, y1, y2, y3, y4, y5], _ =>
      have e1 : Tryd.prog.cellsOf 3 = 1 := by kernel_rfl
      have e2 : Tryd.prog.cellsOf 9 = 1 := by kernel_rfl
      have e3 : Tryd.prog.cellsOf 37 = 1 := by kernel_rfl
      have e6 : Tryd.prog.cellsOf 39 = 6 := by kernel_rfl
      have g0 : DataW.trod enc Tryd.prog w base spare held n 3 [c0] = some y0 := by
        have h := hget 0 ⟨"Kind", 3, 0, false, "", "", 0⟩ rfl
        dsimp only at h
        rw [e1] at h
        exact h
      have g1 : DataW.trod enc Tryd.prog w base spare held n 3 [c1] = some y1 := by
        have h := hget 1 ⟨"A", 3, 1, false, "", "", 8⟩ rfl
        dsimp only at h
        rw [e1] at h
        exact h
      have g2 : DataW.trod enc Tryd.prog w base spare held n 3 [c2] = some y2 := by
        have h := hget 2 ⟨"B", 3, 2, false, "", "", 16⟩ rfl
        dsimp only at h
        rw [e1] at h
        exact h
      have g3 : DataW.trod enc Tryd.prog w base spare held n 9 [c3] = some y3 := by
        have h := hget 3 ⟨"S", 9, 3, false, "", "", 24⟩ rfl
        dsimp only at h
        rw [e2] at h
        exact h
      have g4 : DataW.trod enc Tryd.prog w base spare held n 9 [c4] = some y4 := by
        have h := hget 4 ⟨"T", 9, 4, false, "", "", 40⟩ rfl
        dsimp only at h
        rw [e2] at h
        exact h
      have g5 : DataW.trod enc Tryd.prog w base spare held n 37 [c5] = some y5 := by
        have h := hget 5 ⟨"In", 37, 5, false, "", "", 56⟩ rfl
        dsimp only at h
        rw [e3] at h
        exact h
      obtain ⟨k, h0, _, w0⟩ := DataW.trod_int Tryd.underlying3 g0
      obtain ⟨a, h1, _, w1⟩ := DataW.trod_int Tryd.underlying3 g1
      obtain ⟨b, h2, _, w2⟩ := DataW.trod_int Tryd.underlying3 g2
      obtain ⟨s, h3, _, w3⟩ := DataW.trod_string Tryd.underlying9 g3
      obtain ⟨t, h4, _, w4⟩ := DataW.trod_string Tryd.underlying9 g4
      simp only [List.cons.injEq, and_true] at h0 h1 h2 h3 h4
      subst h0 h1 h2 h3 h4
      have hw5 : ∀ n ∈ DataW.weights Tryd.prog 37 y5.1, n ≤ reachBytes := fun n hn => hw n (by
        rw [hxe, DataW.weights, Tryd.underlying39]
        exact DataW.weights_mem_each (j := 5) rfl rfl n hn)
      rcases DataW.trod_slice Tryd.underlying37 g5 with ⟨h5, _⟩ | ⟨ad, len, cap, elems, rest, n2, h, h5, hye, _, hlc, hcm, hel, hget2, _⟩
      · simp only [List.cons.injEq, and_true] at h5
        subst h5
        refine ⟨.mk k a b s t [], ?_⟩
        unfold StkV
        refine ⟨⟨none, 0, rfl, by unfold StksAt; trivial, w0, w1, w2, w3, w4, Nat.le_refl _, Nat.zero_le _⟩, ?_⟩
        unfold StkSz
        exact ⟨Nat.zero_le _, fun s h => absurd h (by simp)⟩
      · simp only [List.cons.injEq, and_true] at h5
        subst h5
        rw [hye, DataW.weights, Tryd.underlying37] at hw5
        have hb := hw5 _ (List.mem_cons_self ..)
        rw [show Tryd.prog.bytesOf 39 = 80 by kernel_rfl, List.length_map, List.length_map, hel] at hb
        have hrb : reachBytes = 140737488351232 := by decide
        obtain ⟨l, hl2, hs, hQ⟩ := stks_of2 (w := w) (a := ad) StkSz len (fun i hi => by
          have h1 := hget2 i hi
          rw [List.getElem?_eq_getElem (by omega), e6] at h1
          obtain ⟨cs2, hcs, htr⟩ := Option.bind_eq_some_iff.1 h1
          obtain ⟨s2, hv, hz⟩ := stk_opens2 enc w base spare held N n2 cs2 _ (by omega) htr (fun n hn => hw5 n (List.mem_cons_of_mem _ (List.mem_append_left _ (weights_mem_all _ _ _ (List.mem_map.2 ⟨_, List.getElem_mem _, rfl⟩) n hn))))
          exact ⟨s2, cs2, hv, hz, (cells_get hcs).2⟩)
        subst hl2
        refine ⟨.mk k a b s t l, ?_⟩
        unfold StkV
        refine ⟨⟨some ad, cap, rfl, hs, w0, w1, w2, w3, w4, hlc, hcm⟩, ?_⟩
        unfold StkSz
        exact ⟨by omega, hQ⟩
set_option maxRecDepth 100000 in
theorem stks_opens2 {H : Type} (enc : TypeId × Value → H) (w : World) (base : Nat) (spare : Nat → Bool) (held : Bool) (fuel : Nat) (cs : List Value) (x : DataW H × List MemPlace) (hx : DataW.trod enc Tryd.prog w base spare held fuel 37 cs = some x)
    (hw : ∀ n ∈ DataW.weights Tryd.prog 37 x.1, n ≤ reachBytes) : ∃ (l : List Stk) (A : Option Addr) (c : Nat), cs = [.slice A l.length c] ∧ l.length ≤ c ∧ c ≤ maxLen ∧ StksAt w l A ∧ l.length ≤ 140737488351232 ∧ ∀ s ∈ l, StkSz s := by
  rcases DataW.trod_slice Tryd.underlying37 hx with ⟨h5, _⟩ | ⟨ad, len, cap, elems, rest, n2, h, h5, hye, _, hlc, hcm, hel, hget2, _⟩
  · exact ⟨[], none, 0, h5, Nat.le_refl _, Nat.zero_le _, by unfold StksAt; trivial, Nat.zero_le _, fun s h => absurd h (by simp)⟩
  · have e6 : Tryd.prog.cellsOf 39 = 6 := by kernel_rfl
    rw [hye, DataW.weights, Tryd.underlying37] at hw
    have hb := hw _ (List.mem_cons_self ..)
    rw [show Tryd.prog.bytesOf 39 = 80 by kernel_rfl, List.length_map, List.length_map, hel] at hb
    have hrb : reachBytes = 140737488351232 := by decide
    obtain ⟨l, hl2, hs, hQ⟩ := stks_of2 (w := w) (a := ad) StkSz len (fun i hi => by
      have h1 := hget2 i hi
      rw [List.getElem?_eq_getElem (by omega), e6] at h1
      obtain ⟨cs2, hcs, htr⟩ := Option.bind_eq_some_iff.1 h1
      obtain ⟨s2, hv, hz⟩ := stk_opens2 enc w base spare held n2 n2 cs2 _ (Nat.le_refl _) htr (fun n hn => hw n (List.mem_cons_of_mem _ (List.mem_append_left _ (weights_mem_all _ _ _ (List.mem_map.2 ⟨_, List.getElem_mem _, rfl⟩) n hn))))
      exact ⟨s2, cs2, hv, hz, (cells_get hcs).2⟩)
    subst hl2
    exact ⟨l, some ad, cap, h5, hlc, hcm, hs, by omega, hQ⟩
end Go.Proofs.YtgmnoemkdigafaaDoor
namespace Go.Proofs.YtgmnoemkdigafaaDoor
open Go.RowKit
set_option linter.unusedVariables false

set_option maxRecDepth 100000 in
set_option maxHeartbeats 8000000 in
theorem tst_1 (kk a b : Int) (s t : ByteArray) (inn : List Stk) (A : Option Addr) (c : Nat) (d : Int) (w : World) (hd0 : 0 ≤ d) (hd : d ≤ 1000) (hP10 : pickN kk 10 = 0) (hB : StkB kk a b s t inn.length c) (hA : StksAt w inn A) :
    Calls Tryd.prog 16 #[.agg #[.int .i64 kk, .int .i64 a, .int .i64 b, .string s, .string t, .slice A inn.length c], .int .i64 d] w fun e w' => ∃ tv, e = .returned (.agg (List.toArray tv)) ∧ (∀ W, New w.heap.size w' W → TestV W (leafT 1 (.mk kk a b s t inn)) tv) ∧ Below w.heap.size w w' := by
  obtain ⟨wk, wa, wb, ws, wt, hc1, hc2⟩ := hB
  unfold maxLen at ws wt hc2
  have hX := Bk.new w [.int .i64 kk, .int .i64 a, .int .i64 b, .string s, .string t, .slice A inn.length c] 39
  have hbx : Below w.heap.size w (w.alloc (.cells #[.int .i64 kk, .int .i64 a, .int .i64 b, .string s, .string t, .slice A inn.length c] 39)) := bal (Below.refl _ _) _
  have HX := Lib.hid hX
  have Hbx := Lib.hid hbx
  clear hX hbx
  have P10 : ∀ W : World, Calls Tryd.prog 13 #[.int .i64 kk, .int .i64 10] W fun e w' => e = .returned (.int .i64 ((0 : Nat) : Int)) ∧ W = w' := fun W => by
    have h := picked_calls kk 10 W wk (by decide) (by decide)
    rw [hP10] at h
    exact h
  go_enter Tryd.func16, Tryd.ntmps16
  go_upto_region 1 with fail
  have hR := Bk.new (w.alloc (.cells #[.int .i64 kk, .int .i64 a, .int .i64 b, .string s, .string t, .slice A inn.length c] 39)) [.int .i64 0, .int .i64 0, .int .i64 0, .slice none 0 0, .slice none 0 0, .bool false, .int .i64 0, .slice none 0 0] 31
  have hX2 := HX.out.alloc (.cells #[.int .i64 0, .int .i64 0, .int .i64 0, .slice none 0 0, .slice none 0 0, .bool false, .int .i64 0, .slice none 0 0] 31)
  have hb2 := bal Hbx.out (.cells #[.int .i64 0, .int .i64 0, .int .i64 0, .slice none 0 0, .slice none 0 0, .bool false, .int .i64 0, .slice none 0 0] 31)
  have hs1 : (w.alloc (.cells #[.int .i64 kk, .int .i64 a, .int .i64 b, .string s, .string t, .slice A inn.length c] 39)).heap.size = w.heap.size + 1 := by simp
  rw [hs1] at hR
  have hs2 : ((w.alloc (.cells #[.int .i64 kk, .int .i64 a, .int .i64 b, .string s, .string t, .slice A inn.length c] 39)).alloc (.cells #[.int .i64 0, .int .i64 0, .int .i64 0, .slice none 0 0, .slice none 0 0, .bool false, .int .i64 0, .slice none 0 0] 31)).heap.size = w.heap.size + 2 := by simp
  have HR := Lib.hid hR
  have HX2 := Lib.hid hX2
  have Hb2 := Lib.hid hb2
  clear hR hX2 hb2 hs1 HX Hbx
  generalize (w.alloc (.cells #[.int .i64 kk, .int .i64 a, .int .i64 b, .string s, .string t, .slice A inn.length c] 39)).alloc (.cells #[.int .i64 0, .int .i64 0, .int .i64 0, .slice none 0 0, .slice none 0 0, .bool false, .int .i64 0, .slice none 0 0] 31) = w2 at *
  have x0 := HX2.out.cell 0 _ rfl
  go_upto_region 2 with (go_at_call 13; refine (P10 _).mono ?_; rintro e w' ⟨rfl, rfl⟩)
  clear P10 x0
  by_cases h3 : 3 ≤ d
  all_goals (
    have hT := Bk.new w2 [.int .i64 1, .int .i64 0, .int .i64 0, .slice none 0 0, .slice none 0 0, .bool false, .int .i64 0, .slice none 0 0] 31
    have hT2 := HR.out.alloc (.cells #[.int .i64 1, .int .i64 0, .int .i64 0, .slice none 0 0, .slice none 0 0, .bool false, .int .i64 0, .slice none 0 0] 31)
    have hX3 := HX2.out.alloc (.cells #[.int .i64 1, .int .i64 0, .int .i64 0, .slice none 0 0, .slice none 0 0, .bool false, .int .i64 0, .slice none 0 0] 31)
    have hb3 := bal Hb2.out (.cells #[.int .i64 1, .int .i64 0, .int .i64 0, .slice none 0 0, .slice none 0 0, .bool false, .int .i64 0, .slice none 0 0] 31)
    rw [hs2] at hT
    have HT := Lib.hid hT
    have HR3 := Lib.hid hT2
    have HX3 := Lib.hid hX3
    have Hb3 := Lib.hid hb3
    clear hT hT2 hX3 hb3 HR HX2 Hb2
    go_upto_region 5 with fail
    have hs3 : (w2.alloc (.cells #[.int .i64 1, .int .i64 0, .int .i64 0, .slice none 0 0, .slice none 0 0, .bool false, .int .i64 0, .slice none 0 0] 31)).heap.size = w.heap.size + 3 := by simp; omega
    generalize w2.alloc (.cells #[.int .i64 1, .int .i64 0, .int .i64 0, .slice none 0 0, .slice none 0 0, .bool false, .int .i64 0, .slice none 0 0] 31) = w3 at *
    have x0 := HT.out.cell 0 _ rfl
    have x1 := HT.out.cell 1 _ rfl
    have x2 := HT.out.cell 2 _ rfl
    have x3 := HT.out.cell 3 _ rfl
    have x4 := HT.out.cell 4 _ rfl
    have x5 := HT.out.cell 5 _ rfl
    have x6 := HT.out.cell 6 _ rfl
    have x7 := HT.out.cell 7 _ rfl
    have f0 := HR3.out.frozen 0
    have y0 := HR3.out.cell 0 _ rfl
    have f1 := HR3.out.frozen 1
    have y1 := HR3.out.cell 1 _ rfl
    have f2 := HR3.out.frozen 2
    have y2 := HR3.out.cell 2 _ rfl
    have f3 := HR3.out.frozen 3
    have y3 := HR3.out.cell 3 _ rfl
    have f4 := HR3.out.frozen 4
    have y4 := HR3.out.cell 4 _ rfl
    have f5 := HR3.out.frozen 5
    have y5 := HR3.out.cell 5 _ rfl
    have f6 := HR3.out.frozen 6
    have y6 := HR3.out.cell 6 _ rfl
    have f7 := HR3.out.frozen 7
    have y7 := HR3.out.cell 7 _ rfl
    go_wp2_with fail
    have hbk := bk_eq (cs' := [.int .i64 1, .int .i64 0, .int .i64 0, .slice none 0 0, .slice none 0 0, .bool false, .int .i64 0, .slice none 0 0]) (Bk.set (Bk.set (Bk.set (Bk.set (Bk.set (Bk.set (Bk.set (Bk.set HR3.out 0 _) 1 _) 2 _) 3 _) 4 _) 5 _) 6 _) 7 _) rfl
    refine bodyPost_ret (results_cell_row rfl _ _ (w.heap.size + 1) 31 #[.int .i64 1, .int .i64 0, .int .i64 0, .slice none 0 0, .slice none 0 0, .bool false, .int .i64 0, .slice none 0 0] (0, 0) _ rfl hbk Tryd.underlying31 rfl (by kernel_rfl)) rfl ⟨[.int .i64 1, .int .i64 0, .int .i64 0, .slice none 0 0, .slice none 0 0, .bool false, .int .i64 0, .slice none 0 0], rfl, fun W hN => ?_, ?_⟩
    · exact testV_leaf W 1
    · exact (Below.setCell (Below.setCell (Below.setCell (Below.setCell (Below.setCell (Below.setCell (Below.setCell (Below.setCell Hb3.out (Nat.le_add_right _ _) _) (Nat.le_add_right _ _) _) (Nat.le_add_right _ _) _) (Nat.le_add_right _ _) _) (Nat.le_add_right _ _) _) (Nat.le_add_right _ _) _) (Nat.le_add_right _ _) _) (Nat.le_add_right _ _) _))
end Go.Proofs.YtgmnoemkdigafaaDoor
