/- The writer of tokens of package script: blocks of commands, branches, commands. -/
import Derived.Test.YtgmnoemkdigafaaDoorScrCmdP
import Derived.Test.YtgmnoemkdigafaaDoorScrWTest
namespace Go.Proofs.YtgmnoemkdigafaaDoor
open Go.RowKit
set_option linter.unusedVariables false

/-- What the writer makes of a command, of what stands behind an if, of a block. -/
def CmdW (c : Cmd) : Prop := ∀ (B b : Nat) (l : List Tok) (vs : List Value) (w0 W : World), CmdV w0 c vs → TabsAt w0 → w0.heap.size ≤ B → Below w0.heap.size w0 W → Wr B W b l → l.length + (cmdTk c).length ≤ 800000 →
  Calls Tryd.prog 28 #[.pointer (some ⟨b, 0, none⟩), .agg vs.toArray] W fun e W' => e = .returned (.tuple #[]) ∧ Wr B W' b (l ++ cmdTk c) ∧ Tw B W W'
def BrW (c : Cmd) : Prop := ∀ (B b : Nat) (l : List Tok) (vs : List Value) (w0 W : World), CmdV w0 c vs → TabsAt w0 → w0.heap.size ≤ B → Below w0.heap.size w0 W → Wr B W b l → l.length + (cmdTk c).tail.length ≤ 800000 →
  Calls Tryd.prog 44 #[.pointer (some ⟨b, 0, none⟩), .agg vs.toArray] W fun e W' => e = .returned (.tuple #[]) ∧ Wr B W' b (l ++ (cmdTk c).tail) ∧ Tw B W W'
def BlkW (cs : List Cmd) : Prop := ∀ (B b : Nat) (l : List Tok) (A : Option Addr) (cp : Nat) (w0 W : World), CmdsAt w0 cs A → cs.length ≤ 1000000 → TabsAt w0 → w0.heap.size ≤ B → Below w0.heap.size w0 W → Wr B W b l → l.length + (markTk 123 :: (cmdsTk cs ++ [markTk 125])).length ≤ 800000 →
  Calls Tryd.prog 66 #[.pointer (some ⟨b, 0, none⟩), .slice A cs.length cp] W fun e W' => e = .returned (.tuple #[]) ∧ Wr B W' b (l ++ (markTk 123 :: (cmdsTk cs ++ [markTk 125]))) ∧ Tw B W W'
set_option maxRecDepth 100000 in
set_option maxHeartbeats 8000000 in
theorem block_of (cs : List Cmd) (ih : ∀ c ∈ cs, CmdW c) : BlkW cs := by
  intro B b l A cp w0 W hta hln htab hB hb h hlen
  have hs0 : WSt B w0 W W b l := ⟨h, Tw.refl B W, hb⟩
  simp only [List.length_cons, List.length_append, List.length_nil] at hlen
  have hp := put_calls B b l 5 ⟨#[123]⟩ W h (by omega)
  have hih : ∀ c ∈ cs, ∀ (l : List Tok) (vs : List Value) (W : World), CmdV w0 c vs → Below w0.heap.size w0 W → Wr B W b l → l.length + (cmdTk c).length ≤ 800000 → Calls Tryd.prog 28 #[.pointer (some ⟨b, 0, none⟩), .agg vs.toArray] W fun e W' => e = .returned (.tuple #[]) ∧ Wr B W' b (l ++ cmdTk c) ∧ Tw B W W' := fun c hc l vs W h1 h2 h3 h4 => ih c hc B b l vs w0 W h1 htab hB h2 h3 h4
  have Hp := Lib.hid hp
  have Hs0 := Lib.hid hs0
  have Hih := Lib.hid hih
  have Hta := Lib.hid hta
  have Hlen := Lib.hid hlen
  clear hp hs0 hih hta hlen ih h hb htab
  go_enter Tryd.func66, Tryd.ntmps66
  go_wp2_with fail
  refine Hp.out.mono ?_
  rintro e w1 ⟨rfl, hw1, ht1⟩
  have Hs1 := Lib.hid (Hs0.out.put hB hw1 ht1)
  clear hw1 ht1 Hp Hs0
  go_wp2_with fail
  go_loopw [10] (fun i wr => ∃ j : Nat, j ≤ cs.length ∧ i = .int .i64 j ∧ Hid (WSt B w0 W wr b (l ++ [(⟨5, ⟨#[123]⟩, 0⟩ : Tok)] ++ cmdsTk (cs.take j)))) (fun i _ => cs.length - (intOf i).toNat)
  case atStart => exact ⟨0, Nat.zero_le _, rfl, Lib.hid (by simpa [cmdsTk] using Hs1.out)⟩
  case round =>
    obtain ⟨j, hj, rfl, Hj⟩ := hrel
    by_cases hlt : j < cs.length
    · have hj0 : (0 : Int) ≤ (j : Int) := by omega
      have hjn : (j : Int) < (cs.length : Int) := by omega
      obtain ⟨bb, off, s, k, Ax, nx, cx, k2, m, p, lm, o, An, Ak, At, nn, cn, nk, ck, nt, ct, Ah, nh, ch, Ae, ne, ce, rfl, hmem, hgt, hdr, hki, huv, c0, c1, c2, c3, c4, c5, c6, c7, c8, c9, c10, c11⟩ := cmdsAt_round Hj.out.old Hta.out hlt
      have htk0 := cmdsTk_take_succ hgt
      have hln2 := cmdsTk_take_le cs (j + 1)
      rw [htk0, List.length_append] at hln2
      have htk : l ++ [(⟨5, ⟨#[123]⟩, 0⟩ : Tok)] ++ cmdsTk (cs.take (j + 1)) = l ++ [(⟨5, ⟨#[123]⟩, 0⟩ : Tok)] ++ cmdsTk (cs.take j) ++ cmdTk s := by
        rw [htk0]; simp
      have hl0 := Hlen.out
      have hlj : (l ++ [(⟨5, ⟨#[123]⟩, 0⟩ : Tok)] ++ cmdsTk (cs.take j)).length + (cmdTk s).length ≤ 800000 := by
        simp only [List.length_append, List.length_singleton]; omega
      have Htk := Lib.hid htk
      have hih := fun (l : List Tok) (W : World) (h2 : Below w0.heap.size w0 W) (h3 : Wr B W b l) h4 => Hih.out s hmem l _ W huv h2 h3 h4
      generalize l ++ [(⟨5, ⟨#[123]⟩, 0⟩ : Tok)] ++ cmdsTk (cs.take j) = lj at *
      have Hi := Lib.hid hih
      have Hlj := Lib.hid hlj
      have hN := Bk.new wr [.int .i64 k, .slice Ax nx cx, .int .i64 k2, .int .i64 m, .int .i64 p, .slice An nn cn, .slice Ak nk ck, .bool o, .int .i64 lm, .slice At nt ct, .slice Ah nh ch, .slice Ae ne ce] 34
      have hS1 := Hj.out.alloc (.cells #[.int .i64 k, .slice Ax nx cx, .int .i64 k2, .int .i64 m, .int .i64 p, .slice An nn cn, .slice Ak nk ck, .bool o, .int .i64 lm, .slice At nt ct, .slice Ah nh ch, .slice Ae ne ce] 34)
      have HN := Lib.hid hN
      have HS0 := Lib.hid hS1
      clear hih hN hS1 hmem hgt hdr huv hki htk htk0 hln2 hl0 hlj
      go_upto_region 4 with fail
      generalize wr.alloc (.cells #[.int .i64 k, .slice Ax nx cx, .int .i64 k2, .int .i64 m, .int .i64 p, .slice An nn cn, .slice Ak nk ck, .bool o, .int .i64 lm, .slice At nt ct, .slice Ah nh ch, .slice Ae ne ce] 34) = w5 at *
      clear c0 c1 c2 c3 c4 c5 c6 c7 c8 c9 c10 c11
      have c0 := HN.out.cell 0 _ rfl
      have c1 := HN.out.cell 1 _ rfl
      have c2 := HN.out.cell 2 _ rfl
      have c3 := HN.out.cell 3 _ rfl
      have c4 := HN.out.cell 4 _ rfl
      have c5 := HN.out.cell 5 _ rfl
      have c6 := HN.out.cell 6 _ rfl
      have c7 := HN.out.cell 7 _ rfl
      have c8 := HN.out.cell 8 _ rfl
      have c9 := HN.out.cell 9 _ rfl
      have c10 := HN.out.cell 10 _ rfl
      have c11 := HN.out.cell 11 _ rfl
      have hi5 := Hi.out lj w5 HS0.out.old HS0.out.wr Hlj.out
      have Hi5 := Lib.hid hi5
      clear hi5 Hi
      go_wp2_with fail
      refine Hi5.out.mono ?_
      rintro e w6 ⟨rfl, hw6, ht6⟩
      have HS6 := Lib.hid (HS0.out.put hB hw6 ht6)
      clear hw6 ht6 c0 c1 c2 c3 c4 c5 c6 c7 c8 c9 c10 c11 HN Hi5
      go_wp2_with fail
      go_roundw
      case rel => exact ⟨j + 1, by omega, by go_num, Lib.hid (by rw [Htk.out]; exact HS6.out)⟩
      case measure => simp [intOf]; omega
    · obtain rfl : j = cs.length := by omega
      have hS := Hj.out
      rw [List.take_length] at hS
      have hl0 := Hlen.out
      have hp := put_calls B b (l ++ [(⟨5, ⟨#[123]⟩, 0⟩ : Tok)] ++ cmdsTk cs) 5 ⟨#[125]⟩ wr hS.wr (by simp only [List.length_append, List.length_singleton]; omega)
      have Hp := Lib.hid hp
      have HS := Lib.hid hS
      clear hp hS hlt hl0
      go_wp2_with fail
      refine Hp.out.mono ?_
      rintro e w5 ⟨rfl, hw5, ht5⟩
      have Hw5 := Lib.hid hw5
      have Ht5 := Lib.hid (HS.out.tw.trans ht5)
      clear hw5 ht5
      go_wp2_with fail
      go_end0
      refine ⟨rfl, ?_, Ht5.out⟩
      have hfin := Hw5.out
      simp only [List.append_assoc, List.cons_append, List.nil_append] at hfin ⊢
      exact hfin
end Go.Proofs.YtgmnoemkdigafaaDoor
