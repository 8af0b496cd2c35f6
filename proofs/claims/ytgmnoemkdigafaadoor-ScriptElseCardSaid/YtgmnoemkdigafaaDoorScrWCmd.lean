/- The writer of tokens of package script: it puts a command. -/
import Derived.Test.YtgmnoemkdigafaaDoorScrWCmd2
namespace Go.Proofs.YtgmnoemkdigafaaDoor
open Go.RowKit
set_option linter.unusedVariables false

theorem cmdTk_other {k : Int} {tx : List ByteArray} {t : Tst} {th el : List Cmd} (h : k ≠ 2) : cmdTk (.mk k tx t th el) = wordTk (wAt commandsW k) :: ((if 0 < tx.length then listTk tx else []) ++ [markTk 59]) := by
  rw [cmdTk, if_neg h]
set_option maxRecDepth 100000 in
set_option maxHeartbeats 8000000 in
theorem command_if (t : Tst) (th el : List Cmd) (hbr : BrW (.mk 2 [] t th el)) : CmdW (.mk 2 [] t th el) := by
  intro B b l vs w0 W hv htab hB hb h hlen
  have htwo := cmdTk_two (.mk 2 [] t th el) rfl
  rw [htwo] at hlen ⊢
  rw [List.length_cons] at hlen
  generalize htl : (cmdTk (.mk 2 [] t th el)).tail = tl at *
  have hbi := fun W2 (h1 : Below w0.heap.size w0 W2) (h2 : Wr B W2 b (l ++ [⟨1, mkS (commandsW.getD 2 []), 0⟩])) => hbr B b (l ++ [⟨1, mkS (commandsW.getD 2 []), 0⟩]) vs w0 W2 hv htab hB h1 h2 (by rw [htl, List.length_append, List.length_singleton]; omega)
  rw [htl] at hbi
  have hfi : l ++ wordTk (wAt commandsW 2) :: tl = l ++ [⟨1, mkS (commandsW.getD 2 []), 0⟩] ++ tl := by rw [List.append_assoc]; rfl
  rw [hfi]
  clear hfi htwo htl
  obtain ⟨Ax, cx, k2, m, p, lm, o, An, Ak, At, nn, cn, nk, ck, nt, ct, Ah, ch, Ae, ce, rfl, _, ht, hch, hce, hle⟩ := cmdV_cells hv
  simp only [List.length_nil] at *
  have hs0 : WSt B w0 W W b l := ⟨h, Tw.refl B W, hb⟩
  have hs1 := hs0.alloc (.cells #[.int .i64 2, .slice Ax 0 cx, .int .i64 k2, .int .i64 m, .int .i64 p, .slice An nn cn, .slice Ak nk ck, .bool o, .int .i64 lm, .slice At nt ct, .slice Ah th.length ch, .slice Ae el.length ce] 34)
  have hT := Bk.new W [.int .i64 2, .slice Ax 0 cx, .int .i64 k2, .int .i64 m, .int .i64 p, .slice An nn cn, .slice Ak nk ck, .bool o, .int .i64 lm, .slice At nt ct, .slice Ah th.length ch, .slice Ae el.length ce] 34
  have tc := cell_later hs1.old (htab.cs 2 (by omega))
  have hp := put_calls B b l 1 (mkS (commandsW.getD 2 [])) _ hs1.wr (by omega)
  have HT := Lib.hid hT
  have Hs1 := Lib.hid hs1
  have Hp := Lib.hid hp
  have Hbi := Lib.hid hbi
  clear hT hs1 hp hbi hs0 hv ht hch hce hle hb h htab hlen
  go_enter Tryd.func28, Tryd.ntmps28
  go_upto_region 1 with fail
  generalize W.alloc (.cells #[.int .i64 2, .slice Ax 0 cx, .int .i64 k2, .int .i64 m, .int .i64 p, .slice An nn cn, .slice Ak nk ck, .bool o, .int .i64 lm, .slice At nt ct, .slice Ah th.length ch, .slice Ae el.length ce] 34) = w1 at *
  have x0 := HT.out.cell 0 _ rfl
  go_wp2_with fail
  refine Hp.out.mono ?_
  rintro e w2 ⟨rfl, hw2, ht2⟩
  have HT2 := Lib.hid (ht2.bk _ _ _ HT.out (by decide) (by decide))
  have Hs2 := Lib.hid (Hs1.out.put hB hw2 ht2)
  have hi2 := Hbi.out w2 Hs2.out.old hw2
  have Hi2 := Lib.hid hi2
  clear hw2 ht2 hi2 Hbi HT Hs1 Hp x0 tc
  have x0 := HT2.out.cell 0 _ rfl
  have x1 := HT2.out.cell 1 _ rfl
  have x2 := HT2.out.cell 2 _ rfl
  have x3 := HT2.out.cell 3 _ rfl
  have x4 := HT2.out.cell 4 _ rfl
  have x5 := HT2.out.cell 5 _ rfl
  have x6 := HT2.out.cell 6 _ rfl
  have x7 := HT2.out.cell 7 _ rfl
  have x8 := HT2.out.cell 8 _ rfl
  have x9 := HT2.out.cell 9 _ rfl
  have x10 := HT2.out.cell 10 _ rfl
  have x11 := HT2.out.cell 11 _ rfl
  go_wp2_with fail
  refine Hi2.out.mono ?_
  rintro e w3 ⟨rfl, hw3, ht3⟩
  have Hw3 := Lib.hid hw3
  have Ht3 := Lib.hid (Hs2.out.tw.trans ht3)
  clear hw3 ht3
  go_wp2_with fail
  exact bodyPost_ret (results_none rfl _ _ _) rfl ⟨rfl, Hw3.out, Ht3.out⟩
set_option maxRecDepth 100000 in
set_option maxHeartbeats 8000000 in
theorem command_other (k : Int) (tx : List ByteArray) (t : Tst) (th el : List Cmd) (h1 : 1 ≤ k) (h2 : k ≤ 10) (h3 : k ≠ 2) : CmdW (.mk k tx t th el) := by
  intro B b l vs w0 W hv htab hB hb h hlen
  rw [cmdTk_other h3] at hlen ⊢
  rw [List.length_cons, List.length_append, List.length_singleton] at hlen
  obtain ⟨Ax, cx, k2, m, p, lm, o, An, Ak, At, nn, cn, nk, ck, nt, ct, Ah, ch, Ae, ce, rfl, hx, ht, hch, hce, hle⟩ := cmdV_cells hv
  have hln : tx.length ≤ 1000000 := hle.2.2.2.1
  have hs0 : WSt B w0 W W b l := ⟨h, Tw.refl B W, hb⟩
  have hs1 := hs0.alloc (.cells #[.int .i64 k, .slice Ax tx.length cx, .int .i64 k2, .int .i64 m, .int .i64 p, .slice An nn cn, .slice Ak nk ck, .bool o, .int .i64 lm, .slice At nt ct, .slice Ah th.length ch, .slice Ae el.length ce] 34)
  have hT := Bk.new W [.int .i64 k, .slice Ax tx.length cx, .int .i64 k2, .int .i64 m, .int .i64 p, .slice An nn cn, .slice Ak nk ck, .bool o, .int .i64 lm, .slice At nt ct, .slice Ah th.length ch, .slice Ae el.length ce] 34
  obtain ⟨k', rfl⟩ : ∃ n : Nat, k = n := ⟨k.toNat, by omega⟩
  have tc := cell_later hs1.old (htab.cs k' (by omega))
  have hp := put_calls B b l 1 (mkS (commandsW.getD k' [])) _ hs1.wr (by omega)
  have hfi : l ++ wordTk (wAt commandsW (k' : Int)) :: ((if 0 < tx.length then listTk tx else []) ++ [markTk 59]) = l ++ [⟨1, mkS (commandsW.getD k' []), 0⟩] ++ ((if 0 < tx.length then listTk tx else []) ++ [markTk 59]) := by rw [List.append_assoc]; rfl
  rw [hfi]
  have HT := Lib.hid hT
  have Hs1 := Lib.hid hs1
  have Hp := Lib.hid hp
  have Hx := Lib.hid hx
  have Hlen := Lib.hid hlen
  have hlen1 : l.length + 2 ≤ 800000 := by omega
  have kk0 : (0 : Int) ≤ (k' : Int) := by omega
  have kk1 : (k' : Int) < 11 := by omega
  have k2f : ((k' : Int) == 2) = false := by rw [beq_eq_false_iff_ne]; exact h3
  clear hT hs1 hp hs0 hv hx ht hch hce hle hb h htab hfi h1 h2 h3 hlen
  have hl1 : (l ++ [(⟨1, mkS (commandsW.getD k' []), 0⟩ : Tok)]).length = l.length + 1 := by simp
  generalize l ++ [(⟨1, mkS (commandsW.getD k' []), 0⟩ : Tok)] = l1 at *
  go_enter Tryd.func28, Tryd.ntmps28
  go_upto_region 1 with fail
  generalize W.alloc (.cells #[.int .i64 (k' : Int), .slice Ax tx.length cx, .int .i64 k2, .int .i64 m, .int .i64 p, .slice An nn cn, .slice Ak nk ck, .bool o, .int .i64 lm, .slice At nt ct, .slice Ah th.length ch, .slice Ae el.length ce] 34) = w1 at *
  have x0 := HT.out.cell 0 _ rfl
  go_wp2_with fail
  refine Hp.out.mono ?_
  rintro e w2 ⟨rfl, hw2, ht2⟩
  have HT2 := Lib.hid (ht2.bk _ _ _ HT.out (by decide) (by decide))
  have Hs2 := Lib.hid (Hs1.out.put hB hw2 ht2)
  clear hw2 ht2 HT Hs1 Hp x0 tc kk0 kk1
  have x0 := HT2.out.cell 0 _ rfl
  have x1 := HT2.out.cell 1 _ rfl
  by_cases hz : 0 < tx.length
  · have hz1 : (0 : Int) < (tx.length : Int) := by omega
    rw [if_pos hz] at Hlen
    have hl2 := Hlen.out
    have htl := listTk_len tx
    have hi3 := wlist_calls B b l1 tx Ax cx w0 w2 Hx.out hB Hs2.out.old Hs2.out.wr (by omega)
    have Hi3 := Lib.hid hi3
    clear hi3 htl hl2
    go_wp2_with fail
    refine Hi3.out.mono ?_
    rintro e w3 ⟨rfl, hw3, ht3⟩
    have Hs3 := Lib.hid (Hs2.out.put hB hw3 ht3)
    have hl2 := Hlen.out
    have hp4 := put_calls B b (l1 ++ listTk tx) 5 ⟨#[59]⟩ w3 hw3 (by rw [List.length_append]; omega)
    have Hp4 := Lib.hid hp4
    clear hw3 ht3 hp4 hl2 x0 x1 Hi3
    go_wp2_with fail
    refine Hp4.out.mono ?_
    rintro e w4 ⟨rfl, hw4, ht4⟩
    have Hw4 := Lib.hid hw4
    have Ht4 := Lib.hid (Hs3.out.tw.trans ht4)
    clear hw4 ht4
    go_wp2_with fail
    go_end0
    exact ⟨rfl, by rw [← List.append_assoc]; exact Hw4.out, Ht4.out⟩
  · have hz1 : tx.length = 0 := by omega
    rw [hz1] at x1
    have hp4 := put_calls B b l1 5 ⟨#[59]⟩ w2 Hs2.out.wr (by omega)
    have Hp4 := Lib.hid hp4
    clear hp4
    go_wp2_with fail
    refine Hp4.out.mono ?_
    rintro e w4 ⟨rfl, hw4, ht4⟩
    have Hw4 := Lib.hid hw4
    have Ht4 := Lib.hid (Hs2.out.tw.trans ht4)
    clear hw4 ht4
    go_wp2_with fail
    go_end0
    exact ⟨rfl, Hw4.out, Ht4.out⟩
theorem wcmd_calls : ∀ (N : Nat) (c : Cmd), SizeOf.sizeOf c ≤ N → okC c → CmdW c ∧ (c.kind = 2 → BrW c)
  | 0, c, hN, _ => by cases c; simp at hN
  | N + 1, c, hN, hok => by
    obtain ⟨k, tx, t, th, el⟩ := c
    unfold okC at hok
    rcases hok with ⟨rfl, rfl, h1, h2, h3⟩ | ⟨h1, h2, h3, h4, rfl, rfl, rfl⟩
    · have hth : ∀ c ∈ th, CmdW c := fun c hc => (wcmd_calls N c (by
        have h := List.sizeOf_lt_of_mem hc
        simp only [Cmd.mk.sizeOf_spec] at hN
        omega) (okCs_mem th c h2 hc)).1
      have hel : ∀ c ∈ el, CmdW c ∧ (c.kind = 2 → BrW c) := fun c hc => wcmd_calls N c (by
        have h := List.sizeOf_lt_of_mem hc
        simp only [Cmd.mk.sizeOf_spec] at hN
        omega) (okCs_mem el c h3 hc)
      have hb := branch_of t th el h1 (block_of th hth) (block_of el fun c hc => (hel c hc).1) fun c hc hk => (hel c hc).2 hk
      exact ⟨command_if t th el hb, fun _ => hb⟩
    · exact ⟨command_other k tx zeroT [] [] h1 h2 h3, fun h => absurd h h3⟩
theorem wcommand_calls (c : Cmd) (h : okC c) : CmdW c := (wcmd_calls _ c (Nat.le_refl _) h).1
end Go.Proofs.YtgmnoemkdigafaaDoor
