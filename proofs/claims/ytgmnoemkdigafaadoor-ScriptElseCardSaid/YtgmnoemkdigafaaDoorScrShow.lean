/- script.Show at commands whose parts may be. -/
import Derived.Test.YtgmnoemkdigafaaDoorScrCheck
namespace Go.Proofs.YtgmnoemkdigafaaDoor
open Go.RowKit
set_option linter.unusedVariables false

/-- What Show answers. -/
def showA (cs : List Cmd) (B : Nat) (e : Ending) (w' : World) : Prop :=
  if chkS cs = 0 then ∃ A c, e = .returned (.tuple #[.slice A (cmdsTk cs).length c, .int .i64 0]) ∧ w'.ownsRow B 45 3 (.slice A (cmdsTk cs).length c) (cmdsTk cs).length (tokCells (cmdsTk cs)) else e = .returned (.tuple #[.slice none 0 0, .int .i64 (chkS cs)])
set_option maxRecDepth 100000 in
set_option maxHeartbeats 8000000 in
theorem Show_calls (cs : List Cmd) (hok : okCs cs) (A : Option Addr) (cp : Nat) (w : World) (hta : CmdsAt w cs A) (htab : TabsAt w) (hln : cs.length ≤ 1000000) (hlen : (cmdsTk cs).length ≤ 700000) :
    Calls Tryd.prog 17 #[.slice A cs.length cp] w fun e w' => showA cs w.heap.size e w' ∧ Below w.heap.size w w' := by
  have hc := Check_calls cs hok A cp w hta htab hln hlen
  have hih : ∀ (B b : Nat), w.heap.size ≤ B → ∀ c ∈ cs, ∀ (l : List Tok) (vs : List Value) (W : World), CmdV w c vs → Below w.heap.size w W → Wr B W b l → l.length + (cmdTk c).length ≤ 800000 → Calls Tryd.prog 28 #[.pointer (some ⟨b, 0, none⟩), .agg vs.toArray] W fun e W' => e = .returned (.tuple #[]) ∧ Wr B W' b (l ++ cmdTk c) ∧ Tw B W W' := fun B b hB c hc l vs W h1 h2 h3 h4 => wcommand_calls c (okCs_mem cs c hok hc) B b l vs w W h1 htab hB h2 h3 h4
  generalize hq : chkS cs = q at *
  have Hq := Lib.hid hq
  have Hc := Lib.hid hc
  have Hih := Lib.hid hih
  have Hta := Lib.hid hta
  have Hlen := Lib.hid hlen
  clear hq hc hih hta hlen htab hok
  go_enter Tryd.func17, Tryd.ntmps17
  go_wp2_with fail
  refine Hc.out.mono ?_
  rintro e w1 ⟨rfl, hb1⟩
  have Hb1 := Lib.hid hb1
  clear hb1 Hc
  by_cases hq0 : q = 0
  · subst hq0
    have hB := Hb1.out.size
    have hW := Bk.new w1 [.slice none 0 0] 68
    have hs1 : WSt w1.heap.size w w1 (w1.alloc (.cells #[.slice none 0 0] 68)) w1.heap.size [] :=
      ⟨⟨Nat.le_refl _, .slice none 0 0, hW, World.ownsRow_nil _ _ _ _⟩, ⟨(bal (Below.refl _ w1) _).mono (Nat.le_refl _), fun q cs t hb _ _ => hb.alloc _⟩, btr Hb1.out (bal (Below.refl _ _) _)⟩
    have Hs1 := Lib.hid hs1
    clear hs1 hW
    go_upto_region 5 with fail
    generalize w1.alloc (.cells #[.slice none 0 0] 68) = w2 at *
    go_wp2_with fail
    go_loopw [17] (fun i wr => ∃ j : Nat, j ≤ cs.length ∧ i = .int .i64 j ∧ Hid (WSt w1.heap.size w w1 wr w1.heap.size (cmdsTk (cs.take j)))) (fun i _ => cs.length - (intOf i).toNat)
    case atStart => exact ⟨0, Nat.zero_le _, rfl, Lib.hid (by simpa [cmdsTk] using Hs1.out)⟩
    case round =>
      obtain ⟨j, hj, rfl, Hj⟩ := hrel
      by_cases hlt : j < cs.length
      · have hj0 : (0 : Int) ≤ (j : Int) := by omega
        have hjn : (j : Int) < (cs.length : Int) := by omega
        obtain ⟨bb, off, s, k, Ax, nx, cx, k2, m, p, lm, o, An, Ak, At, nn, cn, nk, ck, nt, ct, Ah, nh, ch, Ae, ne, ce, rfl, hmem, hgt, hdr, hki, huv, c0, c1, c2, c3, c4, c5, c6, c7, c8, c9, c10, c11⟩ := cmdsAt_round Hj.out.old Hta.out hlt
        have htk := cmdsTk_take_succ hgt
        have hln2 := cmdsTk_take_le cs (j + 1)
        have hl0 := Hlen.out
        rw [htk, List.length_append] at hln2
        have hlj : (cmdsTk (cs.take j)).length + (cmdTk s).length ≤ 800000 := by omega
        have Htk := Lib.hid htk
        have hih := fun (l : List Tok) (W : World) (h2 : Below w.heap.size w W) (h3 : Wr w1.heap.size W w1.heap.size l) h4 => Hih.out w1.heap.size w1.heap.size hB s hmem l _ W huv h2 h3 h4
        generalize cmdsTk (cs.take j) = lj at *
        have Hi := Lib.hid hih
        have Hlj := Lib.hid hlj
        have hN := Bk.new wr [.int .i64 k, .slice Ax nx cx, .int .i64 k2, .int .i64 m, .int .i64 p, .slice An nn cn, .slice Ak nk ck, .bool o, .int .i64 lm, .slice At nt ct, .slice Ah nh ch, .slice Ae ne ce] 34
        have hS1 := Hj.out.alloc (.cells #[.int .i64 k, .slice Ax nx cx, .int .i64 k2, .int .i64 m, .int .i64 p, .slice An nn cn, .slice Ak nk ck, .bool o, .int .i64 lm, .slice At nt ct, .slice Ah nh ch, .slice Ae ne ce] 34)
        have HN := Lib.hid hN
        have HS0 := Lib.hid hS1
        clear hih hN hS1 hmem hgt hdr huv hki htk hln2 hl0 hlj
        go_upto_region 8 with fail
        generalize wr.alloc (.cells #[.int .i64 k, .slice Ax nx cx, .int .i64 k2, .int .i64 m, .int .i64 p, .slice An nn cn, .slice Ak nk ck, .bool o, .int .i64 lm, .slice At nt ct, .slice Ah nh ch, .slice Ae ne ce] 34) = w5 at *
        clear c0 c1 c2 c3 c4 c5 c6 c7 c8 c9 c10 c11
        have c0 := HN.out.cell 0 _ rfl
        have c1 := HN.out.cell 1 _ rfl
        have c2 := HN.out.cell 2 _ rfl
        have c3 := HN.out.cell 3 _ rfl
        have c4 := HN.out.cell 4 _ rfl
        have c5 := HN.out.cell 5 _ rfl
        have c6 := HN.out.cell 6 _ rfl
        have c7 := HN.out.cell 7 _ rfl
        have c8 := HN.out.cell 8 _ rfl
        have c9 := HN.out.cell 9 _ rfl
        have c10 := HN.out.cell 10 _ rfl
        have c11 := HN.out.cell 11 _ rfl
        have hi5 := Hi.out lj w5 HS0.out.old HS0.out.wr Hlj.out
        have Hi5 := Lib.hid hi5
        clear hi5 Hi
        go_wp2_with fail
        refine Hi5.out.mono ?_
        rintro e w6 ⟨rfl, hw6, ht6⟩
        have HS6 := Lib.hid (HS0.out.put hB hw6 ht6)
        clear hw6 ht6 c0 c1 c2 c3 c4 c5 c6 c7 c8 c9 c10 c11 HN Hi5
        go_wp2_with fail
        go_roundw
        case rel => exact ⟨j + 1, by omega, by go_num, Lib.hid (by rw [Htk.out]; exact HS6.out)⟩
        case measure => simp [intOf]; omega
      · obtain rfl : j = cs.length := by omega
        have hS := Hj.out
        rw [List.take_length] at hS
        obtain ⟨_, v, hv1, hv2⟩ := hS.wr
        obtain ⟨A2, c2, rfl⟩ := own_sl hv2
        have x0 := hv1.cell 0 _ rfl
        have Hold := Lib.hid hS.old
        have Hv2 := Lib.hid hv2
        clear hS hv1 hv2 hlt
        go_wp2_with fail
        refine bodyPost_ret (results_tmp2 rfl _ _ _) rfl ⟨?_, Hold.out⟩
        unfold showA
        rw [Hq.out, if_pos rfl]
        exact ⟨A2, c2, rfl, row_base hB Hv2.out⟩
  · have hqb : (q != 0) = true := by simpa using hq0
    go_wp2_with fail
    refine bodyPost_ret (results_tmp2 rfl _ _ _) rfl ⟨?_, Hb1.out⟩
    unfold showA
    rw [Hq.out, if_neg hq0]
    rfl
end Go.Proofs.YtgmnoemkdigafaaDoor
