/- script.check at an if. script.check and checkAll at commands whose parts may be. The writer of tokens of package script: it puts a list of strings. -/
import Derived.Test.YtgmnoemkdigafaaDoorZB8
import Derived.Test.YtgmnoemkdigafaaDoorZB9
import Derived.Test.YtgmnoemkdigafaaDoorZB1
namespace Go.Proofs.YtgmnoemkdigafaaDoor
open Go.RowKit
set_option linter.unusedVariables false

set_option maxRecDepth 100000 in
set_option maxHeartbeats 8000000 in
theorem check_if (t : Tst) (th el : List Cmd) (hok : okT t) (hth : CkCs th) (hel : CkCs el) (h1 : ∀ c ∈ el, CkC c) : CkC (.mk 2 [] t th el) := by
  intro d vs w hd0 hd7 hv
  rw [chkC_if_ok]
  obtain ⟨Ax, cx, k2, m, p, lm, o, An, Ak, At, nn, cn, nk, ck, nt, ct, Ah, ch, Ae, ce, rfl, _, ht, hch, hce, hle⟩ := cmdV_cells hv
  have hln : th.length ≤ 1000000 ∧ el.length ≤ 1000000 := ⟨hle.2.2.2.2.1, hle.2.2.2.2.2⟩
  simp only [List.length_nil]
  have hb1 : Below w.heap.size w (w.alloc (.cells #[.int .i64 2, .slice Ax 0 cx, .int .i64 k2, .int .i64 m, .int .i64 p, .slice An nn cn, .slice Ak nk ck, .bool o, .int .i64 lm, .slice At nt ct, .slice Ah th.length ch, .slice Ae el.length ce] 34)) := bal (Below.refl _ w) _
  have hT := Bk.new w [.int .i64 2, .slice Ax 0 cx, .int .i64 k2, .int .i64 m, .int .i64 p, .slice An nn cn, .slice Ak nk ck, .bool o, .int .i64 lm, .slice At nt ct, .slice Ah th.length ch, .slice Ae el.length ce] 34
  have htc := fun W (hW : Below w.heap.size w W) => checkTest_calls _ t (Nat.le_refl _) hok 1 _ W (by omega) (by omega) (testV_later hW t _ ht)
  have htl := fun W (hW : Below w.heap.size w W) (h : ¬ 6 < d) => hth (d + 1) Ah ch W (by omega) (by omega) (cmdsAt_later hW th _ hch) hln.1
  have hec := fun W (hW : Below w.heap.size w W) (h : ¬ 6 < d) => hel (d + 1) Ae ce W (by omega) (by omega) (cmdsAt_later hW el _ hce) hln.2
  have HT := Lib.hid hT
  have Hb1 := Lib.hid hb1
  have Htc := Lib.hid htc
  have Htl := Lib.hid htl
  have Hec := Lib.hid hec
  have Hce := Lib.hid hce
  have H1 := Lib.hid h1
  clear hT hb1 htc htl hec hce h1 hv ht hch hle hok hth hel
  generalize hq1 : chkT t 1 = r1 at *
  generalize hq2 : chkCs th (d + 1) = r2 at *
  generalize hq3 : chkCs el (d + 1) = r3 at *
  generalize hres : (if 6 < d then (1 : Int) else if r1 ≠ 0 then r1 else if r2 ≠ 0 then r2 else chkCs el (if lone el = true then d else d + 1)) = res at *
  have Hres := Lib.hid hres
  have Hq3 := Lib.hid hq3
  clear hq1 hq2 hq3 hres
  go_enter Tryd.func42, Tryd.ntmps42
  go_upto_region 1 with fail
  generalize w.alloc (.cells #[.int .i64 2, .slice Ax 0 cx, .int .i64 k2, .int .i64 m, .int .i64 p, .slice An nn cn, .slice Ak nk ck, .bool o, .int .i64 lm, .slice At nt ct, .slice Ah th.length ch, .slice Ae el.length ce] 34) = w1 at *
  have x0 := HT.out.cell 0 _ rfl
  by_cases h6 : 6 < d
  · have hr := Hres.out
    rw [if_pos h6] at hr
    subst hr
    go_wp2_with fail
    go_ret
    exact ⟨rfl, Hb1.out⟩
  · have hr := Hres.out
    rw [if_neg h6] at hr
    have Hr := Lib.hid hr
    clear hr Hres
    have x1 := HT.out.cell 1 _ rfl
    have x2 := HT.out.cell 2 _ rfl
    have x3 := HT.out.cell 3 _ rfl
    have x4 := HT.out.cell 4 _ rfl
    have x5 := HT.out.cell 5 _ rfl
    have x6 := HT.out.cell 6 _ rfl
    have x7 := HT.out.cell 7 _ rfl
    have x8 := HT.out.cell 8 _ rfl
    have x9 := HT.out.cell 9 _ rfl
    have hi1 := Htc.out w1 Hb1.out
    have Hi1 := Lib.hid hi1
    clear hi1 Htc
    go_upto_region 8 with fail
    go_wp2_with fail
    refine Hi1.out.mono ?_
    rintro e w2 ⟨rfl, hb2⟩
    have HT2 := Lib.hid (HT.out.later hb2)
    have Hb2 := Lib.hid (btr Hb1.out hb2)
    clear hb2 Hi1 HT Hb1 x0 x1 x2 x3 x4 x5 x6 x7 x8 x9
    by_cases hr1 : r1 = 0
    · subst hr1
      have hr := Hr.out
      rw [if_neg (by simp)] at hr
      have Hr2 := Lib.hid hr
      clear hr Hr
      have x10 := HT2.out.cell 10 _ rfl
      have hi2 := Htl.out w2 Hb2.out h6
      have Hi2 := Lib.hid hi2
      clear hi2 Htl
      have hd6 : d ≤ 6 := by omega
      go_wp2_with fail
      refine Hi2.out.mono ?_
      rintro e w3 ⟨rfl, hb3⟩
      have HT3 := Lib.hid (HT2.out.later hb3)
      have Hb3 := Lib.hid (btr Hb2.out hb3)
      clear hb3 Hi2 HT2 Hb2 x10
      by_cases hr2 : r2 = 0
      · subst hr2
        have hr := Hr2.out
        rw [if_neg (by simp)] at hr
        have x11 := HT3.out.cell 11 _ rfl
        by_cases hlone : el.length = 1
        · obtain ⟨b, off, s, k3, Bx, nx, dx, k4, m2, p2, lm2, o2, Bn, Bk, Bt, n1, d1, n2, d2, n3, d3, Bh, nh, dh, Be, ne, de, hAe, hmem, hgt, hdr, hki, huv, c0, c1, c2, c3, c4, c5, c6, c7, c8, c9, c10, c11⟩ := cmdsAt_round Hb3.out Hce.out (j := 0) (by omega)
          subst hAe
          simp only [Nat.zero_mul, Nat.add_zero] at c0 c1 c2 c3 c4 c5 c6 c7 c8 c9 c10 c11
          obtain rfl : el = [s] := by
            obtain ⟨s', rfl⟩ := List.length_eq_one_iff.1 hlone
            simp at hmem
            rw [hmem]
          by_cases hk3 : k3 = 2
          · subst hk3
            have hl : lone [s] = true := by simp [lone, hki]
            rw [hl, if_pos rfl] at hr
            have hi3 := H1.out s (by simp) d _ w3 hd0 hd7 (cmdV_later Hb3.out s _ huv)
            have hss : chkCs [s] d = chkC s d := by
              rw [chkCs, chkCs]
              by_cases h : chkC s d ≠ 0
              · rw [if_pos h]
              · rw [if_neg h]; exact (Decidable.not_not.1 h).symm
            rw [hss] at hr
            rw [hr] at hi3
            have Hi3 := Lib.hid hi3
            clear hi3 hr hss hl hki hdr hgt hmem huv hlone Hec H1 Hr2
            simp only [List.length_singleton] at x11
            go_wp2_with fail
            refine Hi3.out.mono ?_
            rintro e w4 ⟨rfl, hb4⟩
            have Hb4 := Lib.hid (btr Hb3.out hb4)
            clear hb4 c0 c1 c2 c3 c4 c5 c6 c7 c8 c9 c10 c11
            go_wp2_with fail
            go_ret
            exact ⟨rfl, Hb4.out⟩
          · have hl : lone [s] = false := by simp [lone, hki, hk3]
            rw [hl, if_neg (by decide), Hq3.out] at hr
            have hk4 : (k3 == 2) = false := by rw [beq_eq_false_iff_ne]; exact hk3
            have hi3 := Hec.out w3 Hb3.out h6
            have Hi3 := Lib.hid hi3
            subst hr
            clear hi3 hl hki hdr hgt hmem huv hlone Hec H1 Hr2 hk3 c1 c2 c3 c4 c5 c6 c7 c8 c9 c10 c11
            simp only [List.length_singleton] at x11
            go_wp2_with fail
            refine Hi3.out.mono ?_
            rintro e w4 ⟨rfl, hb4⟩
            have Hb4 := Lib.hid (btr Hb3.out hb4)
            clear hb4
            go_wp2_with fail
            go_ret
            exact ⟨rfl, Hb4.out⟩
        · have e1 : ((el.length : Int) == 1) = false := by rw [beq_eq_false_iff_ne]; omega
          have hl : lone el = false := by
            cases h : lone el with
            | false => rfl
            | true =>
              obtain ⟨c, rfl, _⟩ := lone_true h
              exact absurd rfl hlone
          rw [hl, if_neg (by decide), Hq3.out] at hr
          have hi3 := Hec.out w3 Hb3.out h6
          have Hi3 := Lib.hid hi3
          subst hr
          clear hi3 hl hlone Hec H1 Hr2
          go_wp2_with fail
          refine Hi3.out.mono ?_
          rintro e w4 ⟨rfl, hb4⟩
          have Hb4 := Lib.hid (btr Hb3.out hb4)
          clear hb4
          go_wp2_with fail
          go_ret
          exact ⟨rfl, Hb4.out⟩
      · have hr := Hr2.out
        rw [if_pos hr2] at hr
        have hqb : (r2 != 0) = true := by simpa using hr2
        subst hr
        clear hr2 Hr2 Hec H1 Hce
        go_wp2_with fail
        go_ret
        exact ⟨rfl, Hb3.out⟩
    · have hr := Hr.out
      rw [if_pos hr1] at hr
      have hqb : (r1 != 0) = true := by simpa using hr1
      subst hr
      clear hr1 Hr Htl Hec H1 Hce
      go_wp2_with fail
      go_ret
      exact ⟨rfl, Hb2.out⟩
end Go.Proofs.YtgmnoemkdigafaaDoor
namespace Go.Proofs.YtgmnoemkdigafaaDoor
open Go.RowKit
set_option linter.unusedVariables false

theorem chkcmd_calls : ∀ (N : Nat) (c : Cmd), SizeOf.sizeOf c ≤ N → okC c → CkC c
  | 0, c, hN, _ => by cases c; simp at hN
  | N + 1, c, hN, hok => by
    obtain ⟨k, tx, t, th, el⟩ := c
    unfold okC at hok
    rcases hok with ⟨rfl, rfl, h1, h2, h3⟩ | ⟨h1, h2, h3, h4, rfl, rfl, rfl⟩
    · have hth : ∀ c ∈ th, CkC c := fun c hc => chkcmd_calls N c (by
        have h := List.sizeOf_lt_of_mem hc
        simp only [Cmd.mk.sizeOf_spec] at hN
        omega) (okCs_mem th c h2 hc)
      have hel : ∀ c ∈ el, CkC c := fun c hc => chkcmd_calls N c (by
        have h := List.sizeOf_lt_of_mem hc
        simp only [Cmd.mk.sizeOf_spec] at hN
        omega) (okCs_mem el c h3 hc)
      exact check_if t th el h1 (checkAll_of th hth) (checkAll_of el hel) hel
    · exact check_other k tx h1 h2 h3 h4
theorem checkAll_calls (cs : List Cmd) (h : okCs cs) : CkCs cs := checkAll_of cs fun c hc => chkcmd_calls _ c (Nat.le_refl _) (okCs_mem cs c h hc)
end Go.Proofs.YtgmnoemkdigafaaDoor
namespace Go.Proofs.YtgmnoemkdigafaaDoor
open Go.RowKit
set_option linter.unusedVariables false

theorem flag_calls (b : Bool) (W : World) : Calls Tryd.prog 67 #[.bool b] W fun e w' => e = .returned (.int .i64 (if b = true then 1 else 0)) ∧ W = w' := by
  cases b
  all_goals (
    go_enter Tryd.func67, Tryd.ntmps67
    go_wp2
    go_ret
    exact ⟨rfl, rfl⟩)
theorem listTks_append : ∀ (i : Nat) (a b : List ByteArray), listTks i (a ++ b) = listTks i a ++ listTks (i + a.length) b
  | i, [], b => by simp [listTks]
  | i, s :: a, b => by
    simp only [List.cons_append, listTks, List.length_cons]
    rw [listTks_append (i + 1) a b, show i + 1 + a.length = i + (a.length + 1) by omega]
theorem listTks_len : ∀ (i : Nat) (a : List ByteArray), (listTks i a).length = 2 * a.length
  | i, [] => rfl
  | i, s :: a => by
    simp only [listTks, List.length_cons]
    rw [listTks_len (i + 1) a]; omega
theorem listTk_many (l : List ByteArray) (h : l.length ≠ 1) : listTk l = listTks 0 l ++ [markTk 93] := by
  match l with
  | [] => rfl
  | [s] => simp at h
  | a :: b :: r => rfl
/-- How far a writer's work has come. -/
structure WSt (B : Nat) (w0 W W' : World) (c : Nat) (l : List Tok) : Prop where
  wr : Wr B W' c l
  tw : Tw B W W'
  old : Below w0.heap.size w0 W'
theorem WSt.alloc {B : Nat} {w0 W W' : World} {c : Nat} {l : List Tok} (h : WSt B w0 W W' c l) (o : Obj) : WSt B w0 W (W'.alloc o) c l := by
  have hb : Below W'.heap.size W' (W'.alloc o) := bal (Below.refl _ _) _
  have hB : B ≤ W'.heap.size := by
    obtain ⟨h1, v, h2, h3⟩ := h.wr
    have := h2.lt
    omega
  exact ⟨h.wr.later hb, h.tw.trans (tw_later hB hb), btr h.old hb⟩
theorem WSt.put {B : Nat} {w0 W W' W2 : World} {c : Nat} {l l2 : List Tok} (h : WSt B w0 W W' c l) (hB : w0.heap.size ≤ B) (h1 : Wr B W2 c l2) (h2 : Tw B W' W2) : WSt B w0 W W2 c l2 :=
  ⟨h1, h.tw.trans h2, h.old.trans (h2.below.mono hB)⟩
set_option maxRecDepth 100000 in
set_option maxHeartbeats 8000000 in
theorem wlist_calls (B c : Nat) (l : List Tok) (ss : List ByteArray) (A : Option Addr) (cp : Nat) (w0 W : World) (hA : TxAt w0 A ss) (hB : w0.heap.size ≤ B) (hb : Below w0.heap.size w0 W) (h : Wr B W c l) (hl : l.length + 2 * ss.length ≤ 900000) :
    Calls Tryd.prog 45 #[.pointer (some ⟨c, 0, none⟩), .slice A ss.length cp] W fun e W' => e = .returned (.tuple #[]) ∧ Wr B W' c (l ++ listTk ss) ∧ Tw B W W' := by
  have Hs := Lib.hid (WSt.mk h (Tw.refl B W) hb)
  have HA := Lib.hid hA
  clear h hA hb
  by_cases h1 : ss.length = 1
  · obtain ⟨s, rfl⟩ := List.length_eq_one_iff.1 h1
    obtain ⟨g, off, rfl, hc⟩ := HA.out.resolve_left (by simp)
    have c0 := cell_later Hs.out.old (hc 0 s rfl)
    have hp := put_calls B c l 4 s W Hs.out.wr (by omega)
    have Hp := Lib.hid hp
    clear hp h1 hc
    simp only [List.length_singleton, Nat.add_zero] at c0 ⊢
    go_enter Tryd.func45, Tryd.ntmps45
    go_wp2_with fail
    refine Hp.out.mono ?_
    rintro e W1 ⟨rfl, hw, ht⟩
    have Hw := Lib.hid hw
    have Ht := Lib.hid ht
    clear hw ht
    go_wp2_with fail
    exact bodyPost_ret (results_none rfl _ _ _) rfl ⟨rfl, Hw.out, Ht.out⟩
  · have e1 : ((ss.length : Int) == 1) = false := by rw [beq_eq_false_iff_ne]; omega
    have hlk := listTk_many ss h1
    have Hlk := Lib.hid hlk
    clear hlk h1
    go_enter Tryd.func45, Tryd.ntmps45
    go_wp2_with fail
    go_loopw [16] (fun i wr => ∃ j : Nat, j ≤ ss.length ∧ i = .int .i64 j ∧ Hid (WSt B w0 W wr c (l ++ listTks 0 (ss.take j)))) (fun i _ => ss.length - (intOf i).toNat)
    case atStart => exact ⟨0, Nat.zero_le _, rfl, Lib.hid (by simpa [listTks] using Hs.out)⟩
    case round =>
      obtain ⟨j, hj, rfl, Hj⟩ := hrel
      by_cases hlt : j < ss.length
      · obtain ⟨g, off, rfl, hc⟩ := HA.out.resolve_left (by intro e; rw [e] at hlt; simp at hlt)
        obtain ⟨s, hs⟩ : ∃ s, ss[j]? = some s := ⟨ss[j], by simp [hlt]⟩
        have c0 := cell_later Hj.out.old (hc j s hs)
        have htk : l ++ listTks 0 (ss.take (j + 1)) = l ++ listTks 0 (ss.take j) ++ [markTk (if j = 0 then 91 else 44)] ++ [strTk s] := by
          rw [List.take_add_one, hs, Option.toList_some, listTks_append, List.length_take, Nat.min_eq_left hj]
          simp [listTks]
        have hln : (l ++ listTks 0 (ss.take j)).length + 2 ≤ 900000 := by
          rw [List.length_append, listTks_len, List.length_take]; omega
        have Htk := Lib.hid htk
        generalize l ++ listTks 0 (ss.take j) = lj at *
        have hF := Bk.new wr [.string ⟨#[44]⟩, .string ⟨#[91]⟩] 9
        have hS1 := Hj.out.alloc (.cells #[.string ⟨#[44]⟩, .string ⟨#[91]⟩] 9)
        have f0 := hF.cell 0 _ rfl
        have f1 := hF.cell 1 _ rfl
        have HS1 := Lib.hid hS1
        have hj0 : (0 : Int) ≤ (j : Int) := by omega
        have hjn : (j : Int) < (ss.length : Int) := by omega
        clear hF hS1 htk hc hs
        by_cases hz : j = 0
        · have ez : ((j : Int) == 0) = true := by rw [hz]; rfl
          rw [if_pos hz] at Htk
          clear hz
          have hp := put_calls B c lj 5 ⟨#[91]⟩ _ HS1.out.wr (by omega)
          have Hp := Lib.hid hp
          clear hp
          go_wp2_with (go_at_call 67; refine (flag_calls _ _).mono ?_; rintro e w' ⟨rfl, rfl⟩)
          refine Hp.out.mono ?_
          rintro e W1 ⟨rfl, hw1, ht1⟩
          have hp2 := put_calls B c (lj ++ [⟨5, ⟨#[91]⟩, 0⟩]) 4 s W1 hw1 (by rw [List.length_append, List.length_singleton]; omega)
          have Hp2 := Lib.hid hp2
          have HS2 := Lib.hid (HS1.out.put hB hw1 ht1)
          clear hp2 hw1 ht1 f0 f1 c0
          go_wp2_with fail
          refine Hp2.out.mono ?_
          rintro e W2 ⟨rfl, hw2, ht2⟩
          have HS3 := Lib.hid (HS2.out.put hB hw2 ht2)
          clear hw2 ht2
          go_wp2_with fail
          go_roundw
          case rel => exact ⟨j + 1, by omega, by go_num, Lib.hid (by rw [Htk.out]; exact HS3.out)⟩
          case measure => simp [intOf]; omega
        · have ez : ((j : Int) == 0) = false := by rw [beq_eq_false_iff_ne]; omega
          rw [if_neg hz] at Htk
          clear hz
          have hp := put_calls B c lj 5 ⟨#[44]⟩ _ HS1.out.wr (by omega)
          have Hp := Lib.hid hp
          clear hp
          go_wp2_with (go_at_call 67; refine (flag_calls _ _).mono ?_; rintro e w' ⟨rfl, rfl⟩)
          refine Hp.out.mono ?_
          rintro e W1 ⟨rfl, hw1, ht1⟩
          have hp2 := put_calls B c (lj ++ [⟨5, ⟨#[44]⟩, 0⟩]) 4 s W1 hw1 (by rw [List.length_append, List.length_singleton]; omega)
          have Hp2 := Lib.hid hp2
          have HS2 := Lib.hid (HS1.out.put hB hw1 ht1)
          clear hp2 hw1 ht1 f0 f1 c0
          go_wp2_with fail
          refine Hp2.out.mono ?_
          rintro e W2 ⟨rfl, hw2, ht2⟩
          have HS3 := Lib.hid (HS2.out.put hB hw2 ht2)
          clear hw2 ht2
          go_wp2_with fail
          go_roundw
          case rel => exact ⟨j + 1, by omega, by go_num, Lib.hid (by rw [Htk.out]; exact HS3.out)⟩
          case measure => simp [intOf]; omega
      · obtain rfl : j = ss.length := by omega
        have hS := Hj.out
        rw [List.take_length] at hS
        have hp := put_calls B c (l ++ listTks 0 ss) 5 ⟨#[93]⟩ wr hS.wr (by rw [List.length_append, listTks_len]; omega)
        have Hp := Lib.hid hp
        have HS := Lib.hid hS
        clear hp hS hlt
        go_wp2_with fail
        refine Hp.out.mono ?_
        rintro e W1 ⟨rfl, hw1, ht1⟩
        have Hw1 := Lib.hid hw1
        have Ht1 := Lib.hid (HS.out.tw.trans ht1)
        clear hw1 ht1
        go_wp2_with fail
        go_end0
        exact ⟨rfl, by rw [Hlk.out, ← List.append_assoc]; exact Hw1.out, Ht1.out⟩
end Go.Proofs.YtgmnoemkdigafaaDoor
