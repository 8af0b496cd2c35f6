/- The writer of tokens of package script: it puts a test. -/
import Derived.Test.YtgmnoemkdigafaaDoorZB10
import Derived.Test.YtgmnoemkdigafaaDoorZB1
import Derived.Deep.DeepCutAuto
import Derived.RegionTactic
import Derived.BigRegion
import Derived.Deep.RegionLaw
import Derived.Deep.AppendLies
namespace Go.Proofs.YtgmnoemkdigafaaDoor
open Go.RowKit
set_option linter.unusedVariables false

/-- The tables of words. -/
structure TabsAt (w : World) : Prop where
  ts : ∀ k : Nat, k < 11 → w.cell? ⟨3, k, none⟩ = some (.string (mkS (testsW.getD k [])))
  ps : ∀ k : Nat, k < 4 → w.cell? ⟨4, k, none⟩ = some (.string (mkS (partsW.getD k [])))
  ms : ∀ k : Nat, k < 4 → w.cell? ⟨5, k, none⟩ = some (.string (mkS (matchesW.getD k [])))
  cs : ∀ k : Nat, k < 11 → w.cell? ⟨2, k, none⟩ = some (.string (mkS (commandsW.getD k [])))
theorem TabsAt.later {w w' : World} (hb : Below w.heap.size w w') (h : TabsAt w) : TabsAt w' :=
  ⟨fun k hk => cell_later hb (h.ts k hk), fun k hk => cell_later hb (h.ps k hk), fun k hk => cell_later hb (h.ms k hk), fun k hk => cell_later hb (h.cs k hk)⟩
theorem listTk_len (l : List ByteArray) : 2 * l.length ≤ (listTk l).length + 1 := by
  match l with
  | [] => simp
  | [s] => simp [listTk]
  | a :: b :: r => rw [listTk_many _ (by simp), List.length_append, listTks_len]; simp; omega
theorem testsTk_snoc : ∀ (i : Nat) (a : List Tst) (t : Tst), testsTk i (a ++ [t]) = testsTk i a ++ (markTk (if i + a.length = 0 then 40 else 44) :: testTk t)
  | i, [], t => by simp [testsTk]
  | i, s :: a, t => by
    rw [List.cons_append, testsTk, testsTk_snoc (i + 1) a t, testsTk]
    simp only [List.length_cons, List.cons_append, List.append_assoc]
    rw [if_neg (show ¬ i + 1 + a.length = 0 by omega), if_neg (show ¬ i + (a.length + 1) = 0 by omega)]
theorem testsTk_take (i : Nat) (ts : List Tst) (j : Nat) : (testsTk i (ts.take j)).length ≤ (testsTk i ts).length := by
  induction ts generalizing i j with
  | nil => simp
  | cons s a ih =>
    cases j with
    | zero => simp [testsTk]
    | succ j =>
      rw [List.take_succ_cons, testsTk, testsTk]
      simp only [List.length_cons, List.length_append]
      have := ih (i + 1) j
      omega
/-- The words of a leaf. -/
theorem testTk_leaf (k : Int) (hk : k = 1 ∨ k = 2) : testTk (.mk k 0 0 [] [] false 0 []) = [wordTk (wAt testsW k)] := by
  unfold testTk
  rcases hk with rfl | rfl <;> rfl
set_option maxRecDepth 100000 in
set_option maxHeartbeats 8000000 in
theorem wtest_calls : ∀ (N : Nat) (t : Tst), SizeOf.sizeOf t ≤ N → okT t → ∀ (B c : Nat) (l : List Tok) (vs : List Value) (w0 W : World), TestV w0 t vs → TabsAt w0 → w0.heap.size ≤ B → Below w0.heap.size w0 W → Wr B W c l → l.length + (testTk t).length ≤ 800000 →
    Calls Tryd.prog 65 #[.pointer (some ⟨c, 0, none⟩), .agg vs.toArray] W fun e W' => e = .returned (.tuple #[]) ∧ Wr B W' c (l ++ testTk t) ∧ Tw B W W'
  | 0, t, hN, _, _, _, _, _, _, _, _, _, _, _, _, _ => by cases t; simp at hN
  | N + 1, t, hN, hok, B, c, l, vs, w0, W, hv, htab, hB, hb, h, hlen => by
    have ih := wtest_calls N
    obtain ⟨k, m, p, ns, ks, o, lm, ts⟩ := t
    unfold okT at hok
    obtain ⟨hk1, hk10, hf, hts⟩ := hok
    have hff := form_facts hf
    unfold TestV at hv
    obtain ⟨An, cn, Ak, ck, At, ct, rfl, hn, hks, hta, hle⟩ := hv
    have hih : ∀ t ∈ ts, ∀ (l : List Tok) (vs : List Value) (W : World), TestV w0 t vs → Below w0.heap.size w0 W → Wr B W c l → l.length + (testTk t).length ≤ 800000 → Calls Tryd.prog 65 #[.pointer (some ⟨c, 0, none⟩), .agg vs.toArray] W fun e W' => e = .returned (.tuple #[]) ∧ Wr B W' c (l ++ testTk t) ∧ Tw B W W' := fun t ht l vs W h1 h2 h3 h4 => ih t (by
      have h1 := List.sizeOf_lt_of_mem ht
      simp only [Tst.mk.sizeOf_spec] at hN
      omega) (okTs_mem ts t hts ht) B c l vs w0 W h1 htab hB h2 h3 h4
    have hln3 : ts.length ≤ 1000000 := hle.2.2.2.2.2
    have hs0 : WSt B w0 W W c l := ⟨h, Tw.refl B W, hb⟩
    have hs1 := hs0.alloc (.cells #[.int .i64 k, .int .i64 m, .int .i64 p, .slice An ns.length cn, .slice Ak ks.length ck, .bool o, .int .i64 lm, .slice At ts.length ct] 31)
    have hT := Bk.new W [.int .i64 k, .int .i64 m, .int .i64 p, .slice An ns.length cn, .slice Ak ks.length ck, .bool o, .int .i64 lm, .slice At ts.length ct] 31
    have Hih := Lib.hid hih
    have Hta := Lib.hid hta
    have Hn := Lib.hid hn
    have Hks := Lib.hid hks
    have HT := Lib.hid hT
    have Hs1 := Lib.hid hs1
    have Hff := Lib.hid hff
    have Htab := Lib.hid htab
    have hll : l.length + 1 ≤ 800000 := by
      unfold testTk at hlen
      rw [List.length_cons] at hlen
      omega
    have Hlen := Lib.hid hlen
    clear hih hta hn hks hT hs1 hs0 hff hf htab h hb ih hN hts hle hlen
    obtain ⟨k', rfl⟩ : ∃ n : Nat, k = n := ⟨k.toNat, by omega⟩
    have hk' : k' < 11 := by omega
    have tc := cell_later Hs1.out.old (Htab.out.ts k' hk')
    have hp := put_calls B c l 1 (mkS (testsW.getD k' [])) _ Hs1.out.wr (by omega)
    have Hp := Lib.hid hp
    have kk0 : (0 : Int) ≤ (k' : Int) := by omega
    have kk1 : (k' : Int) < 11 := by omega
    have hk1' : 1 ≤ k' := by omega
    clear hp hk1 hk10
    go_enter Tryd.func65, Tryd.ntmps65
    go_upto_region 1 with fail
    generalize W.alloc (.cells #[.int .i64 (k' : Int), .int .i64 m, .int .i64 p, .slice An ns.length cn, .slice Ak ks.length ck, .bool o, .int .i64 lm, .slice At ts.length ct] 31) = w1 at *
    have x0 := HT.out.cell 0 _ rfl
    go_wp2_with fail
    refine Hp.out.mono ?_
    rintro e w2 ⟨rfl, hw2, ht2⟩
    have Hs2 := Lib.hid (Hs1.out.put hB hw2 ht2)
    have HT2 := Lib.hid (ht2.bk _ _ _ HT.out (by decide) (by decide))
    clear hw2 ht2 Hp x0 tc HT Hs1
    have x0 := HT2.out.cell 0 _ rfl
    have x7 := HT2.out.cell 7 _ rfl
    obtain ⟨f3, f45, f68, f78, f9, f10, g9, g8, g7, g10, g5⟩ := Hff.out
    have hkc : k' = 1 ∨ k' = 2 ∨ k' = 3 ∨ k' = 4 ∨ k' = 5 ∨ k' = 6 ∨ k' = 7 ∨ k' = 8 ∨ k' = 9 ∨ k' = 10 := by omega
    clear Hff hk' hk1' kk0 kk1
    rcases hkc with rfl | rfl | rfl | rfl | rfl | rfl | rfl | rfl | rfl | rfl
    · have e : testTk (.mk 1 m p ns ks o lm ts) = [wordTk (wAt testsW 1)] := by
        unfold testTk
        rw [if_neg (by decide), if_neg (by decide), if_neg (by decide), if_neg (by decide)]
      have E := Lib.hid e
      clear e f3 f45 f68 f78 f9 f10 g9 g8 g7 g10 g5
      go_wp2_with fail
      go_end0
      exact ⟨rfl, by rw [show ((1 : Nat) : Int) = 1 from rfl, E.out]; exact Hs2.out.wr, Hs2.out.tw⟩
    · have e : testTk (.mk 2 m p ns ks o lm ts) = [wordTk (wAt testsW 2)] := by
        unfold testTk
        rw [if_neg (by decide), if_neg (by decide), if_neg (by decide), if_neg (by decide)]
      have E := Lib.hid e
      clear e f3 f45 f68 f78 f9 f10 g9 g8 g7 g10 g5
      go_wp2_with fail
      go_end0
      exact ⟨rfl, by rw [show ((2 : Nat) : Int) = 2 from rfl, E.out]; exact Hs2.out.wr, Hs2.out.tw⟩
    · obtain ⟨t1, rfl⟩ := List.length_eq_one_iff.1 (f3 rfl)
      have e : testTk (.mk 3 m p ns ks o lm [t1]) = wordTk (wAt testsW 3) :: testTk t1 := by
        rw [testTk, if_pos (.inl rfl), if_pos rfl, testsTk1]
      have hl3 := Hlen.out
      rw [show ((3 : Nat) : Int) = 3 from rfl, e, List.length_cons] at hl3
      have E := Lib.hid e
      obtain ⟨b, off, s, k2, m2, p2, lm2, o2, An2, Ak2, At2, nn2, cn2, nk2, ck2, nt2, ct2, rfl, hmem, hdr, huv, d0, d1, d2, d3, d4, d5, d6, d7⟩ := testsAt_round (Below.refl _ w0) Hta.out (j := 0) (by simp)
      obtain rfl : s = t1 := by simpa using hmem
      have c0 := cell_later Hs2.out.old d0
      have c1 := cell_later Hs2.out.old d1
      have c2 := cell_later Hs2.out.old d2
      have c3 := cell_later Hs2.out.old d3
      have c4 := cell_later Hs2.out.old d4
      have c5 := cell_later Hs2.out.old d5
      have c6 := cell_later Hs2.out.old d6
      have c7 := cell_later Hs2.out.old d7
      simp only [Nat.zero_mul, Nat.add_zero] at c0 c1 c2 c3 c4 c5 c6 c7
      have hi := Hih.out s (by simp) (l ++ [⟨1, mkS (testsW.getD 3 []), 0⟩]) _ w2 huv Hs2.out.old Hs2.out.wr (by rw [List.length_append, List.length_singleton]; omega)
      have Hi := Lib.hid hi
      clear e f3 f45 f68 f78 f9 f10 g9 g8 g7 g10 g5 hi hl3 d0 d1 d2 d3 d4 d5 d6 d7 huv hmem hdr
      simp only [List.length_singleton] at x7
      go_wp2_with fail
      refine Hi.out.mono ?_
      rintro e w3 ⟨rfl, hw3, ht3⟩
      have Hs3 := Lib.hid (Hs2.out.put hB hw3 ht3)
      clear hw3 ht3
      go_wp2_with fail
      go_end0
      exact ⟨rfl, by rw [show ((3 : Nat) : Int) = 3 from rfl, E.out, ← List.singleton_append, ← List.append_assoc]; exact Hs3.out.wr, Hs3.out.tw⟩
    · have e : testTk (.mk 4 m p ns ks o lm ts) = wordTk (wAt testsW 4) :: (testsTk 0 ts ++ [markTk 41]) := by
        rw [testTk, if_pos (by decide), if_neg (by decide)]
      have hl3 := Hlen.out
      rw [show ((4 : Nat) : Int) = 4 from rfl, e] at hl3
      simp only [List.length_cons, List.length_append, List.length_nil] at hl3
      have E := Lib.hid e
      clear e f3 f45 f68 f78 f9 f10 g9 g8 g7 g10 g5
      go_upto_region 7 with fail
      go_wp2_with fail
      go_loopw [28] (fun i wr => ∃ j : Nat, j ≤ ts.length ∧ i = .int .i64 j ∧ Hid (WSt B w0 W wr c (l ++ [(⟨1, mkS (testsW.getD 4 []), 0⟩ : Tok)] ++ testsTk 0 (ts.take j)))) (fun i _ => ts.length - (intOf i).toNat)
      case atStart => exact ⟨0, Nat.zero_le _, rfl, Lib.hid (by simpa [testsTk] using Hs2.out)⟩
      case round =>
        obtain ⟨j, hj, rfl, Hj⟩ := hrel
        by_cases hlt : j < ts.length
        · obtain ⟨b, off, s, k2, m2, p2, lm2, o2, An2, Ak2, At2, nn2, cn2, nk2, ck2, nt2, ct2, rfl, hmem, hdr, huv, d0, d1, d2, d3, d4, d5, d6, d7⟩ := testsAt_round (Below.refl _ w0) Hta.out hlt
          have c0 := cell_later Hj.out.old d0
          have c1 := cell_later Hj.out.old d1
          have c2 := cell_later Hj.out.old d2
          have c3 := cell_later Hj.out.old d3
          have c4 := cell_later Hj.out.old d4
          have c5 := cell_later Hj.out.old d5
          have c6 := cell_later Hj.out.old d6
          have c7 := cell_later Hj.out.old d7
          have hsj : ts[j]? = some s := by
            have h := congrArg (fun l => l[0]?) hdr
            simpa [List.getElem?_drop] using h
          have htk0 : testsTk 0 (ts.take (j + 1)) = testsTk 0 (ts.take j) ++ (markTk (if j = 0 then 40 else 44) :: testTk s) := by
            rw [List.take_add_one, hsj, Option.toList_some, testsTk_snoc, List.length_take, Nat.min_eq_left hj, Nat.zero_add]
          have hln := testsTk_take 0 ts (j + 1)
          rw [htk0, List.length_append, List.length_cons] at hln
          have htk : l ++ [(⟨1, mkS (testsW.getD 4 []), 0⟩ : Tok)] ++ testsTk 0 (ts.take (j + 1)) = l ++ [(⟨1, mkS (testsW.getD 4 []), 0⟩ : Tok)] ++ testsTk 0 (ts.take j) ++ [markTk (if j = 0 then 40 else 44)] ++ testTk s := by
            rw [htk0]; simp
          have hlj : (l ++ [(⟨1, mkS (testsW.getD 4 []), 0⟩ : Tok)] ++ testsTk 0 (ts.take j)).length + 1 + (testTk s).length ≤ 800000 := by
            simp only [List.length_append, List.length_singleton]; omega
          have Htk := Lib.hid htk
          generalize l ++ [(⟨1, mkS (testsW.getD 4 []), 0⟩ : Tok)] ++ testsTk 0 (ts.take j) = lj at *
          have hih := fun (l : List Tok) (W : World) (h2 : Below w0.heap.size w0 W) (h3 : Wr B W c l) h4 => Hih.out s hmem l _ W huv h2 h3 h4
          have Hi := Lib.hid hih
          have hN := Bk.new wr [.int .i64 k2, .int .i64 m2, .int .i64 p2, .slice An2 nn2 cn2, .slice Ak2 nk2 ck2, .bool o2, .int .i64 lm2, .slice At2 nt2 ct2] 31
          have hS1 := (Hj.out.alloc (.cells #[.int .i64 k2, .int .i64 m2, .int .i64 p2, .slice An2 nn2 cn2, .slice Ak2 nk2 ck2, .bool o2, .int .i64 lm2, .slice At2 nt2 ct2] 31))
          have HN := Lib.hid hN
          have HS0 := Lib.hid hS1
          have hj0 : (0 : Int) ≤ (j : Int) := by omega
          have hjn : (j : Int) < (ts.length : Int) := by omega
          clear hN hS1 hih htk htk0 hln d0 d1 d2 d3 d4 d5 d6 d7 huv hmem hdr hsj hl3
          go_upto_region 10 with fail
          generalize wr.alloc (.cells #[.int .i64 k2, .int .i64 m2, .int .i64 p2, .slice An2 nn2 cn2, .slice Ak2 nk2 ck2, .bool o2, .int .i64 lm2, .slice At2 nt2 ct2] 31) = w7 at *
          clear c0 c1 c2 c3 c4 c5 c6 c7
          have hF := Bk.new w7 [.string ⟨#[44]⟩, .string ⟨#[40]⟩] 9
          have f0 := hF.cell 0 _ rfl
          have f1 := hF.cell 1 _ rfl
          have HS1 := Lib.hid (HS0.out.alloc (.cells #[.string ⟨#[44]⟩, .string ⟨#[40]⟩] 9))
          have HN1 := Lib.hid (HN.out.alloc (.cells #[.string ⟨#[44]⟩, .string ⟨#[40]⟩] 9))
          clear hF HS0 HN
          by_cases hz : j = 0
          · have ez : ((j : Int) == 0) = true := by rw [hz]; rfl
            rw [if_pos hz] at Htk
            clear hz
            have hp := put_calls B c lj 5 ⟨#[40]⟩ _ HS1.out.wr (by omega)
            have Hp := Lib.hid hp
            clear hp
            go_wp2_with (go_at_call 67; refine (flag_calls _ _).mono ?_; rintro e w' ⟨rfl, rfl⟩)
            refine Hp.out.mono ?_
            rintro e w8 ⟨rfl, hw8, ht8⟩
            have HS8 := Lib.hid (HS1.out.put hB hw8 ht8)
            have hN8 := ht8.bk _ _ _ HN1.out (by decide) (by decide)
            have c0 := hN8.cell 0 _ rfl
            have c1 := hN8.cell 1 _ rfl
            have c2 := hN8.cell 2 _ rfl
            have c3 := hN8.cell 3 _ rfl
            have c4 := hN8.cell 4 _ rfl
            have c5 := hN8.cell 5 _ rfl
            have c6 := hN8.cell 6 _ rfl
            have c7 := hN8.cell 7 _ rfl
            have hi := Hi.out (lj ++ [⟨5, ⟨#[40]⟩, 0⟩]) w8 HS8.out.old HS8.out.wr (by rw [List.length_append, List.length_singleton]; omega)
            have Hi8 := Lib.hid hi
            clear hw8 ht8 hN8 hi f0 f1
            go_wp2_with fail
            refine Hi8.out.mono ?_
            rintro e w9 ⟨rfl, hw9, ht9⟩
            have HS9 := Lib.hid (HS8.out.put hB hw9 ht9)
            clear hw9 ht9 c0 c1 c2 c3 c4 c5 c6 c7
            go_wp2_with fail
            go_roundw
            case rel => exact ⟨j + 1, by omega, by go_num, Lib.hid (by rw [Htk.out]; exact HS9.out)⟩
            case measure => simp [intOf]; omega
          · have ez : ((j : Int) == 0) = false := by rw [beq_eq_false_iff_ne]; omega
            rw [if_neg hz] at Htk
            clear hz
            have hp := put_calls B c lj 5 ⟨#[44]⟩ _ HS1.out.wr (by omega)
            have Hp := Lib.hid hp
            clear hp
            go_wp2_with (go_at_call 67; refine (flag_calls _ _).mono ?_; rintro e w' ⟨rfl, rfl⟩)
            refine Hp.out.mono ?_
            rintro e w8 ⟨rfl, hw8, ht8⟩
            have HS8 := Lib.hid (HS1.out.put hB hw8 ht8)
            have hN8 := ht8.bk _ _ _ HN1.out (by decide) (by decide)
            have c0 := hN8.cell 0 _ rfl
            have c1 := hN8.cell 1 _ rfl
            have c2 := hN8.cell 2 _ rfl
            have c3 := hN8.cell 3 _ rfl
            have c4 := hN8.cell 4 _ rfl
            have c5 := hN8.cell 5 _ rfl
            have c6 := hN8.cell 6 _ rfl
            have c7 := hN8.cell 7 _ rfl
            have hi := Hi.out (lj ++ [⟨5, ⟨#[44]⟩, 0⟩]) w8 HS8.out.old HS8.out.wr (by rw [List.length_append, List.length_singleton]; omega)
            have Hi8 := Lib.hid hi
            clear hw8 ht8 hN8 hi f0 f1
            go_wp2_with fail
            refine Hi8.out.mono ?_
            rintro e w9 ⟨rfl, hw9, ht9⟩
            have HS9 := Lib.hid (HS8.out.put hB hw9 ht9)
            clear hw9 ht9 c0 c1 c2 c3 c4 c5 c6 c7
            go_wp2_with fail
            go_roundw
            case rel => exact ⟨j + 1, by omega, by go_num, Lib.hid (by rw [Htk.out]; exact HS9.out)⟩
            case measure => simp [intOf]; omega
        · obtain rfl : j = ts.length := by omega
          have hS := Hj.out
          rw [List.take_length] at hS
          have hp := put_calls B c (l ++ [(⟨1, mkS (testsW.getD 4 []), 0⟩ : Tok)] ++ testsTk 0 ts) 5 ⟨#[41]⟩ wr hS.wr (by simp only [List.length_append, List.length_singleton]; omega)
          have Hp := Lib.hid hp
          have HS := Lib.hid hS
          clear hp hS hlt
          go_wp2_with fail
          refine Hp.out.mono ?_
          rintro e w5 ⟨rfl, hw5, ht5⟩
          have Hw5 := Lib.hid hw5
          have Ht5 := Lib.hid (HS.out.tw.trans ht5)
          clear hw5 ht5
          go_wp2_with fail
          go_end0
          refine ⟨rfl, ?_, Ht5.out⟩
          have hfin := Hw5.out
          rw [show ((4 : Nat) : Int) = 4 from rfl, E.out]
          simp only [List.append_assoc, List.cons_append, List.nil_append] at hfin ⊢
          exact hfin
    · have e : testTk (.mk 5 m p ns ks o lm ts) = wordTk (wAt testsW 5) :: (testsTk 0 ts ++ [markTk 41]) := by
        rw [testTk, if_pos (by decide), if_neg (by decide)]
      have hl3 := Hlen.out
      rw [show ((5 : Nat) : Int) = 5 from rfl, e] at hl3
      simp only [List.length_cons, List.length_append, List.length_nil] at hl3
      have E := Lib.hid e
      clear e f3 f45 f68 f78 f9 f10 g9 g8 g7 g10 g5
      go_upto_region 7 with fail
      go_wp2_with fail
      go_loopw [28] (fun i wr => ∃ j : Nat, j ≤ ts.length ∧ i = .int .i64 j ∧ Hid (WSt B w0 W wr c (l ++ [(⟨1, mkS (testsW.getD 5 []), 0⟩ : Tok)] ++ testsTk 0 (ts.take j)))) (fun i _ => ts.length - (intOf i).toNat)
      case atStart => exact ⟨0, Nat.zero_le _, rfl, Lib.hid (by simpa [testsTk] using Hs2.out)⟩
      case round =>
        obtain ⟨j, hj, rfl, Hj⟩ := hrel
        by_cases hlt : j < ts.length
        · obtain ⟨b, off, s, k2, m2, p2, lm2, o2, An2, Ak2, At2, nn2, cn2, nk2, ck2, nt2, ct2, rfl, hmem, hdr, huv, d0, d1, d2, d3, d4, d5, d6, d7⟩ := testsAt_round (Below.refl _ w0) Hta.out hlt
          have c0 := cell_later Hj.out.old d0
          have c1 := cell_later Hj.out.old d1
          have c2 := cell_later Hj.out.old d2
          have c3 := cell_later Hj.out.old d3
          have c4 := cell_later Hj.out.old d4
          have c5 := cell_later Hj.out.old d5
          have c6 := cell_later Hj.out.old d6
          have c7 := cell_later Hj.out.old d7
          have hsj : ts[j]? = some s := by
            have h := congrArg (fun l => l[0]?) hdr
            simpa [List.getElem?_drop] using h
          have htk0 : testsTk 0 (ts.take (j + 1)) = testsTk 0 (ts.take j) ++ (markTk (if j = 0 then 40 else 44) :: testTk s) := by
            rw [List.take_add_one, hsj, Option.toList_some, testsTk_snoc, List.length_take, Nat.min_eq_left hj, Nat.zero_add]
          have hln := testsTk_take 0 ts (j + 1)
          rw [htk0, List.length_append, List.length_cons] at hln
          have htk : l ++ [(⟨1, mkS (testsW.getD 5 []), 0⟩ : Tok)] ++ testsTk 0 (ts.take (j + 1)) = l ++ [(⟨1, mkS (testsW.getD 5 []), 0⟩ : Tok)] ++ testsTk 0 (ts.take j) ++ [markTk (if j = 0 then 40 else 44)] ++ testTk s := by
            rw [htk0]; simp
          have hlj : (l ++ [(⟨1, mkS (testsW.getD 5 []), 0⟩ : Tok)] ++ testsTk 0 (ts.take j)).length + 1 + (testTk s).length ≤ 800000 := by
            simp only [List.length_append, List.length_singleton]; omega
          have Htk := Lib.hid htk
          generalize l ++ [(⟨1, mkS (testsW.getD 5 []), 0⟩ : Tok)] ++ testsTk 0 (ts.take j) = lj at *
          have hih := fun (l : List Tok) (W : World) (h2 : Below w0.heap.size w0 W) (h3 : Wr B W c l) h4 => Hih.out s hmem l _ W huv h2 h3 h4
          have Hi := Lib.hid hih
          have hN := Bk.new wr [.int .i64 k2, .int .i64 m2, .int .i64 p2, .slice An2 nn2 cn2, .slice Ak2 nk2 ck2, .bool o2, .int .i64 lm2, .slice At2 nt2 ct2] 31
          have hS1 := (Hj.out.alloc (.cells #[.int .i64 k2, .int .i64 m2, .int .i64 p2, .slice An2 nn2 cn2, .slice Ak2 nk2 ck2, .bool o2, .int .i64 lm2, .slice At2 nt2 ct2] 31))
          have HN := Lib.hid hN
          have HS0 := Lib.hid hS1
          have hj0 : (0 : Int) ≤ (j : Int) := by omega
          have hjn : (j : Int) < (ts.length : Int) := by omega
          clear hN hS1 hih htk htk0 hln d0 d1 d2 d3 d4 d5 d6 d7 huv hmem hdr hsj hl3
          go_upto_region 10 with fail
          generalize wr.alloc (.cells #[.int .i64 k2, .int .i64 m2, .int .i64 p2, .slice An2 nn2 cn2, .slice Ak2 nk2 ck2, .bool o2, .int .i64 lm2, .slice At2 nt2 ct2] 31) = w7 at *
          clear c0 c1 c2 c3 c4 c5 c6 c7
          have hF := Bk.new w7 [.string ⟨#[44]⟩, .string ⟨#[40]⟩] 9
          have f0 := hF.cell 0 _ rfl
          have f1 := hF.cell 1 _ rfl
          have HS1 := Lib.hid (HS0.out.alloc (.cells #[.string ⟨#[44]⟩, .string ⟨#[40]⟩] 9))
          have HN1 := Lib.hid (HN.out.alloc (.cells #[.string ⟨#[44]⟩, .string ⟨#[40]⟩] 9))
          clear hF HS0 HN
          by_cases hz : j = 0
          · have ez : ((j : Int) == 0) = true := by rw [hz]; rfl
            rw [if_pos hz] at Htk
            clear hz
            have hp := put_calls B c lj 5 ⟨#[40]⟩ _ HS1.out.wr (by omega)
            have Hp := Lib.hid hp
            clear hp
            go_wp2_with (go_at_call 67; refine (flag_calls _ _).mono ?_; rintro e w' ⟨rfl, rfl⟩)
            refine Hp.out.mono ?_
            rintro e w8 ⟨rfl, hw8, ht8⟩
            have HS8 := Lib.hid (HS1.out.put hB hw8 ht8)
            have hN8 := ht8.bk _ _ _ HN1.out (by decide) (by decide)
            have c0 := hN8.cell 0 _ rfl
            have c1 := hN8.cell 1 _ rfl
            have c2 := hN8.cell 2 _ rfl
            have c3 := hN8.cell 3 _ rfl
            have c4 := hN8.cell 4 _ rfl
            have c5 := hN8.cell 5 _ rfl
            have c6 := hN8.cell 6 _ rfl
            have c7 := hN8.cell 7 _ rfl
            have hi := Hi.out (lj ++ [⟨5, ⟨#[40]⟩, 0⟩]) w8 HS8.out.old HS8.out.wr (by rw [List.length_append, List.length_singleton]; omega)
            have Hi8 := Lib.hid hi
            clear hw8 ht8 hN8 hi f0 f1
            go_wp2_with fail
            refine Hi8.out.mono ?_
            rintro e w9 ⟨rfl, hw9, ht9⟩
            have HS9 := Lib.hid (HS8.out.put hB hw9 ht9)
            clear hw9 ht9 c0 c1 c2 c3 c4 c5 c6 c7
            go_wp2_with fail
            go_roundw
            case rel => exact ⟨j + 1, by omega, by go_num, Lib.hid (by rw [Htk.out]; exact HS9.out)⟩
            case measure => simp [intOf]; omega
          · have ez : ((j : Int) == 0) = false := by rw [beq_eq_false_iff_ne]; omega
            rw [if_neg hz] at Htk
            clear hz
            have hp := put_calls B c lj 5 ⟨#[44]⟩ _ HS1.out.wr (by omega)
            have Hp := Lib.hid hp
            clear hp
            go_wp2_with (go_at_call 67; refine (flag_calls _ _).mono ?_; rintro e w' ⟨rfl, rfl⟩)
            refine Hp.out.mono ?_
            rintro e w8 ⟨rfl, hw8, ht8⟩
            have HS8 := Lib.hid (HS1.out.put hB hw8 ht8)
            have hN8 := ht8.bk _ _ _ HN1.out (by decide) (by decide)
            have c0 := hN8.cell 0 _ rfl
            have c1 := hN8.cell 1 _ rfl
            have c2 := hN8.cell 2 _ rfl
            have c3 := hN8.cell 3 _ rfl
            have c4 := hN8.cell 4 _ rfl
            have c5 := hN8.cell 5 _ rfl
            have c6 := hN8.cell 6 _ rfl
            have c7 := hN8.cell 7 _ rfl
            have hi := Hi.out (lj ++ [⟨5, ⟨#[44]⟩, 0⟩]) w8 HS8.out.old HS8.out.wr (by rw [List.length_append, List.length_singleton]; omega)
            have Hi8 := Lib.hid hi
            clear hw8 ht8 hN8 hi f0 f1
            go_wp2_with fail
            refine Hi8.out.mono ?_
            rintro e w9 ⟨rfl, hw9, ht9⟩
            have HS9 := Lib.hid (HS8.out.put hB hw9 ht9)
            clear hw9 ht9 c0 c1 c2 c3 c4 c5 c6 c7
            go_wp2_with fail
            go_roundw
            case rel => exact ⟨j + 1, by omega, by go_num, Lib.hid (by rw [Htk.out]; exact HS9.out)⟩
            case measure => simp [intOf]; omega
        · obtain rfl : j = ts.length := by omega
          have hS := Hj.out
          rw [List.take_length] at hS
          have hp := put_calls B c (l ++ [(⟨1, mkS (testsW.getD 5 []), 0⟩ : Tok)] ++ testsTk 0 ts) 5 ⟨#[41]⟩ wr hS.wr (by simp only [List.length_append, List.length_singleton]; omega)
          have Hp := Lib.hid hp
          have HS := Lib.hid hS
          clear hp hS hlt
          go_wp2_with fail
          refine Hp.out.mono ?_
          rintro e w5 ⟨rfl, hw5, ht5⟩
          have Hw5 := Lib.hid hw5
          have Ht5 := Lib.hid (HS.out.tw.trans ht5)
          clear hw5 ht5
          go_wp2_with fail
          go_end0
          refine ⟨rfl, ?_, Ht5.out⟩
          have hfin := Hw5.out
          rw [show ((5 : Nat) : Int) = 5 from rfl, E.out]
          simp only [List.append_assoc, List.cons_append, List.nil_append] at hfin ⊢
          exact hfin
    · obtain ⟨m1, m3, _, _⟩ := f68 (by decide)
      obtain ⟨m', rfl⟩ : ∃ n : Nat, m = n := ⟨m.toNat, by omega⟩
      have hm4 : m' < 4 := by omega
      have hmi0 : (0 : Int) ≤ (m' : Int) := by omega
      have hmi : (m' : Int) < 4 := by omega
      have e : testTk (.mk 6 m' p ns ks o lm ts) = wordTk (wAt testsW 6) :: tagTk (mkS (matchesW.getD m' [])) :: (listTk ns ++ listTk ks) := by
        rw [testTk, if_neg (by decide), if_pos (by decide), if_pos rfl]
        rfl
      have hl3 := Hlen.out
      rw [show ((6 : Nat) : Int) = 6 from rfl, e] at hl3
      simp only [List.length_cons, List.length_append] at hl3
      have hq := listTk_len ns
      have hq2 := listTk_len ks
      have E := Lib.hid e
      clear e
      clear f3 f45 f68 f78 f9 f10 g9 g8 g7 g10 g5
      have y1_2 := HT2.out.cell 1 _ rfl
      have tb2 := cell_later Hs2.out.old (Htab.out.ms m' (by omega))
      have hp := put_calls B c (l ++ [⟨1, mkS (testsW.getD 6 []), 0⟩]) 2 (mkS (matchesW.getD m' [])) w2 Hs2.out.wr (by simp only [List.length_append, List.length_singleton]; omega)
      have Hp := Lib.hid hp
      clear hp
      go_wp2_with fail
      refine Hp.out.mono ?_
      rintro e w3 ⟨rfl, hw, ht⟩
      have Hs3 := Lib.hid (Hs2.out.put hB hw ht)
      have HT3 := Lib.hid (ht.bk _ _ _ HT2.out (by decide) (by decide))
      clear hw ht Hp
      have y3_3 := HT3.out.cell 3 _ rfl
      have hp := wlist_calls B c (l ++ [⟨1, mkS (testsW.getD 6 []), 0⟩] ++ [⟨2, mkS (matchesW.getD m' []), 0⟩]) ns An cn w0 w3 Hn.out hB Hs3.out.old Hs3.out.wr (by simp only [List.length_append, List.length_singleton]; omega)
      have Hp := Lib.hid hp
      clear hp
      go_wp2_with fail
      refine Hp.out.mono ?_
      rintro e w4 ⟨rfl, hw, ht⟩
      have Hs4 := Lib.hid (Hs3.out.put hB hw ht)
      have HT4 := Lib.hid (ht.bk _ _ _ HT3.out (by decide) (by decide))
      clear hw ht Hp
      have y4_4 := HT4.out.cell 4 _ rfl
      have hp := wlist_calls B c (l ++ [⟨1, mkS (testsW.getD 6 []), 0⟩] ++ [⟨2, mkS (matchesW.getD m' []), 0⟩] ++ listTk ns) ks Ak ck w0 w4 Hks.out hB Hs4.out.old Hs4.out.wr (by simp only [List.length_append, List.length_singleton]; omega)
      have Hp := Lib.hid hp
      clear hp
      go_wp2_with fail
      refine Hp.out.mono ?_
      rintro e w5 ⟨rfl, hw, ht⟩
      have Hs5 := Lib.hid (Hs4.out.put hB hw ht)
      have HT5 := Lib.hid (ht.bk _ _ _ HT4.out (by decide) (by decide))
      clear hw ht Hp
      have hfin := Hs5.out.wr
      go_wp2_with fail
      go_end0
      refine ⟨rfl, ?_, Hs5.out.tw⟩
      rw [show ((6 : Nat) : Int) = 6 from rfl, E.out]
      simp only [List.append_assoc, List.cons_append, List.nil_append] at hfin ⊢
      exact hfin
    · obtain ⟨m1, m3, _, _⟩ := f68 (by decide)
      obtain ⟨m', rfl⟩ : ∃ n : Nat, m = n := ⟨m.toNat, by omega⟩
      have hm4 : m' < 4 := by omega
      have hmi0 : (0 : Int) ≤ (m' : Int) := by omega
      have hmi : (m' : Int) < 4 := by omega
      obtain ⟨p1, p3⟩ := f78 (by decide)
      obtain ⟨p', rfl⟩ : ∃ n : Nat, p = n := ⟨p.toNat, by omega⟩
      have hp4 : p' < 4 := by omega
      have hpi0 : (0 : Int) ≤ (p' : Int) := by omega
      have hpi : (p' : Int) < 4 := by omega
      have e : testTk (.mk 7 m' p' ns ks o lm ts) = wordTk (wAt testsW 7) :: tagTk (mkS (partsW.getD p' [])) :: tagTk (mkS (matchesW.getD m' [])) :: (listTk ns ++ listTk ks) := by
        rw [testTk, if_neg (by decide), if_pos (by decide), if_neg (by decide)]
        rfl
      have hl3 := Hlen.out
      rw [show ((7 : Nat) : Int) = 7 from rfl, e] at hl3
      simp only [List.length_cons, List.length_append] at hl3
      have hq := listTk_len ns
      have hq2 := listTk_len ks
      have E := Lib.hid e
      clear e
      clear f3 f45 f68 f78 f9 f10 g9 g8 g7 g10 g5
      have y2_2 := HT2.out.cell 2 _ rfl
      have tb2 := cell_later Hs2.out.old (Htab.out.ps p' (by omega))
      have hp := put_calls B c (l ++ [⟨1, mkS (testsW.getD 7 []), 0⟩]) 2 (mkS (partsW.getD p' [])) w2 Hs2.out.wr (by simp only [List.length_append, List.length_singleton]; omega)
      have Hp := Lib.hid hp
      clear hp
      go_wp2_with fail
      refine Hp.out.mono ?_
      rintro e w3 ⟨rfl, hw, ht⟩
      have Hs3 := Lib.hid (Hs2.out.put hB hw ht)
      have HT3 := Lib.hid (ht.bk _ _ _ HT2.out (by decide) (by decide))
      clear hw ht Hp
      have y1_3 := HT3.out.cell 1 _ rfl
      have tb3 := cell_later Hs3.out.old (Htab.out.ms m' (by omega))
      have hp := put_calls B c (l ++ [⟨1, mkS (testsW.getD 7 []), 0⟩] ++ [⟨2, mkS (partsW.getD p' []), 0⟩]) 2 (mkS (matchesW.getD m' [])) w3 Hs3.out.wr (by simp only [List.length_append, List.length_singleton]; omega)
      have Hp := Lib.hid hp
      clear hp
      go_wp2_with fail
      refine Hp.out.mono ?_
      rintro e w4 ⟨rfl, hw, ht⟩
      have Hs4 := Lib.hid (Hs3.out.put hB hw ht)
      have HT4 := Lib.hid (ht.bk _ _ _ HT3.out (by decide) (by decide))
      clear hw ht Hp
      have y3_4 := HT4.out.cell 3 _ rfl
      have hp := wlist_calls B c (l ++ [⟨1, mkS (testsW.getD 7 []), 0⟩] ++ [⟨2, mkS (partsW.getD p' []), 0⟩] ++ [⟨2, mkS (matchesW.getD m' []), 0⟩]) ns An cn w0 w4 Hn.out hB Hs4.out.old Hs4.out.wr (by simp only [List.length_append, List.length_singleton]; omega)
      have Hp := Lib.hid hp
      clear hp
      go_wp2_with fail
      refine Hp.out.mono ?_
      rintro e w5 ⟨rfl, hw, ht⟩
      have Hs5 := Lib.hid (Hs4.out.put hB hw ht)
      have HT5 := Lib.hid (ht.bk _ _ _ HT4.out (by decide) (by decide))
      clear hw ht Hp
      have y4_5 := HT5.out.cell 4 _ rfl
      have hp := wlist_calls B c (l ++ [⟨1, mkS (testsW.getD 7 []), 0⟩] ++ [⟨2, mkS (partsW.getD p' []), 0⟩] ++ [⟨2, mkS (matchesW.getD m' []), 0⟩] ++ listTk ns) ks Ak ck w0 w5 Hks.out hB Hs5.out.old Hs5.out.wr (by simp only [List.length_append, List.length_singleton]; omega)
      have Hp := Lib.hid hp
      clear hp
      go_wp2_with fail
      refine Hp.out.mono ?_
      rintro e w6 ⟨rfl, hw, ht⟩
      have Hs6 := Lib.hid (Hs5.out.put hB hw ht)
      have HT6 := Lib.hid (ht.bk _ _ _ HT5.out (by decide) (by decide))
      clear hw ht Hp
      have hfin := Hs6.out.wr
      go_wp2_with fail
      go_end0
      refine ⟨rfl, ?_, Hs6.out.tw⟩
      rw [show ((7 : Nat) : Int) = 7 from rfl, E.out]
      simp only [List.append_assoc, List.cons_append, List.nil_append] at hfin ⊢
      exact hfin
    · obtain ⟨m1, m3, _, _⟩ := f68 (by decide)
      obtain ⟨m', rfl⟩ : ∃ n : Nat, m = n := ⟨m.toNat, by omega⟩
      have hm4 : m' < 4 := by omega
      have hmi0 : (0 : Int) ≤ (m' : Int) := by omega
      have hmi : (m' : Int) < 4 := by omega
      obtain ⟨p1, p3⟩ := f78 (by decide)
      obtain ⟨p', rfl⟩ : ∃ n : Nat, p = n := ⟨p.toNat, by omega⟩
      have hp4 : p' < 4 := by omega
      have hpi0 : (0 : Int) ≤ (p' : Int) := by omega
      have hpi : (p' : Int) < 4 := by omega
      have e : testTk (.mk 8 m' p' ns ks o lm ts) = wordTk (wAt testsW 8) :: tagTk (mkS (partsW.getD p' [])) :: tagTk (mkS (matchesW.getD m' [])) :: (listTk ns ++ listTk ks) := by
        rw [testTk, if_neg (by decide), if_pos (by decide), if_neg (by decide)]
        rfl
      have hl3 := Hlen.out
      rw [show ((8 : Nat) : Int) = 8 from rfl, e] at hl3
      simp only [List.length_cons, List.length_append] at hl3
      have hq := listTk_len ns
      have hq2 := listTk_len ks
      have E := Lib.hid e
      clear e
      clear f3 f45 f68 f78 f9 f10 g9 g8 g7 g10 g5
      have y2_2 := HT2.out.cell 2 _ rfl
      have tb2 := cell_later Hs2.out.old (Htab.out.ps p' (by omega))
      have hp := put_calls B c (l ++ [⟨1, mkS (testsW.getD 8 []), 0⟩]) 2 (mkS (partsW.getD p' [])) w2 Hs2.out.wr (by simp only [List.length_append, List.length_singleton]; omega)
      have Hp := Lib.hid hp
      clear hp
      go_wp2_with fail
      refine Hp.out.mono ?_
      rintro e w3 ⟨rfl, hw, ht⟩
      have Hs3 := Lib.hid (Hs2.out.put hB hw ht)
      have HT3 := Lib.hid (ht.bk _ _ _ HT2.out (by decide) (by decide))
      clear hw ht Hp
      have y1_3 := HT3.out.cell 1 _ rfl
      have tb3 := cell_later Hs3.out.old (Htab.out.ms m' (by omega))
      have hp := put_calls B c (l ++ [⟨1, mkS (testsW.getD 8 []), 0⟩] ++ [⟨2, mkS (partsW.getD p' []), 0⟩]) 2 (mkS (matchesW.getD m' [])) w3 Hs3.out.wr (by simp only [List.length_append, List.length_singleton]; omega)
      have Hp := Lib.hid hp
      clear hp
      go_wp2_with fail
      refine Hp.out.mono ?_
      rintro e w4 ⟨rfl, hw, ht⟩
      have Hs4 := Lib.hid (Hs3.out.put hB hw ht)
      have HT4 := Lib.hid (ht.bk _ _ _ HT3.out (by decide) (by decide))
      clear hw ht Hp
      have y3_4 := HT4.out.cell 3 _ rfl
      have hp := wlist_calls B c (l ++ [⟨1, mkS (testsW.getD 8 []), 0⟩] ++ [⟨2, mkS (partsW.getD p' []), 0⟩] ++ [⟨2, mkS (matchesW.getD m' []), 0⟩]) ns An cn w0 w4 Hn.out hB Hs4.out.old Hs4.out.wr (by simp only [List.length_append, List.length_singleton]; omega)
      have Hp := Lib.hid hp
      clear hp
      go_wp2_with fail
      refine Hp.out.mono ?_
      rintro e w5 ⟨rfl, hw, ht⟩
      have Hs5 := Lib.hid (Hs4.out.put hB hw ht)
      have HT5 := Lib.hid (ht.bk _ _ _ HT4.out (by decide) (by decide))
      clear hw ht Hp
      have y4_5 := HT5.out.cell 4 _ rfl
      have hp := wlist_calls B c (l ++ [⟨1, mkS (testsW.getD 8 []), 0⟩] ++ [⟨2, mkS (partsW.getD p' []), 0⟩] ++ [⟨2, mkS (matchesW.getD m' []), 0⟩] ++ listTk ns) ks Ak ck w0 w5 Hks.out hB Hs5.out.old Hs5.out.wr (by simp only [List.length_append, List.length_singleton]; omega)
      have Hp := Lib.hid hp
      clear hp
      go_wp2_with fail
      refine Hp.out.mono ?_
      rintro e w6 ⟨rfl, hw, ht⟩
      have Hs6 := Lib.hid (Hs5.out.put hB hw ht)
      have HT6 := Lib.hid (ht.bk _ _ _ HT5.out (by decide) (by decide))
      clear hw ht Hp
      have hfin := Hs6.out.wr
      go_wp2_with fail
      go_end0
      refine ⟨rfl, ?_, Hs6.out.tw⟩
      rw [show ((8 : Nat) : Int) = 8 from rfl, E.out]
      simp only [List.append_assoc, List.cons_append, List.nil_append] at hfin ⊢
      exact hfin
    · have e : testTk (.mk 9 m p ns ks o lm ts) = wordTk (wAt testsW 9) :: listTk ns := by
        rw [testTk, if_neg (by decide), if_neg (by decide), if_pos rfl]
      have hl3 := Hlen.out
      rw [show ((9 : Nat) : Int) = 9 from rfl, e, List.length_cons] at hl3
      have hq := listTk_len ns
      have E := Lib.hid e
      clear e
      clear f3 f45 f68 f78 f9 f10 g9 g8 g7 g10 g5
      have y3_2 := HT2.out.cell 3 _ rfl
      have hp := wlist_calls B c (l ++ [⟨1, mkS (testsW.getD 9 []), 0⟩]) ns An cn w0 w2 Hn.out hB Hs2.out.old Hs2.out.wr (by simp only [List.length_append, List.length_singleton] at hl3 ⊢; omega)
      have Hp := Lib.hid hp
      clear hp
      go_wp2_with fail
      refine Hp.out.mono ?_
      rintro e w3 ⟨rfl, hw, ht⟩
      have Hs3 := Lib.hid (Hs2.out.put hB hw ht)
      have HT3 := Lib.hid (ht.bk _ _ _ HT2.out (by decide) (by decide))
      clear hw ht Hp
      go_wp2_with fail
      go_end0
      exact ⟨rfl, by rw [show ((9 : Nat) : Int) = 9 from rfl, E.out, ← List.singleton_append, ← List.append_assoc]; exact Hs3.out.wr, Hs3.out.tw⟩
    · have e : testTk (.mk 10 m p ns ks o lm ts) = [wordTk (wAt testsW 10), tagTk (if o = true then mkS [111, 118, 101, 114] else mkS [117, 110, 100, 101, 114]), ⟨3, mkS [], lm⟩] := by
        rw [testTk, if_neg (by decide), if_neg (by decide), if_neg (by decide), if_pos rfl]
      have E := Lib.hid e
      have hl3 := Hlen.out
      rw [show ((10 : Nat) : Int) = 10 from rfl, e] at hl3
      simp only [List.length_cons, List.length_nil] at hl3
      obtain ⟨i0, hi, hz0, hz1, hz2⟩ := info_parts info_tok
      clear e f3 f45 f68 f78 f9 f10 g9 g8 g7 g10 g5
      have hF := Bk.new w2 [.string ⟨#[117, 110, 100, 101, 114]⟩, .string ⟨#[111, 118, 101, 114]⟩] 9
      have f0 := hF.cell 0 _ rfl
      have f1 := hF.cell 1 _ rfl
      have hS1 := Hs2.out.alloc (.cells #[.string ⟨#[117, 110, 100, 101, 114]⟩, .string ⟨#[111, 118, 101, 114]⟩] 9)
      have HN1 := Lib.hid (HT2.out.alloc (.cells #[.string ⟨#[117, 110, 100, 101, 114]⟩, .string ⟨#[111, 118, 101, 114]⟩] 9))
      have HS1 := Lib.hid hS1
      have x5 := HN1.out.cell 5 _ rfl
      clear hF hS1
      have hend : ∀ (g : ByteArray), g = (if o = true then mkS [111, 118, 101, 114] else mkS [117, 110, 100, 101, 114]) → l ++ testTk (.mk ((10 : Nat) : Int) m p ns ks o lm ts) = l ++ [⟨1, mkS (testsW.getD 10 []), 0⟩] ++ [⟨2, g, 0⟩] ++ [⟨3, ⟨#[]⟩, lm⟩] := fun g hg => by
        rw [show ((10 : Nat) : Int) = 10 from rfl, E.out, hg]
        simp only [List.append_assoc, List.cons_append, List.nil_append]
        rfl
      have Hend := Lib.hid hend
      clear hend E
      cases o
      · have hp := put_calls B c (l ++ [⟨1, mkS (testsW.getD 10 []), 0⟩]) 2 ⟨#[117, 110, 100, 101, 114]⟩ _ HS1.out.wr (by simp only [List.length_append, List.length_singleton]; omega)
        have Hp := Lib.hid hp
        clear hp
        go_wp2_with (go_at_call 67; refine (flag_calls _ _).mono ?_; rintro e w' ⟨rfl, rfl⟩)
        refine Hp.out.mono ?_
        rintro e w3 ⟨rfl, hw, ht⟩
        have Hs3 := Lib.hid (HS1.out.put hB hw ht)
        have HT3 := Lib.hid (ht.bk _ _ _ HN1.out (by decide) (by decide))
        clear hw ht Hp f0 f1 x5
        obtain ⟨hge, v, hb, hrow⟩ := Hs3.out.wr
        obtain ⟨A5, c5, rfl⟩ := own_sl hrow
        have hlen3 : (l ++ [(⟨1, mkS (testsW.getD 10 []), 0⟩ : Tok)] ++ [(⟨2, ⟨#[117, 110, 100, 101, 114]⟩, 0⟩ : Tok)]).length ≤ 900000 := by simp only [List.length_append, List.length_singleton]; omega
        have hen := Hend.out ⟨#[117, 110, 100, 101, 114]⟩ (by rfl)
        have Hen := Lib.hid hen
        clear hen
        generalize l ++ [(⟨1, mkS (testsW.getD 10 []), 0⟩ : Tok)] ++ [(⟨2, ⟨#[117, 110, 100, 101, 114]⟩, 0⟩ : Tok)] = L at *
        have hbl := hb.lt
        have hBs : B ≤ w3.heap.size := by omega
        have hfin : ∀ (g' cap : Nat) (w1 : World), w1.ownsRow B 45 3 (.slice (some ⟨g', 0, none⟩) (L.length + 1) cap) (L.length + 1) (tokCells L ++ [.int .i64 3, .string ⟨#[]⟩, .int .i64 lm]) → ((w3.alloc (.cells #[.int .i64 3, .string ⟨#[]⟩, .int .i64 lm] 45)).drew).grownBy w1 (Value.slice A5 L.length c5).ownBlock → w1.cell? ⟨c, 0, none⟩ = some (.slice A5 L.length c5) ∧ w1.frozen? ⟨c, 0, none⟩ = false ∧ Hid (Wr B (w1.setCell ⟨c, 0, none⟩ (.slice (some ⟨g', 0, none⟩) (L.length + 1) cap)) c (L ++ [⟨3, ⟨#[]⟩, lm⟩]) ∧ Tw B w3 (w1.setCell ⟨c, 0, none⟩ (.slice (some ⟨g', 0, none⟩) (L.length + 1) cap))) := fun g' cap w1 hown hgr => by
          have hb1 : Bk w1 c [.slice A5 L.length c5] 68 := (hb.alloc _).drew.grown hgr (row_other hrow hb (by decide))
          refine ⟨hb1.cell 0 _ rfl, hb1.frozen 0, Lib.hid ⟨⟨hge, _, hb1.set 0 _, ?_⟩, (((Below.refl B w3).alloc hBs _).drew.grown hgr (by simp; omega) (fun k e => own_base' hrow k e)).setCell (p := ⟨c, 0, none⟩) hge _, fun q cs t hq h1 h2 => ?_⟩⟩
          · rw [tokCells_append, List.length_append]
            exact own_set hown hb1 (by decide) 0 _
          · have hq1 : Bk w1 q cs t := (hq.alloc _).drew.grown hgr (row_other hrow hq h1)
            refine hq1.other ?_ 0 _
            rintro rfl
            unfold Bk at hq1 hb1
            rw [hb1] at hq1
            have := Option.some.inj hq1
            simp only [Obj.cells.injEq] at this
            exact h2 this.2.1.symm
        have Hfin := Lib.hid hfin
        have z0 := hb.cell 0 _ rfl
        have x6 := HT3.out.cell 6 _ rfl
        have Hb := Lib.hid hb
        clear hfin hb
        go_wp2_with fail
        go_region_law (first
          | (refine step_append_lies _ (by rfl) _ _ _ (by rfl) B 45 i0 _ 3 32 Tryd.underlying41 hi hz0 hz1 hz2 rfl (by omega) (.slice A5 L.length c5) L.length (tokCells L) (by rfl) (hrow.alloc _) ⟨w3.heap.size, 0, none⟩ 1 1 [.int .i64 3, .string ⟨#[]⟩, .int .i64 lm] (by rfl) (by rfl) (World.news_of_block (cs := #[.int .i64 3, .string ⟨#[]⟩, .int .i64 lm]) (t := 45) (fr := (0, 0)) (heap_alloc_new w3 _)) (by simp [Value.oneCell']) (by omega) (by unfold maxLen; omega) (by omega) (by simp; omega) _ (by rfl) ?_; intro g' cap w11 hown1 hgrow hat hglt; have fin := Hfin.out g' cap w11 hown1 hgrow; have k1 := fin.1; have k2 := fin.2.1; have Fin2 := fin.2.2; clear fin hown1 hgrow hat)
          | fail)
        all_goals (
          go_wp2_with fail
          go_end0
          exact ⟨rfl, by rw [Hen.out]; exact Fin2.out.1, Hs3.out.tw.trans Fin2.out.2⟩)
      · have hp := put_calls B c (l ++ [⟨1, mkS (testsW.getD 10 []), 0⟩]) 2 ⟨#[111, 118, 101, 114]⟩ _ HS1.out.wr (by simp only [List.length_append, List.length_singleton]; omega)
        have Hp := Lib.hid hp
        clear hp
        go_wp2_with (go_at_call 67; refine (flag_calls _ _).mono ?_; rintro e w' ⟨rfl, rfl⟩)
        refine Hp.out.mono ?_
        rintro e w3 ⟨rfl, hw, ht⟩
        have Hs3 := Lib.hid (HS1.out.put hB hw ht)
        have HT3 := Lib.hid (ht.bk _ _ _ HN1.out (by decide) (by decide))
        clear hw ht Hp f0 f1 x5
        obtain ⟨hge, v, hb, hrow⟩ := Hs3.out.wr
        obtain ⟨A5, c5, rfl⟩ := own_sl hrow
        have hlen3 : (l ++ [(⟨1, mkS (testsW.getD 10 []), 0⟩ : Tok)] ++ [(⟨2, ⟨#[111, 118, 101, 114]⟩, 0⟩ : Tok)]).length ≤ 900000 := by simp only [List.length_append, List.length_singleton]; omega
        have hen := Hend.out ⟨#[111, 118, 101, 114]⟩ (by rfl)
        have Hen := Lib.hid hen
        clear hen
        generalize l ++ [(⟨1, mkS (testsW.getD 10 []), 0⟩ : Tok)] ++ [(⟨2, ⟨#[111, 118, 101, 114]⟩, 0⟩ : Tok)] = L at *
        have hbl := hb.lt
        have hBs : B ≤ w3.heap.size := by omega
        have hfin : ∀ (g' cap : Nat) (w1 : World), w1.ownsRow B 45 3 (.slice (some ⟨g', 0, none⟩) (L.length + 1) cap) (L.length + 1) (tokCells L ++ [.int .i64 3, .string ⟨#[]⟩, .int .i64 lm]) → ((w3.alloc (.cells #[.int .i64 3, .string ⟨#[]⟩, .int .i64 lm] 45)).drew).grownBy w1 (Value.slice A5 L.length c5).ownBlock → w1.cell? ⟨c, 0, none⟩ = some (.slice A5 L.length c5) ∧ w1.frozen? ⟨c, 0, none⟩ = false ∧ Hid (Wr B (w1.setCell ⟨c, 0, none⟩ (.slice (some ⟨g', 0, none⟩) (L.length + 1) cap)) c (L ++ [⟨3, ⟨#[]⟩, lm⟩]) ∧ Tw B w3 (w1.setCell ⟨c, 0, none⟩ (.slice (some ⟨g', 0, none⟩) (L.length + 1) cap))) := fun g' cap w1 hown hgr => by
          have hb1 : Bk w1 c [.slice A5 L.length c5] 68 := (hb.alloc _).drew.grown hgr (row_other hrow hb (by decide))
          refine ⟨hb1.cell 0 _ rfl, hb1.frozen 0, Lib.hid ⟨⟨hge, _, hb1.set 0 _, ?_⟩, (((Below.refl B w3).alloc hBs _).drew.grown hgr (by simp; omega) (fun k e => own_base' hrow k e)).setCell (p := ⟨c, 0, none⟩) hge _, fun q cs t hq h1 h2 => ?_⟩⟩
          · rw [tokCells_append, List.length_append]
            exact own_set hown hb1 (by decide) 0 _
          · have hq1 : Bk w1 q cs t := (hq.alloc _).drew.grown hgr (row_other hrow hq h1)
            refine hq1.other ?_ 0 _
            rintro rfl
            unfold Bk at hq1 hb1
            rw [hb1] at hq1
            have := Option.some.inj hq1
            simp only [Obj.cells.injEq] at this
            exact h2 this.2.1.symm
        have Hfin := Lib.hid hfin
        have z0 := hb.cell 0 _ rfl
        have x6 := HT3.out.cell 6 _ rfl
        have Hb := Lib.hid hb
        clear hfin hb
        go_wp2_with fail
        go_region_law (first
          | (refine step_append_lies _ (by rfl) _ _ _ (by rfl) B 45 i0 _ 3 32 Tryd.underlying41 hi hz0 hz1 hz2 rfl (by omega) (.slice A5 L.length c5) L.length (tokCells L) (by rfl) (hrow.alloc _) ⟨w3.heap.size, 0, none⟩ 1 1 [.int .i64 3, .string ⟨#[]⟩, .int .i64 lm] (by rfl) (by rfl) (World.news_of_block (cs := #[.int .i64 3, .string ⟨#[]⟩, .int .i64 lm]) (t := 45) (fr := (0, 0)) (heap_alloc_new w3 _)) (by simp [Value.oneCell']) (by omega) (by unfold maxLen; omega) (by omega) (by simp; omega) _ (by rfl) ?_; intro g' cap w11 hown1 hgrow hat hglt; have fin := Hfin.out g' cap w11 hown1 hgrow; have k1 := fin.1; have k2 := fin.2.1; have Fin2 := fin.2.2; clear fin hown1 hgrow hat)
          | fail)
        all_goals (
          go_wp2_with fail
          go_end0
          exact ⟨rfl, by rw [Hen.out]; exact Fin2.out.1, Hs3.out.tw.trans Fin2.out.2⟩)
end Go.Proofs.YtgmnoemkdigafaaDoor
