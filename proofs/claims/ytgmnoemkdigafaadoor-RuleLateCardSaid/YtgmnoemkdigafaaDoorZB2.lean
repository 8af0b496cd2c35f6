/- The judge of a script: a test. Contracts of Go's library that the kit proved once, laid at this seat's numbers. The functions atom, dotted, Check and Part of package who: what they return for every argument of bounded size. The reader of package who: skip, next, run: what they return, where they panic, and how far they read. -/
import Derived.Test.YtgmnoemkdigafaaDoorZB1
import Derived.Deep.DeepCutAuto
import Derived.Deep.CutBlock
import Derived.Shelf.Small.Strs
import Derived.Shelf.Strings.Search1
import Derived.Shelf.Strings.Search2
import Derived.Shelf.Strings.Search3
import Derived.Shelf.Strings.Count
import Derived.Shelf.LaysM
import Derived.Shelf.Strings.Shaped
import Derived.Shelf.Strings.Split
import Derived.Shelf.Strings.SplitShaped
import Derived.Shelf.Unicode.DecodeSlow
import Derived.Shelf.Slices.Turned
import Derived.Test.YtgmnoemkdigafaaDoorProg
import Derived.Shelf.Strings.PiecesUse
import Derived.RangeFuncOwn
import Derived.Deep.QuietTactic
import Derived.BigQuiet
import Derived.WalkSmall
namespace Go.Proofs.YtgmnoemkdigafaaDoor
open Go.RowKit
set_option linter.unusedVariables false

/-- What judge.test answers at a test. -/
def CkJ (has : List ByteArray) (b : Nat) (t : Tst) : Prop := ∀ (vs : List Value) (w : World), TestV w t vs → HasAt w b has →
  Calls Tryd.prog 76 #[.pointer (some ⟨b, 0, none⟩), .agg vs.toArray] w fun e w' => e = .returned (.int .i64 (judT (inS has) t)) ∧ Below w.heap.size w w'
theorem txAt_get {w : World} {A : Option Addr} {l : List ByteArray} {r : Nat} (h : TxAt w A l) (hr : r < l.length) : ∃ g off s, A = some ⟨g, off, none⟩ ∧ l[r]? = some s ∧ w.cell? ⟨g, off + r, none⟩ = some (.string s) := by
  rcases h with rfl | ⟨g, off, e, hc⟩
  · simp at hr
  · exact ⟨g, off, l[r], e, by simp [hr], hc r _ (by simp [hr])⟩
theorem all_take_succ {α : Type} {f : α → Bool} {l : List α} {r : Nat} {s : α} (hs : l[r]? = some s) (h : (l.take r).all f = true) (h2 : f s = true) : (l.take (r + 1)).all f = true := by
  rw [List.take_add_one, hs, Option.toList_some, List.all_append, h, List.all_cons, h2]; rfl
theorem all_false {α : Type} {f : α → Bool} {l : List α} {r : Nat} {s : α} (hs : l[r]? = some s) (h2 : f s = false) : l.all f = false := by
  rw [List.all_eq_false]
  exact ⟨s, List.mem_of_getElem? hs, by rw [h2]; simp⟩
theorem str_ne {s : ByteArray} {l : List UInt8} (h : ¬ s = mkS l) : (s.toList == l) = false := by
  rw [beq_eq_false_iff_ne]
  intro e
  exact h (by rw [← e, toList_bs, mkS_bs])
theorem str_eq {s : ByteArray} {l : List UInt8} (h : s = mkS l) : (s.toList == l) = true := by
  rw [h, toList_bs, bs_mkS, beq_self_eq_true]

set_option maxRecDepth 100000 in
set_option maxHeartbeats 8000000 in
theorem rtest_A (has : List ByteArray) (b : Nat) (k m p : Int) (ns ks : List ByteArray) (o : Bool) (lm : Int) (ts : List Tst) (hk : k ≠ 8) (ih : ∀ t ∈ ts, CkJ has b t) : CkJ has b (.mk k m p ns ks o lm ts) := by
  intro vs w hv hH
  unfold TestV at hv
  obtain ⟨An, cn, Ak, ck, At, ct, rfl, hn, hkk, hta, hn1, hn2, hn3, hl1, hl2, hl3⟩ := hv
  have hb1 : Below w.heap.size w (w.alloc (.cells #[.int .i64 k, .int .i64 m, .int .i64 p, .slice An ns.length cn, .slice Ak ks.length ck, .bool o, .int .i64 lm, .slice At ts.length ct] 31)) := bal (Below.refl _ w) _
  have hT := Bk.new w [.int .i64 k, .int .i64 m, .int .i64 p, .slice An ns.length cn, .slice Ak ks.length ck, .bool o, .int .i64 lm, .slice At ts.length ct] 31
  have Hih := Lib.hid ih
  have Hn := Lib.hid hn
  have Hk := Lib.hid hkk
  have Hta := Lib.hid hta
  have HT := Lib.hid hT
  have Hb1 := Lib.hid hb1
  have HH := Lib.hid hH
  clear ih hn hkk hta hT hb1 hH hn1 hn2 hn3
  generalize hres : judT (inS has) (.mk k m p ns ks o lm ts) = res at *
  have hr1 : (if ((ns ++ ks).all fun s => decide (s.size ≤ 100)) = false then (1 : Int) else judTs (inS has) ts) = res := by
    have h2 := hres
    rw [judT, if_neg (by rintro ⟨h, _⟩; exact hk h), if_neg (by rintro ⟨h, _⟩; exact hk h)] at h2
    exact h2
  have Hr1 := Lib.hid hr1
  clear hres hr1
  have hk8 : (k == 8) = false := by simpa using hk
  clear hk
  go_enter Tryd.func76, Tryd.ntmps76
  go_upto_region 1 with fail
  generalize w.alloc (.cells #[.int .i64 k, .int .i64 m, .int .i64 p, .slice An ns.length cn, .slice Ak ks.length ck, .bool o, .int .i64 lm, .slice At ts.length ct] 31) = w1 at *
  have x0 := HT.out.cell 0 _ rfl
  go_upto_region 11 with fail
  clear x0
  have x3 := HT.out.cell 3 _ rfl
  have x4 := HT.out.cell 4 _ rfl
  have i0 : ∀ w : World, (Instr.index 134 (.agg #[.slice An ns.length cn, .slice Ak ks.length ck]) (.int .i64 0)).run Tryd.prog w = .ok (.slice An ns.length cn) w := fun _ => by kernel_rfl
  have i1 : ∀ w : World, (Instr.index 134 (.agg #[.slice An ns.length cn, .slice Ak ks.length ck]) (.int .i64 1)).run Tryd.prog w = .ok (.slice Ak ks.length ck) w := fun _ => by kernel_rfl
  have hcase : ∀ q : Nat, q < 2 → ∃ (Ax : Option Addr) (l : List ByteArray) (cx : Nat), (∀ w : World, (Instr.index 134 (.agg #[.slice An ns.length cn, .slice Ak ks.length ck]) (.int .i64 (q : Int))).run Tryd.prog w = .ok (.slice Ax l.length cx) w) ∧ TxAt w Ax l ∧ l.length ≤ 1000000 ∧ (q = 0 ∧ l = ns ∨ q = 1 ∧ l = ks) := fun q hq => by
    rcases (show q = 0 ∨ q = 1 by omega) with rfl | rfl
    · exact ⟨An, ns, cn, i0, Hn.out, hl1, .inl ⟨rfl, rfl⟩⟩
    · exact ⟨Ak, ks, ck, i1, Hk.out, hl2, .inr ⟨rfl, rfl⟩⟩
  have Hcase := Lib.hid hcase
  clear hcase i0 i1
  go_wp2_with fail
  clear x3 x4
  go_loopw [42] (fun i wr => ∃ q : Nat, q ≤ 2 ∧ i = .int .i64 q ∧ Hid ((1 ≤ q → (ns.all fun s => decide (s.size ≤ 100)) = true) ∧ (2 ≤ q → (ks.all fun s => decide (s.size ≤ 100)) = true)) ∧ Hid (Below w1.heap.size w1 wr)) (fun i _ => 2 - (intOf i).toNat)
  case atStart => exact ⟨0, by decide, rfl, Lib.hid ⟨fun h => absurd h (by decide), fun h => absurd h (by decide)⟩, Lib.hid (Below.refl _ _)⟩
  case round =>
    obtain ⟨q, hq2, rfl, Hq, Hbo⟩ := hrel
    by_cases hlt : q < 2
    · have hq0 : (0 : Int) ≤ (q : Int) := by omega
      have hqn : (q : Int) < 2 := by omega
      obtain ⟨Ax, l, cx, hidx, htx, hll, hor⟩ := Hcase.out q hlt
      have Htx := Lib.hid htx
      have Hor := Lib.hid hor
      clear htx hor
      obtain ⟨wo, rfl⟩ : ∃ wo : World, wo = wr := ⟨_, rfl⟩
      go_wp2_with fail
      go_loopw [47] (fun i wr => ∃ r : Nat, r ≤ l.length ∧ i = .int .i64 r ∧ Hid (((l.take r).all fun s => decide (s.size ≤ 100)) = true) ∧ Hid (Below w1.heap.size w1 wr)) (fun i _ => l.length - (intOf i).toNat)
      case atStart => exact ⟨0, Nat.zero_le _, rfl, Lib.hid (by simp), Hbo⟩
      case round =>
        obtain ⟨r, hr, rfl, Hr, Hbi⟩ := hrel
        by_cases hrl : r < l.length
        · have hr0 : (0 : Int) ≤ (r : Int) := by omega
          have hrn : (r : Int) < (l.length : Int) := by omega
          obtain ⟨g, off, s, rfl, hs, hcs⟩ := txAt_get Htx.out hrl
          have cs := cell_later Hbi.out (cell_later Hb1.out hcs)
          have Hs := Lib.hid hs
          clear hs hcs
          by_cases hbig : 100 < s.size
          · have hbg : (100 : Int) < (s.size : Int) := by omega
            have hr1 : res = 1 := by
              rw [← Hr1.out, if_pos]
              rw [List.all_append]
              have hf : (l.all fun s => decide (s.size ≤ 100)) = false := all_false Hs.out (by simpa using hbig)
              rcases Hor.out with ⟨_, rfl⟩ | ⟨_, rfl⟩
              · rw [hf]; rfl
              · rw [hf, Bool.and_false]
            subst hr1
            clear hbig hidx
            go_wp2_with fail
            go_ret
            exact ⟨(by first | rfl | trivial), btr Hb1.out Hbi.out⟩
          · have hbg : ¬ (100 : Int) < (s.size : Int) := by omega
            have hsm : s.size ≤ 100 := by omega
            clear hidx hbig
            go_wp2_with fail
            go_roundw
            case rel => exact ⟨r + 1, by omega, by go_num, Lib.hid (all_take_succ Hs.out Hr.out (by simpa using hsm)), Hbi⟩
            case measure => simp [intOf]; omega
        · obtain rfl : r = l.length := by omega
          have hra := Hr.out
          rw [List.take_length] at hra
          have hnq : (1 ≤ q + 1 → (ns.all fun s => decide (s.size ≤ 100)) = true) ∧ (2 ≤ q + 1 → (ks.all fun s => decide (s.size ≤ 100)) = true) := by
            refine ⟨fun _ => ?_, fun h2 => ?_⟩
            · rcases Hor.out with ⟨_, rfl⟩ | ⟨rfl, _⟩
              · exact hra
              · exact Hq.out.1 (Nat.le_refl _)
            · rcases Hor.out with ⟨rfl, _⟩ | ⟨_, rfl⟩
              · omega
              · exact hra
          have Hnq := Lib.hid hnq
          clear hra Hr hidx hnq
          go_wp2_with fail
          go_roundw
          case rel => exact ⟨q + 1, by omega, by go_num, Hnq, Hbi⟩
          case measure => simp [intOf]; omega
    · have hqe : q = 2 := by omega
      have hr2 : judTs (inS has) ts = res := by rw [← Hr1.out, if_neg (by rw [List.all_append, Hq.out.1 (by omega), Hq.out.2 (by omega)]; simp)]
      have Hr2 := Lib.hid hr2
      have HB2 := Lib.hid (btr Hb1.out Hbo.out)
      have x7 := cell_later Hbo.out (HT.out.cell 7 _ rfl)
      clear hr2 Hr1 HT Hcase Hb1 Hq
      have hz : (q : Int) = 2 := by omega
      clear hlt hqe hq2
      generalize (q : Int) = z at *
      subst hz
      obtain ⟨wo, rfl⟩ : ∃ wo : World, wo = wr := ⟨_, rfl⟩
      clear Hbo
      go_wp2_with fail
      clear x7
      go_loopw [59] (fun i wr => ∃ j : Nat, j ≤ ts.length ∧ i = .int .i64 j ∧ Hid (judTs (inS has) (ts.drop j) = res) ∧ Hid (Below wo.heap.size wo wr)) (fun i _ => ts.length - (intOf i).toNat)
      case atStart => exact ⟨0, Nat.zero_le _, rfl, Lib.hid (by rw [List.drop_zero]; exact Hr2.out), Lib.hid (Below.refl _ _)⟩
      case round =>
        obtain ⟨j, hj, rfl, Hj, Hb4⟩ := hrel
        by_cases hlt2 : j < ts.length
        · have hj0 : (0 : Int) ≤ (j : Int) := by omega
          have hjn : (j : Int) < (ts.length : Int) := by omega
          obtain ⟨g, off, s, k2, m2, p2, lm2, o2, An2, Ak2, At2, nn2, cn2, nk2, ck2, nt2, ct2, rfl, hmem, hdr, huv, c0, c1, c2, c3, c4, c5, c6, c7⟩ := testsAt_round (btr HB2.out Hb4.out) Hta.out hlt2
          have hju := Hj.out
          rw [hdr] at hju
          have hhas := HH.out.later (btr HB2.out Hb4.out)
          have hih := fun W (hW : Below wr.heap.size wr W) => Hih.out s hmem [.int .i64 k2, .int .i64 m2, .int .i64 p2, .slice An2 nn2 cn2, .slice Ak2 nk2 ck2, .bool o2, .int .i64 lm2, .slice At2 nt2 ct2] W (testV_later hW s _ huv) (hhas.later hW)
          have Hi := Lib.hid hih
          have Hju := Lib.hid hju
          have hN := Bk.new wr [.int .i64 k2, .int .i64 m2, .int .i64 p2, .slice An2 nn2 cn2, .slice Ak2 nk2 ck2, .bool o2, .int .i64 lm2, .slice At2 nt2 ct2] 31
          have hbn : Below wr.heap.size wr (wr.alloc (.cells #[.int .i64 k2, .int .i64 m2, .int .i64 p2, .slice An2 nn2 cn2, .slice Ak2 nk2 ck2, .bool o2, .int .i64 lm2, .slice At2 nt2 ct2] 31)) := bal (Below.refl _ _) _
          have HN := Lib.hid hN
          have Hbn := Lib.hid hbn
          clear hih hju hN hbn hmem hdr huv hhas
          generalize hq : judT (inS has) s = q at *
          have Hq := Lib.hid hq
          clear hq
          go_upto_region 24 with fail
          generalize wr.alloc (.cells #[.int .i64 k2, .int .i64 m2, .int .i64 p2, .slice An2 nn2 cn2, .slice Ak2 nk2 ck2, .bool o2, .int .i64 lm2, .slice At2 nt2 ct2] 31) = w5 at *
          clear c0 c1 c2 c3 c4 c5 c6 c7
          have c0 := HN.out.cell 0 _ rfl
          have c1 := HN.out.cell 1 _ rfl
          have c2 := HN.out.cell 2 _ rfl
          have c3 := HN.out.cell 3 _ rfl
          have c4 := HN.out.cell 4 _ rfl
          have c5 := HN.out.cell 5 _ rfl
          have c6 := HN.out.cell 6 _ rfl
          have c7 := HN.out.cell 7 _ rfl
          have hi5 := Hi.out w5 Hbn.out
          have Hi5 := Lib.hid hi5
          have Hb5 := Lib.hid (btr Hb4.out Hbn.out)
          clear hi5 Hi HN Hbn
          go_wp2_with fail
          refine Hi5.out.mono ?_
          rintro e w6 ⟨rfl, hb6⟩
          have Hb6 := Lib.hid (btr Hb5.out hb6)
          clear hb6 c0 c1 c2 c3 c4 c5 c6 c7 Hb5 Hi5
          have hju := Hju.out
          rw [judTs, Hq.out] at hju
          by_cases hq0 : q = 0
          · subst hq0
            rw [if_neg (by simp)] at hju
            have Hju2 := Lib.hid hju
            clear hju
            go_wp2_with fail
            go_roundw
            case rel => exact ⟨j + 1, by omega, by go_num, Hju2, Hb6⟩
            case measure => simp [intOf]; omega
          · rw [if_pos hq0] at hju
            have hqb : (q != 0) = true := by simpa using hq0
            subst hju
            clear hq0
            go_wp2_with fail
            go_ret
            exact ⟨(by first | rfl | trivial), btr HB2.out Hb6.out⟩
        · obtain rfl : j = ts.length := by omega
          have hju := Hj.out
          rw [List.drop_length] at hju
          have hr0 : res = 0 := by rw [← hju, judTs]
          subst hr0
          go_wp2_with fail
          go_ret
          exact ⟨(by first | rfl | trivial), btr HB2.out Hb4.out⟩
set_option maxRecDepth 100000 in
set_option maxHeartbeats 8000000 in
theorem rtest_B (has : List ByteArray) (b : Nat) (m p : Int) (ns ks : List ByteArray) (o : Bool) (lm : Int) (ts : List Tst) (ih : ∀ t ∈ ts, CkJ has b t) : CkJ has b (.mk 8 m p ns ks o lm ts) := by
  intro vs w hv hH
  unfold TestV at hv
  obtain ⟨An, cn, Ak, ck, At, ct, rfl, hn, hkk, hta, hn1, hn2, hn3, hl1, hl2, hl3⟩ := hv
  have hb1 : Below w.heap.size w (w.alloc (.cells #[.int .i64 8, .int .i64 m, .int .i64 p, .slice An ns.length cn, .slice Ak ks.length ck, .bool o, .int .i64 lm, .slice At ts.length ct] 31)) := bal (Below.refl _ w) _
  have hT := Bk.new w [.int .i64 8, .int .i64 m, .int .i64 p, .slice An ns.length cn, .slice Ak ks.length ck, .bool o, .int .i64 lm, .slice At ts.length ct] 31
  have Hih := Lib.hid ih
  have Hn := Lib.hid hn
  have Hk := Lib.hid hkk
  have Hta := Lib.hid hta
  have HT := Lib.hid hT
  have Hb1 := Lib.hid hb1
  have HH := Lib.hid hH
  clear ih hn hkk hta hT hb1 hH hn1 hn2 hn3
  generalize hres : judT (inS has) (.mk 8 m p ns ks o lm ts) = res at *
  rw [judT] at hres
  have Hres := Lib.hid hres
  clear hres
  go_enter Tryd.func76, Tryd.ntmps76
  go_upto_region 1 with fail
  generalize w.alloc (.cells #[.int .i64 8, .int .i64 m, .int .i64 p, .slice An ns.length cn, .slice Ak ks.length ck, .bool o, .int .i64 lm, .slice At ts.length ct] 31) = w1 at *
  have x0 := HT.out.cell 0 _ rfl
  have x3 := HT.out.cell 3 _ rfl
  have hnd := need_calls b has envS w1 (by decide) (HH.out.later Hb1.out)
  cases hev : inS has envS with
  | false =>
    rw [hev, if_neg (by simp)] at hnd
    have Hnd := Lib.hid hnd
    have hr8 : res = 8 := by rw [← Hres.out, if_pos ⟨by trivial, hev⟩]
    subst hr8
    clear hnd hev x3
    go_wp2_with (go_at_call 77; refine Hnd.out.mono ?_; rintro e w2 ⟨rfl, hb2⟩; have Hb2 := Lib.hid (btr Hb1.out hb2); clear hb2)
    go_ret
    exact ⟨rfl, Hb2.out⟩
  | true =>
    rw [hev, if_pos rfl] at hnd
    have Hnd := Lib.hid hnd
    have hres2 := Hres.out
    rw [if_neg (by rintro ⟨_, h⟩; rw [hev] at h; cases h)] at hres2
    have Hres2 := Lib.hid hres2
    clear hnd hev hres2 Hres x3
    go_upto_region 5 with (go_at_call 77; refine Hnd.out.mono ?_; rintro e w2 ⟨rfl, hb2⟩; have HT2 := Lib.hid (HT.out.later hb2); have Hb2 := Lib.hid (btr Hb1.out hb2); clear hb2)
    clear x0 Hnd HT Hb1
    have HT := HT2
    clear HT2
    have x3 := HT.out.cell 3 _ rfl
    go_wp2_with fail
    clear x3
    go_loopw [26] (fun i wr => ∃ r : Nat, r ≤ ns.length ∧ i = .int .i64 r ∧ Hid (((ns.take r).all fun s => decide (s = fromS ∨ s = toSS)) = true) ∧ Hid (Below w2.heap.size w2 wr)) (fun i _ => ns.length - (intOf i).toNat)
    case atStart => exact ⟨0, Nat.zero_le _, rfl, Lib.hid (by simp), Lib.hid (Below.refl _ _)⟩
    case round =>
      obtain ⟨r, hr, rfl, Hr, Hbi⟩ := hrel
      by_cases hrl : r < ns.length
      · have hr0 : (0 : Int) ≤ (r : Int) := by omega
        have hrn : (r : Int) < (ns.length : Int) := by omega
        obtain ⟨g, off, s, rfl, hs, hcs⟩ := txAt_get Hn.out hrl
        have cs := cell_later Hbi.out (cell_later Hb2.out hcs)
        have Hs := Lib.hid hs
        clear hs hcs
        cases hfr : decide (s = fromS ∨ s = toSS) with
        | false =>
          have hr7 : res = 7 := by rw [← Hres2.out, if_pos ⟨by trivial, all_false Hs.out hfr⟩]
          subst hr7
          have hf0 := of_decide_eq_false hfr
          have hg1 := str_ne (fun e => hf0 (.inl e))
          have hg2 := str_ne (fun e => hf0 (.inr e))
          clear hf0 hfr
          go_wp2_with fail
          go_ret
          exact ⟨(by first | rfl | trivial), btr Hb2.out Hbi.out⟩
        | true =>
          have Hok := Lib.hid hfr
          by_cases hf : s = fromS
          · have hg1 := str_eq hf
            clear hf hfr
            go_wp2_with fail
            go_roundw
            case rel => exact ⟨r + 1, by omega, by go_num, Lib.hid (all_take_succ Hs.out Hr.out Hok.out), Hbi⟩
            case measure => simp [intOf]; omega
          · have hf2 : s = toSS := (of_decide_eq_true hfr).resolve_left hf
            have hg1 := str_ne hf
            have hg2 := str_eq hf2
            clear hf hf2 hfr
            go_wp2_with fail
            go_roundw
            case rel => exact ⟨r + 1, by omega, by go_num, Lib.hid (all_take_succ Hs.out Hr.out Hok.out), Hbi⟩
            case measure => simp [intOf]; omega
      · obtain rfl : r = ns.length := by omega
        have hra := Hr.out
        rw [List.take_length] at hra
        have hr1 := Hres2.out
        rw [if_neg (by rintro ⟨_, h⟩; rw [hra] at h; cases h)] at hr1
        have Hr1 := Lib.hid hr1
        clear hra hr1 Hr Hres2
        have HTn := Lib.hid (HT.out.later Hbi.out)
        have Hb1 := Lib.hid (btr Hb2.out Hbi.out)
        clear HT Hb2 Hbi
        have HT := HTn
        clear HTn
        obtain ⟨w1, rfl⟩ : ∃ w1 : World, w1 = wr := ⟨_, rfl⟩
        have x3 := HT.out.cell 3 _ rfl
        have x4 := HT.out.cell 4 _ rfl
        have i0 : ∀ w : World, (Instr.index 134 (.agg #[.slice An ns.length cn, .slice Ak ks.length ck]) (.int .i64 0)).run Tryd.prog w = .ok (.slice An ns.length cn) w := fun _ => by kernel_rfl
        have i1 : ∀ w : World, (Instr.index 134 (.agg #[.slice An ns.length cn, .slice Ak ks.length ck]) (.int .i64 1)).run Tryd.prog w = .ok (.slice Ak ks.length ck) w := fun _ => by kernel_rfl
        have hcase : ∀ q : Nat, q < 2 → ∃ (Ax : Option Addr) (l : List ByteArray) (cx : Nat), (∀ w : World, (Instr.index 134 (.agg #[.slice An ns.length cn, .slice Ak ks.length ck]) (.int .i64 (q : Int))).run Tryd.prog w = .ok (.slice Ax l.length cx) w) ∧ TxAt w Ax l ∧ l.length ≤ 1000000 ∧ (q = 0 ∧ l = ns ∨ q = 1 ∧ l = ks) := fun q hq => by
          rcases (show q = 0 ∨ q = 1 by omega) with rfl | rfl
          · exact ⟨An, ns, cn, i0, Hn.out, hl1, .inl ⟨rfl, rfl⟩⟩
          · exact ⟨Ak, ks, ck, i1, Hk.out, hl2, .inr ⟨rfl, rfl⟩⟩
        have Hcase := Lib.hid hcase
        clear hcase i0 i1
        go_wp2_with fail
        clear x3 x4
        go_loopw [42] (fun i wr => ∃ q : Nat, q ≤ 2 ∧ i = .int .i64 q ∧ Hid ((1 ≤ q → (ns.all fun s => decide (s.size ≤ 100)) = true) ∧ (2 ≤ q → (ks.all fun s => decide (s.size ≤ 100)) = true)) ∧ Hid (Below w1.heap.size w1 wr)) (fun i _ => 2 - (intOf i).toNat)
        case atStart => exact ⟨0, by decide, rfl, Lib.hid ⟨fun h => absurd h (by decide), fun h => absurd h (by decide)⟩, Lib.hid (Below.refl _ _)⟩
        case round =>
          obtain ⟨q, hq2, rfl, Hq, Hbo⟩ := hrel
          by_cases hlt : q < 2
          · have hq0 : (0 : Int) ≤ (q : Int) := by omega
            have hqn : (q : Int) < 2 := by omega
            obtain ⟨Ax, l, cx, hidx, htx, hll, hor⟩ := Hcase.out q hlt
            have Htx := Lib.hid htx
            have Hor := Lib.hid hor
            clear htx hor
            obtain ⟨wo, rfl⟩ : ∃ wo : World, wo = wr := ⟨_, rfl⟩
            go_wp2_with fail
            go_loopw [47] (fun i wr => ∃ r : Nat, r ≤ l.length ∧ i = .int .i64 r ∧ Hid (((l.take r).all fun s => decide (s.size ≤ 100)) = true) ∧ Hid (Below w1.heap.size w1 wr)) (fun i _ => l.length - (intOf i).toNat)
            case atStart => exact ⟨0, Nat.zero_le _, rfl, Lib.hid (by simp), Hbo⟩
            case round =>
              obtain ⟨r, hr, rfl, Hr, Hbi⟩ := hrel
              by_cases hrl : r < l.length
              · have hr0 : (0 : Int) ≤ (r : Int) := by omega
                have hrn : (r : Int) < (l.length : Int) := by omega
                obtain ⟨g, off, s, rfl, hs, hcs⟩ := txAt_get Htx.out hrl
                have cs := cell_later Hbi.out (cell_later Hb1.out hcs)
                have Hs := Lib.hid hs
                clear hs hcs
                by_cases hbig : 100 < s.size
                · have hbg : (100 : Int) < (s.size : Int) := by omega
                  have hr1 : res = 1 := by
                    rw [← Hr1.out, if_pos]
                    rw [List.all_append]
                    have hf : (l.all fun s => decide (s.size ≤ 100)) = false := all_false Hs.out (by simpa using hbig)
                    rcases Hor.out with ⟨_, rfl⟩ | ⟨_, rfl⟩
                    · rw [hf]; rfl
                    · rw [hf, Bool.and_false]
                  subst hr1
                  clear hbig hidx
                  go_wp2_with fail
                  go_ret
                  exact ⟨(by first | rfl | trivial), btr Hb1.out Hbi.out⟩
                · have hbg : ¬ (100 : Int) < (s.size : Int) := by omega
                  have hsm : s.size ≤ 100 := by omega
                  clear hidx hbig
                  go_wp2_with fail
                  go_roundw
                  case rel => exact ⟨r + 1, by omega, by go_num, Lib.hid (all_take_succ Hs.out Hr.out (by simpa using hsm)), Hbi⟩
                  case measure => simp [intOf]; omega
              · obtain rfl : r = l.length := by omega
                have hra := Hr.out
                rw [List.take_length] at hra
                have hnq : (1 ≤ q + 1 → (ns.all fun s => decide (s.size ≤ 100)) = true) ∧ (2 ≤ q + 1 → (ks.all fun s => decide (s.size ≤ 100)) = true) := by
                  refine ⟨fun _ => ?_, fun h2 => ?_⟩
                  · rcases Hor.out with ⟨_, rfl⟩ | ⟨rfl, _⟩
                    · exact hra
                    · exact Hq.out.1 (Nat.le_refl _)
                  · rcases Hor.out with ⟨rfl, _⟩ | ⟨_, rfl⟩
                    · omega
                    · exact hra
                have Hnq := Lib.hid hnq
                clear hra Hr hidx hnq
                go_wp2_with fail
                go_roundw
                case rel => exact ⟨q + 1, by omega, by go_num, Hnq, Hbi⟩
                case measure => simp [intOf]; omega
          · have hqe : q = 2 := by omega
            have hr2 : judTs (inS has) ts = res := by rw [← Hr1.out, if_neg (by rw [List.all_append, Hq.out.1 (by omega), Hq.out.2 (by omega)]; simp)]
            have Hr2 := Lib.hid hr2
            have HB2 := Lib.hid (btr Hb1.out Hbo.out)
            have x7 := cell_later Hbo.out (HT.out.cell 7 _ rfl)
            clear hr2 Hr1 HT Hcase Hb1 Hq
            have hz : (q : Int) = 2 := by omega
            clear hlt hqe hq2
            generalize (q : Int) = z at *
            subst hz
            obtain ⟨wo, rfl⟩ : ∃ wo : World, wo = wr := ⟨_, rfl⟩
            clear Hbo
            go_wp2_with fail
            clear x7
            go_loopw [59] (fun i wr => ∃ j : Nat, j ≤ ts.length ∧ i = .int .i64 j ∧ Hid (judTs (inS has) (ts.drop j) = res) ∧ Hid (Below wo.heap.size wo wr)) (fun i _ => ts.length - (intOf i).toNat)
            case atStart => exact ⟨0, Nat.zero_le _, rfl, Lib.hid (by rw [List.drop_zero]; exact Hr2.out), Lib.hid (Below.refl _ _)⟩
            case round =>
              obtain ⟨j, hj, rfl, Hj, Hb4⟩ := hrel
              by_cases hlt2 : j < ts.length
              · have hj0 : (0 : Int) ≤ (j : Int) := by omega
                have hjn : (j : Int) < (ts.length : Int) := by omega
                obtain ⟨g, off, s, k2, m2, p2, lm2, o2, An2, Ak2, At2, nn2, cn2, nk2, ck2, nt2, ct2, rfl, hmem, hdr, huv, c0, c1, c2, c3, c4, c5, c6, c7⟩ := testsAt_round (btr HB2.out Hb4.out) Hta.out hlt2
                have hju := Hj.out
                rw [hdr] at hju
                have hhas := HH.out.later (btr HB2.out Hb4.out)
                have hih := fun W (hW : Below wr.heap.size wr W) => Hih.out s hmem [.int .i64 k2, .int .i64 m2, .int .i64 p2, .slice An2 nn2 cn2, .slice Ak2 nk2 ck2, .bool o2, .int .i64 lm2, .slice At2 nt2 ct2] W (testV_later hW s _ huv) (hhas.later hW)
                have Hi := Lib.hid hih
                have Hju := Lib.hid hju
                have hN := Bk.new wr [.int .i64 k2, .int .i64 m2, .int .i64 p2, .slice An2 nn2 cn2, .slice Ak2 nk2 ck2, .bool o2, .int .i64 lm2, .slice At2 nt2 ct2] 31
                have hbn : Below wr.heap.size wr (wr.alloc (.cells #[.int .i64 k2, .int .i64 m2, .int .i64 p2, .slice An2 nn2 cn2, .slice Ak2 nk2 ck2, .bool o2, .int .i64 lm2, .slice At2 nt2 ct2] 31)) := bal (Below.refl _ _) _
                have HN := Lib.hid hN
                have Hbn := Lib.hid hbn
                clear hih hju hN hbn hmem hdr huv hhas
                generalize hq : judT (inS has) s = q at *
                have Hq := Lib.hid hq
                clear hq
                go_upto_region 24 with fail
                generalize wr.alloc (.cells #[.int .i64 k2, .int .i64 m2, .int .i64 p2, .slice An2 nn2 cn2, .slice Ak2 nk2 ck2, .bool o2, .int .i64 lm2, .slice At2 nt2 ct2] 31) = w5 at *
                clear c0 c1 c2 c3 c4 c5 c6 c7
                have c0 := HN.out.cell 0 _ rfl
                have c1 := HN.out.cell 1 _ rfl
                have c2 := HN.out.cell 2 _ rfl
                have c3 := HN.out.cell 3 _ rfl
                have c4 := HN.out.cell 4 _ rfl
                have c5 := HN.out.cell 5 _ rfl
                have c6 := HN.out.cell 6 _ rfl
                have c7 := HN.out.cell 7 _ rfl
                have hi5 := Hi.out w5 Hbn.out
                have Hi5 := Lib.hid hi5
                have Hb5 := Lib.hid (btr Hb4.out Hbn.out)
                clear hi5 Hi HN Hbn
                go_wp2_with fail
                refine Hi5.out.mono ?_
                rintro e w6 ⟨rfl, hb6⟩
                have Hb6 := Lib.hid (btr Hb5.out hb6)
                clear hb6 c0 c1 c2 c3 c4 c5 c6 c7 Hb5 Hi5
                have hju := Hju.out
                rw [judTs, Hq.out] at hju
                by_cases hq0 : q = 0
                · subst hq0
                  rw [if_neg (by simp)] at hju
                  have Hju2 := Lib.hid hju
                  clear hju
                  go_wp2_with fail
                  go_roundw
                  case rel => exact ⟨j + 1, by omega, by go_num, Hju2, Hb6⟩
                  case measure => simp [intOf]; omega
                · rw [if_pos hq0] at hju
                  have hqb : (q != 0) = true := by simpa using hq0
                  subst hju
                  clear hq0
                  go_wp2_with fail
                  go_ret
                  exact ⟨(by first | rfl | trivial), btr HB2.out Hb6.out⟩
              · obtain rfl : j = ts.length := by omega
                have hju := Hj.out
                rw [List.drop_length] at hju
                have hr0 : res = 0 := by rw [← hju, judTs]
                subst hr0
                go_wp2_with fail
                go_ret
                exact ⟨(by first | rfl | trivial), btr HB2.out Hb4.out⟩
theorem rtest_calls (has : List ByteArray) (b : Nat) : ∀ (N : Nat) (t : Tst), SizeOf.sizeOf t ≤ N → CkJ has b t
  | 0, t, hN => by cases t; simp at hN
  | N + 1, t, hN => by
    obtain ⟨k, m, p, ns, ks, o, lm, ts⟩ := t
    have ih : ∀ t ∈ ts, CkJ has b t := fun t ht => rtest_calls has b N t (by
      have h1 := List.sizeOf_lt_of_mem ht
      simp only [Tst.mk.sizeOf_spec] at hN
      omega)
    by_cases hk : k = 8
    · subst hk; exact rtest_B has b m p ns ks o lm ts ih
    · exact rtest_A has b k m p ns ks o lm ts hk ih
end Go.Proofs.YtgmnoemkdigafaaDoor
namespace Go.Proofs
open Go.Shelf
def Tryd.lays137_ren : Go.Shelf.Ren := ⟨fun | 137 => 100 | 217 => 88 | 266 => 95 | n => n, fun | 9 => 9 | 5 => 5 | 3 => 3 | n => n, fun | n => n⟩
theorem Tryd.lays137 : Go.Proofs.Lays.n137 Tryd.prog Tryd.lays137_ren := {
  mixed := by kernel_rfl
  f137 := Tryd.func100.trans (congrArg some (by kernel_rfl))
  f217 := Tryd.func88.trans (congrArg some (by kernel_rfl))
  f266 := Tryd.func95.trans (congrArg some (by kernel_rfl))
  t3 := Tryd.underlying3
  a3 := Tryd.isAgg3
  z3 := Tryd.sizeOf3
  v3 := Tryd.zeroValue3
  t5 := Tryd.underlying5
  a5 := Tryd.isAgg5
  z5 := Tryd.sizeOf5
  v5 := Tryd.zeroValue5
  t9 := Tryd.underlying9
  a9 := Tryd.isAgg9
  z9 := Tryd.sizeOf9
  v9 := Tryd.zeroValue9 }
open Go.RowKit in
theorem Tryd.strings_IndexByte (s : ByteArray) (c : Int) (w : World) :
    Calls Tryd.prog 100 #[.string s, .int .u8 c] w fun e w' => e = .returned (.int .i64 (Lib.indexByte s.data.toList c.toNat.toUInt8)) ∧ w' = w := Any.strings_IndexByte Tryd.lays137 s c w
def Tryd.lays217_ren : Go.Shelf.Ren := ⟨fun | 217 => 88 | 266 => 95 | n => n, fun | 9 => 9 | 5 => 5 | 3 => 3 | n => n, fun | n => n⟩
theorem Tryd.lays217 : Go.Proofs.Lays.n217 Tryd.prog Tryd.lays217_ren := {
  mixed := by kernel_rfl
  f217 := Tryd.func88.trans (congrArg some (by kernel_rfl))
  f266 := Tryd.func95.trans (congrArg some (by kernel_rfl))
  t3 := Tryd.underlying3
  a3 := Tryd.isAgg3
  z3 := Tryd.sizeOf3
  v3 := Tryd.zeroValue3
  t5 := Tryd.underlying5
  a5 := Tryd.isAgg5
  z5 := Tryd.sizeOf5
  v5 := Tryd.zeroValue5
  t9 := Tryd.underlying9
  a9 := Tryd.isAgg9
  z9 := Tryd.sizeOf9
  v9 := Tryd.zeroValue9 }
open Go.RowKit Go.Lib in
theorem Tryd.stringslite_IndexByte (s : ByteArray) (c : Int) (w : World) :
    Calls Tryd.prog 88 #[.string s, .int .u8 c] w fun e w' => e = .returned (.int .i64 (Lib.indexByte s.data.toList c.toNat.toUInt8)) ∧ w' = w := Any.stringslite_IndexByte Tryd.lays217 s c w
def Tryd.lays224_ren : Go.Shelf.Ren := ⟨fun | 224 => 90 | n => n, fun | 3 => 3 | n => n, fun | n => n⟩
theorem Tryd.lays224 : Go.Proofs.Lays.n224 Tryd.prog Tryd.lays224_ren := {
  mixed := by kernel_rfl
  f224 := Tryd.func90.trans (congrArg some (by kernel_rfl))
  t3 := Tryd.underlying3
  a3 := Tryd.isAgg3
  z3 := Tryd.sizeOf3
  v3 := Tryd.zeroValue3 }
open Go.RowKit Go.Lib in
theorem Tryd.bytealg_Cutover (n : Int) (h0 : 0 ≤ n) (h1 : n < 4611686018427387904) (w : World) :
    Calls Tryd.prog 90 #[.int .i64 n] w fun e w' => e = .returned (.int .i64 ((n + 16) / 8)) ∧ w' = w := Any.bytealg_Cutover Tryd.lays224 n h0 h1 w
def Tryd.lays314_ren : Go.Shelf.Ren := ⟨fun | 314 => 96 | n => n, fun | 9 => 9 | 51 => 147 | 3 => 3 | 4 => 4 | 5 => 5 | 46 => 145 | n => n, fun | n => n⟩
theorem Tryd.lays314 : Go.Proofs.Lays.n314 Tryd.prog Tryd.lays314_ren := {
  mixed := by kernel_rfl
  f314 := Tryd.func96.trans (congrArg some (by kernel_rfl))
  t3 := Tryd.underlying3
  a3 := Tryd.isAgg3
  z3 := Tryd.sizeOf3
  v3 := Tryd.zeroValue3
  t4 := Tryd.underlying4
  a4 := Tryd.isAgg4
  z4 := Tryd.sizeOf4
  v4 := Tryd.zeroValue4
  t5 := Tryd.underlying5
  a5 := Tryd.isAgg5
  z5 := Tryd.sizeOf5
  v5 := Tryd.zeroValue5
  t9 := Tryd.underlying9
  a9 := Tryd.isAgg9
  z9 := Tryd.sizeOf9
  v9 := Tryd.zeroValue9
  t46 := Tryd.underlying145
  a46 := Tryd.isAgg145
  z46 := Tryd.sizeOf145
  v46 := Tryd.zeroValue145
  t51 := Tryd.underlying147
  a51 := Tryd.isAgg147
  z51 := Tryd.sizeOf147
  v51 := Tryd.zeroValue147 }
open Go.RowKit Go.Lib in
theorem Tryd.bytealg_hashStr (sep : ByteArray) (hs : sep.size < 4294967281) (w : World) :
    Calls Tryd.prog 96 #[.string sep] w fun e w' => e = .returned (.tuple #[.int .u32 (RK.H sep.data.toList % 4294967296), .int .u32 (16777619 ^ sep.size % 4294967296)]) ∧ w' = w := Any.bytealg_hashStr Tryd.lays314 sep hs w
def Tryd.lays267_ren : Go.Shelf.Ren := ⟨fun | 267 => 91 | 314 => 96 | n => n, fun | 9 => 9 | 3 => 3 | 146 => 148 | 51 => 147 | 4 => 4 | 5 => 5 | 46 => 145 | n => n, fun | n => n⟩
theorem Tryd.lays267 : Go.Proofs.Lays.n267 Tryd.prog Tryd.lays267_ren := {
  mixed := by kernel_rfl
  f267 := Tryd.func91.trans (congrArg some (by kernel_rfl))
  f314 := Tryd.func96.trans (congrArg some (by kernel_rfl))
  t3 := Tryd.underlying3
  a3 := Tryd.isAgg3
  z3 := Tryd.sizeOf3
  v3 := Tryd.zeroValue3
  t4 := Tryd.underlying4
  a4 := Tryd.isAgg4
  z4 := Tryd.sizeOf4
  v4 := Tryd.zeroValue4
  t5 := Tryd.underlying5
  a5 := Tryd.isAgg5
  z5 := Tryd.sizeOf5
  v5 := Tryd.zeroValue5
  t9 := Tryd.underlying9
  a9 := Tryd.isAgg9
  z9 := Tryd.sizeOf9
  v9 := Tryd.zeroValue9
  t46 := Tryd.underlying145
  a46 := Tryd.isAgg145
  z46 := Tryd.sizeOf145
  v46 := Tryd.zeroValue145
  t51 := Tryd.underlying147
  a51 := Tryd.isAgg147
  z51 := Tryd.sizeOf147
  v51 := Tryd.zeroValue147
  t146 := Tryd.underlying148
  a146 := Tryd.isAgg148
  z146 := Tryd.sizeOf148
  v146 := Tryd.zeroValue148 }
open Go.RowKit Go.Lib in
theorem Tryd.bytealg_IndexRabinKarp (s sep : ByteArray) (h1 : 1 ≤ sep.size) (h2 : sep.size ≤ s.size) (hs : s.size < 4294967281) (w : World) :
    Calls Tryd.prog 91 #[.string s, .string sep] w fun e w' => e = .returned (.int .i64 (Lib.index s.data.toList sep.data.toList)) ∧ w' = w := Any.bytealg_IndexRabinKarp Tryd.lays267 s sep h1 h2 hs w
def Tryd.lays219_ren : Go.Shelf.Ren := ⟨fun | 219 => 81 | 217 => 88 | 225 => 89 | 224 => 90 | 267 => 91 | 266 => 95 | 314 => 96 | n => n, fun | 9 => 9 | 3 => 3 | 4 => 4 | 5 => 5 | 46 => 145 | 146 => 148 | 51 => 147 | n => n, fun | 1 => 6 | n => n⟩
theorem Tryd.lays219 : Go.Proofs.Lays.n219 Tryd.prog Tryd.lays219_ren := {
  mixed := by kernel_rfl
  f217 := Tryd.func88.trans (congrArg some (by kernel_rfl))
  f219 := Tryd.func81.trans (congrArg some (by kernel_rfl))
  f224 := Tryd.func90.trans (congrArg some (by kernel_rfl))
  f225 := Tryd.func89.trans (congrArg some (by kernel_rfl))
  f266 := Tryd.func95.trans (congrArg some (by kernel_rfl))
  f267 := Tryd.func91.trans (congrArg some (by kernel_rfl))
  f314 := Tryd.func96.trans (congrArg some (by kernel_rfl))
  t3 := Tryd.underlying3
  a3 := Tryd.isAgg3
  z3 := Tryd.sizeOf3
  v3 := Tryd.zeroValue3
  t4 := Tryd.underlying4
  a4 := Tryd.isAgg4
  z4 := Tryd.sizeOf4
  v4 := Tryd.zeroValue4
  t5 := Tryd.underlying5
  a5 := Tryd.isAgg5
  z5 := Tryd.sizeOf5
  v5 := Tryd.zeroValue5
  t9 := Tryd.underlying9
  a9 := Tryd.isAgg9
  z9 := Tryd.sizeOf9
  v9 := Tryd.zeroValue9
  t46 := Tryd.underlying145
  a46 := Tryd.isAgg145
  z46 := Tryd.sizeOf145
  v46 := Tryd.zeroValue145
  t51 := Tryd.underlying147
  a51 := Tryd.isAgg147
  z51 := Tryd.sizeOf147
  v51 := Tryd.zeroValue147
  t146 := Tryd.underlying148
  a146 := Tryd.isAgg148
  z146 := Tryd.sizeOf148
  v146 := Tryd.zeroValue148
  g1 := by kernel_rfl }
open Go.RowKit Go.Lib in
theorem Tryd.stringslite_Index_one (s : ByteArray) (c : UInt8) (w : World) :
    Calls Tryd.prog 81 #[.string s, .string ⟨#[c]⟩] w fun e w' => e = .returned (.int .i64 (Lib.indexByte s.data.toList c)) ∧ w' = w := Any.stringslite_Index_one Tryd.lays219 s c w
open Go.RowKit Go.Lib in
theorem Tryd.stringslite_Index (s sub : ByteArray) (m : Int) (w : World) (hs : s.size < 4294967281) (hm : w.cell? ⟨6, 0, none⟩ = some (.int .i64 m)) :
    Calls Tryd.prog 81 #[.string s, .string sub] w fun e w' => e = .returned (.int .i64 (Lib.index s.data.toList sub.data.toList)) ∧ w' = w := Any.stringslite_Index Tryd.lays219 s sub m w hs hm
def Tryd.lays143_ren : Go.Shelf.Ren := ⟨fun | 143 => 71 | 219 => 81 | 217 => 88 | 225 => 89 | 224 => 90 | 267 => 91 | 266 => 95 | 314 => 96 | n => n, fun | 9 => 9 | 3 => 3 | 4 => 4 | 5 => 5 | 46 => 145 | 146 => 148 | 51 => 147 | n => n, fun | 1 => 6 | n => n⟩
theorem Tryd.lays143 : Go.Proofs.Lays.n143 Tryd.prog Tryd.lays143_ren := {
  mixed := by kernel_rfl
  f143 := Tryd.func71.trans (congrArg some (by kernel_rfl))
  f217 := Tryd.func88.trans (congrArg some (by kernel_rfl))
  f219 := Tryd.func81.trans (congrArg some (by kernel_rfl))
  f224 := Tryd.func90.trans (congrArg some (by kernel_rfl))
  f225 := Tryd.func89.trans (congrArg some (by kernel_rfl))
  f266 := Tryd.func95.trans (congrArg some (by kernel_rfl))
  f267 := Tryd.func91.trans (congrArg some (by kernel_rfl))
  f314 := Tryd.func96.trans (congrArg some (by kernel_rfl))
  t3 := Tryd.underlying3
  a3 := Tryd.isAgg3
  z3 := Tryd.sizeOf3
  v3 := Tryd.zeroValue3
  t4 := Tryd.underlying4
  a4 := Tryd.isAgg4
  z4 := Tryd.sizeOf4
  v4 := Tryd.zeroValue4
  t5 := Tryd.underlying5
  a5 := Tryd.isAgg5
  z5 := Tryd.sizeOf5
  v5 := Tryd.zeroValue5
  t9 := Tryd.underlying9
  a9 := Tryd.isAgg9
  z9 := Tryd.sizeOf9
  v9 := Tryd.zeroValue9
  t46 := Tryd.underlying145
  a46 := Tryd.isAgg145
  z46 := Tryd.sizeOf145
  v46 := Tryd.zeroValue145
  t51 := Tryd.underlying147
  a51 := Tryd.isAgg147
  z51 := Tryd.sizeOf147
  v51 := Tryd.zeroValue147
  t146 := Tryd.underlying148
  a146 := Tryd.isAgg148
  z146 := Tryd.sizeOf148
  v146 := Tryd.zeroValue148
  g1 := by kernel_rfl }
open Go.RowKit Go.Lib in
theorem Tryd.strings_Index_one (s : ByteArray) (c : UInt8) (w : World) :
    Calls Tryd.prog 71 #[.string s, .string ⟨#[c]⟩] w fun e w' => e = .returned (.int .i64 (Lib.indexByte s.data.toList c)) ∧ w' = w := Any.strings_Index_one Tryd.lays143 s c w
open Go.RowKit Go.Lib in
theorem Tryd.strings_Index (s sub : ByteArray) (m : Int) (w : World) (hs : s.size < 4294967281) (hm : w.cell? ⟨6, 0, none⟩ = some (.int .i64 m)) :
    Calls Tryd.prog 71 #[.string s, .string sub] w fun e w' => e = .returned (.int .i64 (Lib.index s.data.toList sub.data.toList)) ∧ w' = w := Any.strings_Index Tryd.lays143 s sub m w hs hm
def Tryd.lays144_ren : Go.Shelf.Ren := ⟨fun | 144 => 51 | 143 => 71 | 219 => 81 | 217 => 88 | 225 => 89 | 224 => 90 | 267 => 91 | 266 => 95 | 314 => 96 | n => n, fun | 9 => 9 | 4 => 4 | 3 => 3 | 5 => 5 | 46 => 145 | 146 => 148 | 51 => 147 | n => n, fun | 1 => 6 | n => n⟩
theorem Tryd.lays144 : Go.Proofs.Lays.n144 Tryd.prog Tryd.lays144_ren := {
  mixed := by kernel_rfl
  f143 := Tryd.func71.trans (congrArg some (by kernel_rfl))
  f144 := Tryd.func51.trans (congrArg some (by kernel_rfl))
  f217 := Tryd.func88.trans (congrArg some (by kernel_rfl))
  f219 := Tryd.func81.trans (congrArg some (by kernel_rfl))
  f224 := Tryd.func90.trans (congrArg some (by kernel_rfl))
  f225 := Tryd.func89.trans (congrArg some (by kernel_rfl))
  f266 := Tryd.func95.trans (congrArg some (by kernel_rfl))
  f267 := Tryd.func91.trans (congrArg some (by kernel_rfl))
  f314 := Tryd.func96.trans (congrArg some (by kernel_rfl))
  t3 := Tryd.underlying3
  a3 := Tryd.isAgg3
  z3 := Tryd.sizeOf3
  v3 := Tryd.zeroValue3
  t4 := Tryd.underlying4
  a4 := Tryd.isAgg4
  z4 := Tryd.sizeOf4
  v4 := Tryd.zeroValue4
  t5 := Tryd.underlying5
  a5 := Tryd.isAgg5
  z5 := Tryd.sizeOf5
  v5 := Tryd.zeroValue5
  t9 := Tryd.underlying9
  a9 := Tryd.isAgg9
  z9 := Tryd.sizeOf9
  v9 := Tryd.zeroValue9
  t46 := Tryd.underlying145
  a46 := Tryd.isAgg145
  z46 := Tryd.sizeOf145
  v46 := Tryd.zeroValue145
  t51 := Tryd.underlying147
  a51 := Tryd.isAgg147
  z51 := Tryd.sizeOf147
  v51 := Tryd.zeroValue147
  t146 := Tryd.underlying148
  a146 := Tryd.isAgg148
  z146 := Tryd.sizeOf148
  v146 := Tryd.zeroValue148
  g1 := by kernel_rfl }
open Go.RowKit Go.Lib in
theorem Tryd.strings_Contains_one (s : ByteArray) (c : UInt8) (w : World) :
    Calls Tryd.prog 51 #[.string s, .string ⟨#[c]⟩] w fun e w' => e = .returned (.bool (decide (0 ≤ Lib.indexByte s.data.toList c))) ∧ w' = w := Any.strings_Contains_one Tryd.lays144 s c w
open Go.RowKit Go.Lib in
theorem Tryd.strings_Contains (s sub : ByteArray) (m : Int) (w : World) (hs : s.size < 4294967281) (hm : w.cell? ⟨6, 0, none⟩ = some (.int .i64 m)) :
    Calls Tryd.prog 51 #[.string s, .string sub] w fun e w' => e = .returned (.bool (Lib.contains s.data.toList sub.data.toList)) ∧ w' = w := Any.strings_Contains Tryd.lays144 s sub m w hs hm
def Tryd.lays138_ren : Go.Shelf.Ren := ⟨fun | 138 => 104 | 195 => 105 | 218 => 107 | 143 => 71 | 219 => 81 | 217 => 88 | 225 => 89 | 224 => 90 | 267 => 91 | 266 => 95 | 314 => 96 | n => n, fun | 9 => 9 | 3 => 3 | 4 => 4 | 5 => 5 | 0 => 0 | 46 => 145 | 146 => 148 | 51 => 147 | n => n, fun | 1 => 6 | n => n⟩
theorem Tryd.lays138 : Go.Proofs.Lays.n138 Tryd.prog Tryd.lays138_ren := {
  mixed := by kernel_rfl
  f138 := Tryd.func104.trans (congrArg some (by kernel_rfl))
  f143 := Tryd.func71.trans (congrArg some (by kernel_rfl))
  f195 := Tryd.func105.trans (congrArg some (by kernel_rfl))
  f217 := Tryd.func88.trans (congrArg some (by kernel_rfl))
  f218 := Tryd.func107.trans (congrArg some (by kernel_rfl))
  f219 := Tryd.func81.trans (congrArg some (by kernel_rfl))
  f224 := Tryd.func90.trans (congrArg some (by kernel_rfl))
  f225 := Tryd.func89.trans (congrArg some (by kernel_rfl))
  f266 := Tryd.func95.trans (congrArg some (by kernel_rfl))
  f267 := Tryd.func91.trans (congrArg some (by kernel_rfl))
  f314 := Tryd.func96.trans (congrArg some (by kernel_rfl))
  t0 := Tryd.underlying0
  a0 := Tryd.isAgg0
  z0 := Tryd.sizeOf0
  v0 := Tryd.zeroValue0
  t3 := Tryd.underlying3
  a3 := Tryd.isAgg3
  z3 := Tryd.sizeOf3
  v3 := Tryd.zeroValue3
  t4 := Tryd.underlying4
  a4 := Tryd.isAgg4
  z4 := Tryd.sizeOf4
  v4 := Tryd.zeroValue4
  t5 := Tryd.underlying5
  a5 := Tryd.isAgg5
  z5 := Tryd.sizeOf5
  v5 := Tryd.zeroValue5
  t9 := Tryd.underlying9
  a9 := Tryd.isAgg9
  z9 := Tryd.sizeOf9
  v9 := Tryd.zeroValue9
  t46 := Tryd.underlying145
  a46 := Tryd.isAgg145
  z46 := Tryd.sizeOf145
  v46 := Tryd.zeroValue145
  t51 := Tryd.underlying147
  a51 := Tryd.isAgg147
  z51 := Tryd.sizeOf147
  v51 := Tryd.zeroValue147
  t146 := Tryd.underlying148
  a146 := Tryd.isAgg148
  z146 := Tryd.sizeOf148
  v146 := Tryd.zeroValue148
  g1 := by kernel_rfl }
open Go.RowKit Go.Lib in
theorem Tryd.strings_Count_one (s : ByteArray) (c : UInt8) (w : World) :
    Calls Tryd.prog 104 #[.string s, .string ⟨#[c]⟩] w fun e w' => e = .returned (.int .i64 (Lib.countByte s.data.toList c)) ∧ w' = w := Any.strings_Count_one Tryd.lays138 s c w
open Go.RowKit Go.Lib in
theorem Tryd.strings_Count (s sub : ByteArray) (m : Int) (w : World) (hs : s.size < 4294967281) (hm : w.cell? ⟨6, 0, none⟩ = some (.int .i64 m)) (h2 : 2 ≤ sub.size) :
    Calls Tryd.prog 104 #[.string s, .string sub] w fun e w' => e = .returned (.int .i64 (Lib.countB s sub)) ∧ w' = w := Any.strings_Count Tryd.lays138 s sub m w hs hm h2
def Tryd.laysM219_ren : Go.Shelf.Ren := ⟨fun | 219 => 81 | 217 => 88 | 225 => 89 | 224 => 90 | 267 => 91 | 266 => 95 | 314 => 96 | n => n, fun | 9 => 9 | 3 => 3 | 4 => 4 | 5 => 5 | 46 => 145 | 146 => 148 | 51 => 147 | n => n, fun | 1 => 6 | n => n⟩
theorem Tryd.laysM219 : Go.Proofs.LaysM.n219 Tryd.prog Tryd.laysM219_ren := {
  mixed := by kernel_rfl
  f217 := Tryd.func88.trans (congrArg some (by kernel_rfl))
  f219 := Tryd.func81.trans (congrArg some (by kernel_rfl))
  f224 := Tryd.func90.trans (congrArg some (by kernel_rfl))
  f225 := Tryd.func89.trans (congrArg some (by kernel_rfl))
  f266 := Tryd.func95.trans (congrArg some (by kernel_rfl))
  f267 := Tryd.func91.trans (congrArg some (by kernel_rfl))
  f314 := Tryd.func96.trans (congrArg some (by kernel_rfl))
  t3 := Tryd.underlying3
  a3 := Tryd.isAgg3
  z3 := Tryd.sizeOf3
  v3 := Tryd.zeroValue3
  t4 := Tryd.underlying4
  a4 := Tryd.isAgg4
  z4 := Tryd.sizeOf4
  v4 := Tryd.zeroValue4
  t5 := Tryd.underlying5
  a5 := Tryd.isAgg5
  z5 := Tryd.sizeOf5
  v5 := Tryd.zeroValue5
  t9 := Tryd.underlying9
  a9 := Tryd.isAgg9
  z9 := Tryd.sizeOf9
  v9 := Tryd.zeroValue9
  t46 := Tryd.underlying145
  a46 := Tryd.isAgg145
  z46 := Tryd.sizeOf145
  v46 := Tryd.zeroValue145
  t51 := Tryd.underlying147
  a51 := Tryd.isAgg147
  z51 := Tryd.sizeOf147
  v51 := Tryd.zeroValue147
  t146 := Tryd.underlying148
  a146 := Tryd.isAgg148
  z146 := Tryd.sizeOf148
  v146 := Tryd.zeroValue148
  g1 := by kernel_rfl
  i3 := by kernel_rfl
  i4 := by kernel_rfl
  i5 := by kernel_rfl
  i9 := by kernel_rfl
  i46 := by kernel_rfl
  i51 := by kernel_rfl
  i146 := by kernel_rfl
  m1 := by kernel_rfl
  s1_3 := fun w h => Go.Proofs.cell_of_shapedOpen_int (zero := #[.int .i64 0]) (t := 3) h (of_decide_eq_true (by kernel_rfl)) (by kernel_rfl) rfl (by kernel_rfl) (by kernel_rfl) Tryd.underlying3 }
open Go.RowKit Go.Lib in
theorem Tryd.stringslite_Index_shaped (s sub : ByteArray) (w : World) (h : w.ShapedOpen Tryd.prog) (hs : s.size < 4294967281) :
    Calls Tryd.prog 81 #[.string s, .string sub] w fun e w' => e = .returned (.int .i64 (Lib.index s.data.toList sub.data.toList)) ∧ w' = w := Any.stringslite_Index_shaped Tryd.laysM219 s sub w h hs
def Tryd.laysM143_ren : Go.Shelf.Ren := ⟨fun | 143 => 71 | 219 => 81 | 217 => 88 | 225 => 89 | 224 => 90 | 267 => 91 | 266 => 95 | 314 => 96 | n => n, fun | 9 => 9 | 3 => 3 | 4 => 4 | 5 => 5 | 46 => 145 | 146 => 148 | 51 => 147 | n => n, fun | 1 => 6 | n => n⟩
theorem Tryd.laysM143 : Go.Proofs.LaysM.n143 Tryd.prog Tryd.laysM143_ren := {
  mixed := by kernel_rfl
  f143 := Tryd.func71.trans (congrArg some (by kernel_rfl))
  f217 := Tryd.func88.trans (congrArg some (by kernel_rfl))
  f219 := Tryd.func81.trans (congrArg some (by kernel_rfl))
  f224 := Tryd.func90.trans (congrArg some (by kernel_rfl))
  f225 := Tryd.func89.trans (congrArg some (by kernel_rfl))
  f266 := Tryd.func95.trans (congrArg some (by kernel_rfl))
  f267 := Tryd.func91.trans (congrArg some (by kernel_rfl))
  f314 := Tryd.func96.trans (congrArg some (by kernel_rfl))
  t3 := Tryd.underlying3
  a3 := Tryd.isAgg3
  z3 := Tryd.sizeOf3
  v3 := Tryd.zeroValue3
  t4 := Tryd.underlying4
  a4 := Tryd.isAgg4
  z4 := Tryd.sizeOf4
  v4 := Tryd.zeroValue4
  t5 := Tryd.underlying5
  a5 := Tryd.isAgg5
  z5 := Tryd.sizeOf5
  v5 := Tryd.zeroValue5
  t9 := Tryd.underlying9
  a9 := Tryd.isAgg9
  z9 := Tryd.sizeOf9
  v9 := Tryd.zeroValue9
  t46 := Tryd.underlying145
  a46 := Tryd.isAgg145
  z46 := Tryd.sizeOf145
  v46 := Tryd.zeroValue145
  t51 := Tryd.underlying147
  a51 := Tryd.isAgg147
  z51 := Tryd.sizeOf147
  v51 := Tryd.zeroValue147
  t146 := Tryd.underlying148
  a146 := Tryd.isAgg148
  z146 := Tryd.sizeOf148
  v146 := Tryd.zeroValue148
  g1 := by kernel_rfl
  i3 := by kernel_rfl
  i4 := by kernel_rfl
  i5 := by kernel_rfl
  i9 := by kernel_rfl
  i46 := by kernel_rfl
  i51 := by kernel_rfl
  i146 := by kernel_rfl
  m1 := by kernel_rfl
  s1_3 := fun w h => Go.Proofs.cell_of_shapedOpen_int (zero := #[.int .i64 0]) (t := 3) h (of_decide_eq_true (by kernel_rfl)) (by kernel_rfl) rfl (by kernel_rfl) (by kernel_rfl) Tryd.underlying3 }
open Go.RowKit Go.Lib in
theorem Tryd.strings_Index_shaped (s sub : ByteArray) (w : World) (h : w.ShapedOpen Tryd.prog) (hs : s.size < 4294967281) :
    Calls Tryd.prog 71 #[.string s, .string sub] w fun e w' => e = .returned (.int .i64 (Lib.index s.data.toList sub.data.toList)) ∧ w' = w := Any.strings_Index_shaped Tryd.laysM143 s sub w h hs
def Tryd.laysM144_ren : Go.Shelf.Ren := ⟨fun | 144 => 51 | 143 => 71 | 219 => 81 | 217 => 88 | 225 => 89 | 224 => 90 | 267 => 91 | 266 => 95 | 314 => 96 | n => n, fun | 9 => 9 | 4 => 4 | 3 => 3 | 5 => 5 | 46 => 145 | 146 => 148 | 51 => 147 | n => n, fun | 1 => 6 | n => n⟩
theorem Tryd.laysM144 : Go.Proofs.LaysM.n144 Tryd.prog Tryd.laysM144_ren := {
  mixed := by kernel_rfl
  f143 := Tryd.func71.trans (congrArg some (by kernel_rfl))
  f144 := Tryd.func51.trans (congrArg some (by kernel_rfl))
  f217 := Tryd.func88.trans (congrArg some (by kernel_rfl))
  f219 := Tryd.func81.trans (congrArg some (by kernel_rfl))
  f224 := Tryd.func90.trans (congrArg some (by kernel_rfl))
  f225 := Tryd.func89.trans (congrArg some (by kernel_rfl))
  f266 := Tryd.func95.trans (congrArg some (by kernel_rfl))
  f267 := Tryd.func91.trans (congrArg some (by kernel_rfl))
  f314 := Tryd.func96.trans (congrArg some (by kernel_rfl))
  t3 := Tryd.underlying3
  a3 := Tryd.isAgg3
  z3 := Tryd.sizeOf3
  v3 := Tryd.zeroValue3
  t4 := Tryd.underlying4
  a4 := Tryd.isAgg4
  z4 := Tryd.sizeOf4
  v4 := Tryd.zeroValue4
  t5 := Tryd.underlying5
  a5 := Tryd.isAgg5
  z5 := Tryd.sizeOf5
  v5 := Tryd.zeroValue5
  t9 := Tryd.underlying9
  a9 := Tryd.isAgg9
  z9 := Tryd.sizeOf9
  v9 := Tryd.zeroValue9
  t46 := Tryd.underlying145
  a46 := Tryd.isAgg145
  z46 := Tryd.sizeOf145
  v46 := Tryd.zeroValue145
  t51 := Tryd.underlying147
  a51 := Tryd.isAgg147
  z51 := Tryd.sizeOf147
  v51 := Tryd.zeroValue147
  t146 := Tryd.underlying148
  a146 := Tryd.isAgg148
  z146 := Tryd.sizeOf148
  v146 := Tryd.zeroValue148
  g1 := by kernel_rfl
  i3 := by kernel_rfl
  i4 := by kernel_rfl
  i5 := by kernel_rfl
  i9 := by kernel_rfl
  i46 := by kernel_rfl
  i51 := by kernel_rfl
  i146 := by kernel_rfl
  m1 := by kernel_rfl
  s1_3 := fun w h => Go.Proofs.cell_of_shapedOpen_int (zero := #[.int .i64 0]) (t := 3) h (of_decide_eq_true (by kernel_rfl)) (by kernel_rfl) rfl (by kernel_rfl) (by kernel_rfl) Tryd.underlying3 }
open Go.RowKit Go.Lib in
theorem Tryd.strings_Contains_shaped (s sub : ByteArray) (w : World) (h : w.ShapedOpen Tryd.prog) (hs : s.size < 4294967281) :
    Calls Tryd.prog 51 #[.string s, .string sub] w fun e w' => e = .returned (.bool (Lib.contains s.data.toList sub.data.toList)) ∧ w' = w := Any.strings_Contains_shaped Tryd.laysM144 s sub w h hs
def Tryd.laysM138_ren : Go.Shelf.Ren := ⟨fun | 138 => 104 | 195 => 105 | 218 => 107 | 143 => 71 | 219 => 81 | 217 => 88 | 225 => 89 | 224 => 90 | 267 => 91 | 266 => 95 | 314 => 96 | n => n, fun | 9 => 9 | 3 => 3 | 4 => 4 | 5 => 5 | 0 => 0 | 46 => 145 | 146 => 148 | 51 => 147 | n => n, fun | 1 => 6 | n => n⟩
theorem Tryd.laysM138 : Go.Proofs.LaysM.n138 Tryd.prog Tryd.laysM138_ren := {
  mixed := by kernel_rfl
  f138 := Tryd.func104.trans (congrArg some (by kernel_rfl))
  f143 := Tryd.func71.trans (congrArg some (by kernel_rfl))
  f195 := Tryd.func105.trans (congrArg some (by kernel_rfl))
  f217 := Tryd.func88.trans (congrArg some (by kernel_rfl))
  f218 := Tryd.func107.trans (congrArg some (by kernel_rfl))
  f219 := Tryd.func81.trans (congrArg some (by kernel_rfl))
  f224 := Tryd.func90.trans (congrArg some (by kernel_rfl))
  f225 := Tryd.func89.trans (congrArg some (by kernel_rfl))
  f266 := Tryd.func95.trans (congrArg some (by kernel_rfl))
  f267 := Tryd.func91.trans (congrArg some (by kernel_rfl))
  f314 := Tryd.func96.trans (congrArg some (by kernel_rfl))
  t0 := Tryd.underlying0
  a0 := Tryd.isAgg0
  z0 := Tryd.sizeOf0
  v0 := Tryd.zeroValue0
  t3 := Tryd.underlying3
  a3 := Tryd.isAgg3
  z3 := Tryd.sizeOf3
  v3 := Tryd.zeroValue3
  t4 := Tryd.underlying4
  a4 := Tryd.isAgg4
  z4 := Tryd.sizeOf4
  v4 := Tryd.zeroValue4
  t5 := Tryd.underlying5
  a5 := Tryd.isAgg5
  z5 := Tryd.sizeOf5
  v5 := Tryd.zeroValue5
  t9 := Tryd.underlying9
  a9 := Tryd.isAgg9
  z9 := Tryd.sizeOf9
  v9 := Tryd.zeroValue9
  t46 := Tryd.underlying145
  a46 := Tryd.isAgg145
  z46 := Tryd.sizeOf145
  v46 := Tryd.zeroValue145
  t51 := Tryd.underlying147
  a51 := Tryd.isAgg147
  z51 := Tryd.sizeOf147
  v51 := Tryd.zeroValue147
  t146 := Tryd.underlying148
  a146 := Tryd.isAgg148
  z146 := Tryd.sizeOf148
  v146 := Tryd.zeroValue148
  g1 := by kernel_rfl
  i0 := by kernel_rfl
  i3 := by kernel_rfl
  i4 := by kernel_rfl
  i5 := by kernel_rfl
  i9 := by kernel_rfl
  i46 := by kernel_rfl
  i51 := by kernel_rfl
  i146 := by kernel_rfl
  m1 := by kernel_rfl
  s1_3 := fun w h => Go.Proofs.cell_of_shapedOpen_int (zero := #[.int .i64 0]) (t := 3) h (of_decide_eq_true (by kernel_rfl)) (by kernel_rfl) rfl (by kernel_rfl) (by kernel_rfl) Tryd.underlying3 }
open Go.RowKit Go.Lib in
theorem Tryd.strings_Count_shaped (s sub : ByteArray) (w : World) (h : w.ShapedOpen Tryd.prog) (hs : s.size < 4294967281) (h2 : 2 ≤ sub.size) :
    Calls Tryd.prog 104 #[.string s, .string sub] w fun e w' => e = .returned (.int .i64 (Lib.countB s sub)) ∧ w' = w := Any.strings_Count_shaped Tryd.laysM138 s sub w h hs h2
open Go.RowKit Go.Lib in
theorem Tryd.strings_Count_any (s sep : ByteArray) (m : Int) (w : World) (hs : s.size < 4294967281) (hm : w.cell? ⟨6, 0, none⟩ = some (.int .i64 m)) (h1 : 1 ≤ sep.size) :
    Calls Tryd.prog 104 #[.string s, .string sep] w fun e w' => e = .returned (.int .i64 (Lib.countB s sep)) ∧ w' = w := Any.strings_Count_any Tryd.lays138 s sep m w hs hm h1
def Tryd.lays221_ren : Go.Shelf.Ren := ⟨fun | 221 => 102 | 268 => 103 | 138 => 104 | 143 => 71 | 195 => 105 | 197 => 106 | 218 => 107 | 219 => 81 | 260 => 108 | 217 => 88 | 225 => 89 | 224 => 90 | 267 => 91 | 266 => 95 | 314 => 96 | n => n, fun | 9 => 9 | 3 => 3 | 31 => 23 | 4 => 4 | 0 => 0 | 105 => 155 | 21 => 21 | 5 => 5 | 46 => 145 | 119 => 157 | 139 => 160 | 138 => 159 | 146 => 148 | 51 => 147 | n => n, fun | 1 => 6 | 3 => 7 | 4 => 8 | n => n⟩
theorem Tryd.lays221 : Go.Proofs.Lays.n221 Tryd.prog Tryd.lays221_ren := {
  mixed := by kernel_rfl
  f138 := Tryd.func104.trans (congrArg some (by kernel_rfl))
  f143 := Tryd.func71.trans (congrArg some (by kernel_rfl))
  f195 := Tryd.func105.trans (congrArg some (by kernel_rfl))
  f197 := Tryd.func106.trans (congrArg some (by kernel_rfl))
  f217 := Tryd.func88.trans (congrArg some (by kernel_rfl))
  f218 := Tryd.func107.trans (congrArg some (by kernel_rfl))
  f219 := Tryd.func81.trans (congrArg some (by kernel_rfl))
  f221 := Tryd.func102.trans (congrArg some (by kernel_rfl))
  f224 := Tryd.func90.trans (congrArg some (by kernel_rfl))
  f225 := Tryd.func89.trans (congrArg some (by kernel_rfl))
  f260 := Tryd.func108.trans (congrArg some (by kernel_rfl))
  f266 := Tryd.func95.trans (congrArg some (by kernel_rfl))
  f267 := Tryd.func91.trans (congrArg some (by kernel_rfl))
  f268 := Tryd.func103.trans (congrArg some (by kernel_rfl))
  f314 := Tryd.func96.trans (congrArg some (by kernel_rfl))
  t0 := Tryd.underlying0
  a0 := Tryd.isAgg0
  z0 := Tryd.sizeOf0
  v0 := Tryd.zeroValue0
  t3 := Tryd.underlying3
  a3 := Tryd.isAgg3
  z3 := Tryd.sizeOf3
  v3 := Tryd.zeroValue3
  t4 := Tryd.underlying4
  a4 := Tryd.isAgg4
  z4 := Tryd.sizeOf4
  v4 := Tryd.zeroValue4
  t5 := Tryd.underlying5
  a5 := Tryd.isAgg5
  z5 := Tryd.sizeOf5
  v5 := Tryd.zeroValue5
  t9 := Tryd.underlying9
  a9 := Tryd.isAgg9
  z9 := Tryd.sizeOf9
  v9 := Tryd.zeroValue9
  t21 := Tryd.underlying21
  a21 := Tryd.isAgg21
  z21 := Tryd.sizeOf21
  v21 := Tryd.zeroValue21
  t31 := Tryd.underlying23
  a31 := Tryd.isAgg23
  z31 := Tryd.sizeOf23
  v31 := Tryd.zeroValue23
  t46 := Tryd.underlying145
  a46 := Tryd.isAgg145
  z46 := Tryd.sizeOf145
  v46 := Tryd.zeroValue145
  t51 := Tryd.underlying147
  a51 := Tryd.isAgg147
  z51 := Tryd.sizeOf147
  v51 := Tryd.zeroValue147
  t105 := Tryd.underlying155
  a105 := Tryd.isAgg155
  z105 := Tryd.sizeOf155
  v105 := Tryd.zeroValue155
  t119 := Tryd.underlying157
  a119 := Tryd.isAgg157
  z119 := Tryd.sizeOf157
  t138 := Tryd.underlying159
  a138 := Tryd.isAgg159
  z138 := Tryd.sizeOf159
  v138 := Tryd.zeroValue159
  t139 := Tryd.underlying160
  a139 := Tryd.isAgg160
  z139 := Tryd.sizeOf160
  v139 := Tryd.zeroValue160
  t146 := Tryd.underlying148
  a146 := Tryd.isAgg148
  z146 := Tryd.sizeOf148
  v146 := Tryd.zeroValue148
  g1 := by kernel_rfl
  g3 := by kernel_rfl
  g4 := by kernel_rfl }
open Go.RowKit Go.Lib in
theorem Tryd.strings_genSplit (s sep : ByteArray) (sv : Nat) (n : Int) (N : Nat) (m : Int) (w : World) (hs : s.size < 4294967281) (hm : w.cell? ⟨6, 0, none⟩ = some (.int .i64 m)) (h1 : 1 ≤ sep.size) (hsv : sv ≤ sep.size) (hn0 : n ≠ 0) (hn63 : n ≤ 9223372036854775807) (hN : (N : Int) = min (if n < 0 then (Lib.countB s sep : Int) + 1 else n) ((s.size : Int) + 1)) :
    Calls Tryd.prog 102 #[.string s, .string sep, .int .i64 sv, .int .i64 n] w fun e w' =>
      e = .returned (.slice (some ⟨w.heap.size, 0, none⟩) (Lib.splitB sep sv (N - 1) s).length N) ∧ w' = w.alloc (.cells (Lib.cellsOf (Lib.splitB sep sv (N - 1) s) N) 9) := Any.strings_genSplit Tryd.lays221 (by kernel_rfl) s sep sv n N m w hs hm h1 hsv hn0 hn63 hN
def Tryd.lays146_ren : Go.Shelf.Ren := ⟨fun | 146 => 101 | 221 => 102 | 268 => 103 | 138 => 104 | 143 => 71 | 195 => 105 | 197 => 106 | 218 => 107 | 219 => 81 | 260 => 108 | 217 => 88 | 225 => 89 | 224 => 90 | 267 => 91 | 266 => 95 | 314 => 96 | n => n, fun | 9 => 9 | 31 => 23 | 3 => 3 | 4 => 4 | 0 => 0 | 105 => 155 | 21 => 21 | 5 => 5 | 46 => 145 | 119 => 157 | 139 => 160 | 138 => 159 | 146 => 148 | 51 => 147 | n => n, fun | 1 => 6 | 3 => 7 | 4 => 8 | n => n⟩
theorem Tryd.lays146 : Go.Proofs.Lays.n146 Tryd.prog Tryd.lays146_ren := {
  mixed := by kernel_rfl
  f138 := Tryd.func104.trans (congrArg some (by kernel_rfl))
  f143 := Tryd.func71.trans (congrArg some (by kernel_rfl))
  f146 := Tryd.func101.trans (congrArg some (by kernel_rfl))
  f195 := Tryd.func105.trans (congrArg some (by kernel_rfl))
  f197 := Tryd.func106.trans (congrArg some (by kernel_rfl))
  f217 := Tryd.func88.trans (congrArg some (by kernel_rfl))
  f218 := Tryd.func107.trans (congrArg some (by kernel_rfl))
  f219 := Tryd.func81.trans (congrArg some (by kernel_rfl))
  f221 := Tryd.func102.trans (congrArg some (by kernel_rfl))
  f224 := Tryd.func90.trans (congrArg some (by kernel_rfl))
  f225 := Tryd.func89.trans (congrArg some (by kernel_rfl))
  f260 := Tryd.func108.trans (congrArg some (by kernel_rfl))
  f266 := Tryd.func95.trans (congrArg some (by kernel_rfl))
  f267 := Tryd.func91.trans (congrArg some (by kernel_rfl))
  f268 := Tryd.func103.trans (congrArg some (by kernel_rfl))
  f314 := Tryd.func96.trans (congrArg some (by kernel_rfl))
  t0 := Tryd.underlying0
  a0 := Tryd.isAgg0
  z0 := Tryd.sizeOf0
  v0 := Tryd.zeroValue0
  t3 := Tryd.underlying3
  a3 := Tryd.isAgg3
  z3 := Tryd.sizeOf3
  v3 := Tryd.zeroValue3
  t4 := Tryd.underlying4
  a4 := Tryd.isAgg4
  z4 := Tryd.sizeOf4
  v4 := Tryd.zeroValue4
  t5 := Tryd.underlying5
  a5 := Tryd.isAgg5
  z5 := Tryd.sizeOf5
  v5 := Tryd.zeroValue5
  t9 := Tryd.underlying9
  a9 := Tryd.isAgg9
  z9 := Tryd.sizeOf9
  v9 := Tryd.zeroValue9
  t21 := Tryd.underlying21
  a21 := Tryd.isAgg21
  z21 := Tryd.sizeOf21
  v21 := Tryd.zeroValue21
  t31 := Tryd.underlying23
  a31 := Tryd.isAgg23
  z31 := Tryd.sizeOf23
  v31 := Tryd.zeroValue23
  t46 := Tryd.underlying145
  a46 := Tryd.isAgg145
  z46 := Tryd.sizeOf145
  v46 := Tryd.zeroValue145
  t51 := Tryd.underlying147
  a51 := Tryd.isAgg147
  z51 := Tryd.sizeOf147
  v51 := Tryd.zeroValue147
  t105 := Tryd.underlying155
  a105 := Tryd.isAgg155
  z105 := Tryd.sizeOf155
  v105 := Tryd.zeroValue155
  t119 := Tryd.underlying157
  a119 := Tryd.isAgg157
  z119 := Tryd.sizeOf157
  t138 := Tryd.underlying159
  a138 := Tryd.isAgg159
  z138 := Tryd.sizeOf159
  v138 := Tryd.zeroValue159
  t139 := Tryd.underlying160
  a139 := Tryd.isAgg160
  z139 := Tryd.sizeOf160
  v139 := Tryd.zeroValue160
  t146 := Tryd.underlying148
  a146 := Tryd.isAgg148
  z146 := Tryd.sizeOf148
  v146 := Tryd.zeroValue148
  g1 := by kernel_rfl
  g3 := by kernel_rfl
  g4 := by kernel_rfl }
open Go.RowKit Go.Lib in
theorem Tryd.strings_Split (s sep : ByteArray) (m : Int) (w : World) (hs : s.size < 4294967281) (hm : w.cell? ⟨6, 0, none⟩ = some (.int .i64 m)) (h1 : 1 ≤ sep.size) :
    Calls Tryd.prog 101 #[.string s, .string sep] w fun e w' =>
      e = .returned (.slice (some ⟨w.heap.size, 0, none⟩) (Lib.countB s sep + 1) (Lib.countB s sep + 1)) ∧ w' = w.alloc (.cells ((Lib.splitB sep 0 (Lib.countB s sep) s).map Value.string).toArray 9) := Any.strings_Split Tryd.lays146 (by kernel_rfl) s sep m w hs hm h1
def Tryd.laysM146_ren : Go.Shelf.Ren := ⟨fun | 146 => 101 | 221 => 102 | 268 => 103 | 138 => 104 | 143 => 71 | 195 => 105 | 197 => 106 | 218 => 107 | 219 => 81 | 260 => 108 | 217 => 88 | 225 => 89 | 224 => 90 | 267 => 91 | 266 => 95 | 314 => 96 | n => n, fun | 9 => 9 | 31 => 23 | 3 => 3 | 4 => 4 | 0 => 0 | 105 => 155 | 21 => 21 | 5 => 5 | 46 => 145 | 119 => 157 | 139 => 160 | 138 => 159 | 146 => 148 | 51 => 147 | n => n, fun | 1 => 6 | 3 => 7 | 4 => 8 | n => n⟩
theorem Tryd.laysM146 : Go.Proofs.LaysM.n146 Tryd.prog Tryd.laysM146_ren := {
  mixed := by kernel_rfl
  f138 := Tryd.func104.trans (congrArg some (by kernel_rfl))
  f143 := Tryd.func71.trans (congrArg some (by kernel_rfl))
  f146 := Tryd.func101.trans (congrArg some (by kernel_rfl))
  f195 := Tryd.func105.trans (congrArg some (by kernel_rfl))
  f197 := Tryd.func106.trans (congrArg some (by kernel_rfl))
  f217 := Tryd.func88.trans (congrArg some (by kernel_rfl))
  f218 := Tryd.func107.trans (congrArg some (by kernel_rfl))
  f219 := Tryd.func81.trans (congrArg some (by kernel_rfl))
  f221 := Tryd.func102.trans (congrArg some (by kernel_rfl))
  f224 := Tryd.func90.trans (congrArg some (by kernel_rfl))
  f225 := Tryd.func89.trans (congrArg some (by kernel_rfl))
  f260 := Tryd.func108.trans (congrArg some (by kernel_rfl))
  f266 := Tryd.func95.trans (congrArg some (by kernel_rfl))
  f267 := Tryd.func91.trans (congrArg some (by kernel_rfl))
  f268 := Tryd.func103.trans (congrArg some (by kernel_rfl))
  f314 := Tryd.func96.trans (congrArg some (by kernel_rfl))
  t0 := Tryd.underlying0
  a0 := Tryd.isAgg0
  z0 := Tryd.sizeOf0
  v0 := Tryd.zeroValue0
  t3 := Tryd.underlying3
  a3 := Tryd.isAgg3
  z3 := Tryd.sizeOf3
  v3 := Tryd.zeroValue3
  t4 := Tryd.underlying4
  a4 := Tryd.isAgg4
  z4 := Tryd.sizeOf4
  v4 := Tryd.zeroValue4
  t5 := Tryd.underlying5
  a5 := Tryd.isAgg5
  z5 := Tryd.sizeOf5
  v5 := Tryd.zeroValue5
  t9 := Tryd.underlying9
  a9 := Tryd.isAgg9
  z9 := Tryd.sizeOf9
  v9 := Tryd.zeroValue9
  t21 := Tryd.underlying21
  a21 := Tryd.isAgg21
  z21 := Tryd.sizeOf21
  v21 := Tryd.zeroValue21
  t31 := Tryd.underlying23
  a31 := Tryd.isAgg23
  z31 := Tryd.sizeOf23
  v31 := Tryd.zeroValue23
  t46 := Tryd.underlying145
  a46 := Tryd.isAgg145
  z46 := Tryd.sizeOf145
  v46 := Tryd.zeroValue145
  t51 := Tryd.underlying147
  a51 := Tryd.isAgg147
  z51 := Tryd.sizeOf147
  v51 := Tryd.zeroValue147
  t105 := Tryd.underlying155
  a105 := Tryd.isAgg155
  z105 := Tryd.sizeOf155
  v105 := Tryd.zeroValue155
  t119 := Tryd.underlying157
  a119 := Tryd.isAgg157
  z119 := Tryd.sizeOf157
  t138 := Tryd.underlying159
  a138 := Tryd.isAgg159
  z138 := Tryd.sizeOf159
  v138 := Tryd.zeroValue159
  t139 := Tryd.underlying160
  a139 := Tryd.isAgg160
  z139 := Tryd.sizeOf160
  v139 := Tryd.zeroValue160
  t146 := Tryd.underlying148
  a146 := Tryd.isAgg148
  z146 := Tryd.sizeOf148
  v146 := Tryd.zeroValue148
  g1 := by kernel_rfl
  g3 := by kernel_rfl
  g4 := by kernel_rfl
  i0 := by kernel_rfl
  i3 := by kernel_rfl
  i4 := by kernel_rfl
  i5 := by kernel_rfl
  i9 := by kernel_rfl
  i21 := by kernel_rfl
  i31 := by kernel_rfl
  i46 := by kernel_rfl
  i51 := by kernel_rfl
  i105 := by kernel_rfl
  i138 := by kernel_rfl
  i139 := by kernel_rfl
  i146 := by kernel_rfl
  m1 := by kernel_rfl
  s1_3 := fun w h => Go.Proofs.cell_of_shapedOpen_int (zero := #[.int .i64 0]) (t := 3) h (of_decide_eq_true (by kernel_rfl)) (by kernel_rfl) rfl (by kernel_rfl) (by kernel_rfl) Tryd.underlying3
  m3 := by kernel_rfl
  m4 := by kernel_rfl }
open Go.RowKit Go.Lib in
theorem Tryd.strings_Split_shaped (s sep : ByteArray) (w : World) (h : w.ShapedOpen Tryd.prog) (hs : s.size < 4294967281) (h1 : 1 ≤ sep.size) :
    Calls Tryd.prog 101 #[.string s, .string sep] w fun e w' =>
      e = .returned (.slice (some ⟨w.heap.size, 0, none⟩) (Lib.countB s sep + 1) (Lib.countB s sep + 1)) ∧ w' = w.alloc (.cells ((Lib.splitB sep 0 (Lib.countB s sep) s).map Value.string).toArray 9) := Any.strings_Split_shaped Tryd.laysM146 s sep w h hs h1
def Tryd.lays260_ren : Go.Shelf.Ren := ⟨fun | 260 => 108 | n => n, fun | 9 => 9 | 21 => 21 | 3 => 3 | 4 => 4 | 5 => 5 | 119 => 157 | 0 => 0 | 46 => 145 | 139 => 160 | 138 => 159 | n => n, fun | 3 => 7 | 4 => 8 | n => n⟩
theorem Tryd.lays260 : Go.Proofs.Lays.n260 Tryd.prog Tryd.lays260_ren := {
  mixed := by kernel_rfl
  f260 := Tryd.func108.trans (congrArg some (by kernel_rfl))
  t0 := Tryd.underlying0
  a0 := Tryd.isAgg0
  z0 := Tryd.sizeOf0
  v0 := Tryd.zeroValue0
  t3 := Tryd.underlying3
  a3 := Tryd.isAgg3
  z3 := Tryd.sizeOf3
  v3 := Tryd.zeroValue3
  t4 := Tryd.underlying4
  a4 := Tryd.isAgg4
  z4 := Tryd.sizeOf4
  v4 := Tryd.zeroValue4
  t5 := Tryd.underlying5
  a5 := Tryd.isAgg5
  z5 := Tryd.sizeOf5
  v5 := Tryd.zeroValue5
  t9 := Tryd.underlying9
  a9 := Tryd.isAgg9
  z9 := Tryd.sizeOf9
  v9 := Tryd.zeroValue9
  t21 := Tryd.underlying21
  a21 := Tryd.isAgg21
  z21 := Tryd.sizeOf21
  v21 := Tryd.zeroValue21
  t46 := Tryd.underlying145
  a46 := Tryd.isAgg145
  z46 := Tryd.sizeOf145
  v46 := Tryd.zeroValue145
  t119 := Tryd.underlying157
  a119 := Tryd.isAgg157
  z119 := Tryd.sizeOf157
  t138 := Tryd.underlying159
  a138 := Tryd.isAgg159
  z138 := Tryd.sizeOf159
  v138 := Tryd.zeroValue159
  t139 := Tryd.underlying160
  a139 := Tryd.isAgg160
  z139 := Tryd.sizeOf160
  v139 := Tryd.zeroValue160
  g3 := by kernel_rfl
  g4 := by kernel_rfl }
open Go.RowKit Go.Lib in
theorem Tryd.utf8_decodeRuneInStringSlow (s : ByteArray) (w : World) (hT : Lib.Utf8Tabs 7 8 w) :
    Calls Tryd.prog 108 #[.string s] w fun e w' => e = .returned (.tuple #[.int .i32 (Lib.decodeGo s).1, .int .i64 (Lib.decodeGo s).2]) ∧ Below w.heap.size w w' := Any.utf8_decodeRuneInStringSlow Tryd.lays260 s w hT
def Tryd.lays109_ren : Go.Shelf.Ren := ⟨fun | 109 => 26 | n => n, fun | 31 => 23 | 9 => 9 | 3 => 3 | 0 => 0 | 4 => 4 | n => n, fun | n => n⟩
theorem Tryd.lays109 : Go.Proofs.Lays.n109 Tryd.prog Tryd.lays109_ren := {
  mixed := by kernel_rfl
  f109 := Tryd.func26.trans (congrArg some (by kernel_rfl))
  t0 := Tryd.underlying0
  a0 := Tryd.isAgg0
  z0 := Tryd.sizeOf0
  v0 := Tryd.zeroValue0
  t3 := Tryd.underlying3
  a3 := Tryd.isAgg3
  z3 := Tryd.sizeOf3
  v3 := Tryd.zeroValue3
  t4 := Tryd.underlying4
  a4 := Tryd.isAgg4
  z4 := Tryd.sizeOf4
  v4 := Tryd.zeroValue4
  t9 := Tryd.underlying9
  a9 := Tryd.isAgg9
  z9 := Tryd.sizeOf9
  v9 := Tryd.zeroValue9
  t31 := Tryd.underlying23
  a31 := Tryd.isAgg23
  z31 := Tryd.sizeOf23
  v31 := Tryd.zeroValue23 }
open Go.Lib in
theorem Tryd.slices_Index_string (b off n c : Nat) (zs : List ByteArray) (x : ByteArray) (w : World) (hz : n ≤ zs.length) (hbig : n ≤ 9223372036854775807) (hc : ∀ j, j < zs.length → w.cell? ⟨b, off + j, none⟩ = some (.string (zs.getD j ByteArray.empty))) :
    Calls Tryd.prog 26 #[.slice (some ⟨b, off, none⟩) n c, .string x] w fun e w' => e = .returned (.int .i64 (Lib.idxOfS (zs.take n) x)) ∧ w' = w := Any.slices_Index_string Tryd.lays109 b off n c zs x w hz hbig hc
open Go.Lib in
theorem Tryd.slices_Index_string_empty (a : Option Addr) (c : Nat) (x : ByteArray) (w : World) :
    Calls Tryd.prog 26 #[.slice a 0 c, .string x] w fun e w' => e = .returned (.int .i64 (Lib.idxOfS [] x)) ∧ w' = w := Any.slices_Index_string_empty Tryd.lays109 a c x w
def Tryd.lays110_ren : Go.Shelf.Ren := ⟨fun | 110 => 37 | 109 => 26 | n => n, fun | 31 => 23 | 9 => 9 | 4 => 4 | 3 => 3 | 0 => 0 | n => n, fun | n => n⟩
theorem Tryd.lays110 : Go.Proofs.Lays.n110 Tryd.prog Tryd.lays110_ren := {
  mixed := by kernel_rfl
  f109 := Tryd.func26.trans (congrArg some (by kernel_rfl))
  f110 := Tryd.func37.trans (congrArg some (by kernel_rfl))
  t0 := Tryd.underlying0
  a0 := Tryd.isAgg0
  z0 := Tryd.sizeOf0
  v0 := Tryd.zeroValue0
  t3 := Tryd.underlying3
  a3 := Tryd.isAgg3
  z3 := Tryd.sizeOf3
  v3 := Tryd.zeroValue3
  t4 := Tryd.underlying4
  a4 := Tryd.isAgg4
  z4 := Tryd.sizeOf4
  v4 := Tryd.zeroValue4
  t9 := Tryd.underlying9
  a9 := Tryd.isAgg9
  z9 := Tryd.sizeOf9
  v9 := Tryd.zeroValue9
  t31 := Tryd.underlying23
  a31 := Tryd.isAgg23
  z31 := Tryd.sizeOf23
  v31 := Tryd.zeroValue23 }
open Go.Lib in
theorem Tryd.slices_Contains_string (b off n c : Nat) (zs : List ByteArray) (x : ByteArray) (w : World) (hz : n ≤ zs.length) (hbig : n ≤ 9223372036854775807) (hc : ∀ j, j < zs.length → w.cell? ⟨b, off + j, none⟩ = some (.string (zs.getD j ByteArray.empty))) :
    Calls Tryd.prog 37 #[.slice (some ⟨b, off, none⟩) n c, .string x] w fun e w' => e = .returned (.bool (Lib.containsS (zs.take n) x)) ∧ w' = w := Any.slices_Contains_string Tryd.lays110 b off n c zs x w hz hbig hc
open Go.Lib in
theorem Tryd.slices_Contains_string_empty (a : Option Addr) (c : Nat) (x : ByteArray) (w : World) :
    Calls Tryd.prog 37 #[.slice a 0 c, .string x] w fun e w' => e = .returned (.bool false) ∧ w' = w := Any.slices_Contains_string_empty Tryd.lays110 a c x w
end Go.Proofs
namespace Go.Proofs.YtgmnoemkdigafaaDoor
open Go.RowKit

set_option maxRecDepth 100000 in
set_option maxHeartbeats 1000000 in
theorem atom_calls (c : UInt8) (w : World) :
    Calls Tryd.prog 98 #[.int .u8 c.toNat] w fun e w' => e = .returned (.bool (atomB c)) ∧ w = w' := by
  have hv : atomB c = ((decide (97 ≤ c.toNat) && decide (c.toNat ≤ 122)) || (decide (65 ≤ c.toNat) && decide (c.toNat ≤ 90)) || (decide (48 ≤ c.toNat) && decide (c.toNat ≤ 57)) || marks.contains c) := by
    unfold atomB
    have e : ∀ a b : UInt8, decide (a ≤ b) = decide (a.toNat ≤ b.toNat) := fun a b => by simp [UInt8.le_iff_toNat_le]
    rw [e, e, e, e, e, e]; rfl
  have h : c.toNat < 48 ∨ (48 ≤ c.toNat ∧ c.toNat ≤ 57) ∨ (57 < c.toNat ∧ c.toNat < 65) ∨ (65 ≤ c.toNat ∧ c.toNat ≤ 90) ∨ (90 < c.toNat ∧ c.toNat < 97) ∨ (97 ≤ c.toNat ∧ c.toNat ≤ 122) ∨ 122 < c.toNat := by omega
  have ht : (48 ≤ c.toNat ∧ c.toNat ≤ 57) ∨ (65 ≤ c.toNat ∧ c.toNat ≤ 90) ∨ (97 ≤ c.toNat ∧ c.toNat ≤ 122) → atomB c = true := by
    intro h; rw [hv]; simp; omega
  have hf : ¬ ((48 ≤ c.toNat ∧ c.toNat ≤ 57) ∨ (65 ≤ c.toNat ∧ c.toNat ≤ 90) ∨ (97 ≤ c.toNat ∧ c.toNat ≤ 122)) → atomB c = decide ((0 : Int) ≤ Lib.indexByte marks c) := by
    intro h
    rw [hv, indexByte_iff]
    have e1 : (decide (97 ≤ c.toNat) && decide (c.toNat ≤ 122)) = false := by simp; omega
    have e2 : (decide (65 ≤ c.toNat) && decide (c.toNat ≤ 90)) = false := by simp; omega
    have e3 : (decide (48 ≤ c.toNat) && decide (c.toNat ≤ 57)) = false := by simp; omega
    rw [e1, e2, e3]; rfl
  clear hv
  have e5 : ((c.toNat : Int).toNat).toUInt8 = c := by simp
  rcases h with h | ⟨h, h2⟩ | ⟨h, h2⟩ | ⟨h, h2⟩ | ⟨h, h2⟩ | ⟨h, h2⟩ | h
  all_goals first
    | (rw [ht (by omega)]
       clear ht hf e5
       go_enter Tryd.func98, Tryd.ntmps98
       go_wp2_with fail
       go_ret
       exact ⟨rfl, rfl⟩)
    | (have hf' := hf (by omega)
       clear ht hf
       have Hf := Lib.hid hf'
       have E5 := Lib.hid e5
       clear hf' e5
       go_enter Tryd.func98, Tryd.ntmps98
       go_wp2_with fail
       refine (Tryd.strings_IndexByte (mkS marks) _ _).mono ?_
       rw [E5.out]
       rintro e w' ⟨rfl, rfl⟩
       go_wp2
       go_ret
       refine ⟨?_, rfl⟩
       rw [Hf.out]
       first
         | rfl
         | (have hm2 : (mkS marks).data.toList = marks := rfl
            rw [hm2]
            generalize Lib.indexByte marks c = z
            show Ending.returned (Value.bool _) = Ending.returned (Value.bool _)
            congr 2
            rw [Bool.eq_iff_iff]
            simp
            omega))

theorem splitB_le : ∀ (k : Nat) (s : ByteArray) (p : ByteArray), p ∈ Lib.splitB dotS 0 k s → p.size ≤ s.size
  | 0, s, p, h => by
    rw [Lib.splitB_zero, List.mem_singleton] at h
    rw [h]; exact Nat.le_refl _
  | k + 1, s, p, h => by
    have hx : ∀ a b : Nat, (s.extract a b).size ≤ s.size := by
      intro a b
      rw [extract_mkS, mkS_size, List.length_drop, List.length_take, bs_len]; omega
    rw [Lib.splitB] at h
    split at h
    · rw [List.mem_singleton] at h
      rw [h]; exact Nat.le_refl _
    · rw [List.mem_cons] at h
      rcases h with rfl | h
      · exact hx _ _
      · exact Nat.le_trans (splitB_le k _ p h) (hx _ _)
theorem pieces_all (l : List ByteArray) : l.all (fun p => !(bs p).isEmpty && (bs p).all atomB) = (l.map bs).all (fun p => !p.isEmpty && p.all atomB) := by
  rw [List.all_map]; rfl

set_option maxRecDepth 100000 in
set_option maxHeartbeats 2000000 in
theorem dotted_calls (s : ByteArray) (m : Int) (w : World) (hs : s.size ≤ 100000) (hm : w.cell? ⟨6, 0, none⟩ = some (.int .i64 m)) :
    Calls Tryd.prog 99 #[.string s] w fun e w' => e = .returned (.bool (dotted (bs s))) ∧ Below w.heap.size w w' := by
  have hspec : dotted (bs s) = (Lib.splitB dotS 0 (Lib.countB s dotS) s).all (fun p => !(bs p).isEmpty && (bs p).all atomB) := by
    rw [pieces_all, splitB_segs]; rfl
  have hlen := Lib.splitB_all dotS (by decide) 0 _ s rfl
  have Hspec := Lib.hid hspec
  clear hspec
  have Hm := Lib.hid hm
  clear hm
  go_enter Tryd.func99, Tryd.ntmps99
  go_wp2_with fail
  refine (Tryd.strings_Split s dotS m _ (by omega) Hm.out (by decide)).mono ?_
  rintro e w' ⟨rfl, rfl⟩
  have hb : Below w.heap.size w (w.alloc (.cells ((Lib.splitB dotS 0 (Lib.countB s dotS) s).map Value.string).toArray 9)) := (Below.refl _ w).alloc (Nat.le_refl _) _
  have hcell := fun j x h => Lib.pieces_cell_at w (Lib.splitB dotS 0 (Lib.countB s dotS) s) 9 j x h
  have hle : Lib.countB s dotS ≤ s.size := by
    show Lib.countFrom [46] ((bs s).length + 1) (bs s) ≤ _
    rw [countFrom_dot _ _ (by omega)]
    exact List.count_le_length
  have hps : ∀ p, p ∈ Lib.splitB dotS 0 (Lib.countB s dotS) s → p.size ≤ 100000 := fun p hp => Nat.le_trans (splitB_le _ _ p hp) hs
  generalize hcnt : Lib.countB s dotS = n at *
  generalize Lib.splitB dotS 0 n s = ps at *
  generalize hwn : w.alloc (.cells (ps.map Value.string).toArray 9) = W at *
  have Hwn := Lib.hid hwn
  have Hcnt := Lib.hid hcnt
  clear hwn hcnt
  have Hcell := Lib.hid hcell
  clear hcell
  have Hlen := Lib.hid hlen
  have hlen1 : ps.length ≤ n + 1 := Nat.le_of_eq hlen
  have hlen2 : n + 1 ≤ ps.length := Nat.le_of_eq hlen.symm
  clear hlen
  have Hps := Lib.hid hps
  clear hps
  go_wp2
  go_loop [9] (fun i => ∃ k : Nat, k ≤ n + 1 ∧ i = .int .i64 k ∧ (ps.take k).all (fun p => !(bs p).isEmpty && (bs p).all atomB) = true) (fun i => n + 1 - (intOf i).toNat)
  case atStart => exact ⟨0, Nat.zero_le _, rfl, rfl⟩
  case round =>
    obtain ⟨k, hk, rfl, hgood⟩ := hrel
    have Hgood := Lib.hid hgood
    clear hgood
    by_cases hlt : k < n + 1
    · obtain ⟨p, hp⟩ : ∃ p, ps[k]? = some p := ⟨ps[k]'(by omega), by simp⟩
      have hc := Hcell.out k p hp
      have hpsz := Hps.out p (List.mem_of_getElem? hp)
      have hne : (ps.take (k + 1)) = ps.take k ++ [p] := by
        rw [List.take_add_one, hp]; rfl
      have Hne := Lib.hid hne
      have Hp := Lib.hid hp
      clear hne hp
      have bad : (!(bs p).isEmpty && (bs p).all atomB) = false → dotted (bs s) = false := by
        intro h
        rw [Hspec.out]
        apply Bool.eq_false_iff.2
        intro h2
        have := List.all_eq_true.1 h2 p (List.mem_of_getElem? Hp.out)
        rw [h] at this
        cases this
      have Hbad := Lib.hid bad
      clear bad
      by_cases he : p.size = 0
      · obtain rfl : p = ByteArray.empty := bs_inj (List.length_eq_zero_iff.1 (show (bs p).length = 0 from he))
        clear he
        go_wp2
        go_ret
        exact ⟨by rw [Hbad.out rfl]; rfl, hb⟩
      · have hne : (p.toList == []) = false := by
          rw [toList_bs, beq_eq_false_iff_ne]
          intro h
          exact he (by rw [← bs_len, h]; rfl)
        have hne2 : p.toList.isEmpty = false := by
          cases h : p.toList with
          | nil => rw [h] at hne; cases hne
          | cons a l => rfl
        go_wp2
        go_loop [17] (fun i => ∃ j : Nat, j ≤ p.size ∧ i = .int .i64 j ∧ ((bs p).take j).all atomB = true) (fun i => p.size - (intOf i).toNat)
        case atStart => exact ⟨0, Nat.zero_le _, rfl, rfl⟩
        case round =>
          obtain ⟨j, hj, rfl, hg⟩ := hrel
          have Hg := Lib.hid hg
          clear hg
          by_cases hjl : j < p.size
          · have ha := atom_calls p[j] W
            cases hv : atomB p[j] with
            | true =>
              rw [hv] at ha
              have hg2 : ((bs p).take (j + 1)).all atomB = true := by
                rw [take_snoc p j hjl, List.all_append, Hg.out, List.all_cons, hv]; rfl
              have Ha := Lib.hid ha
              have Hg2 := Lib.hid hg2
              clear ha hv hg2
              go_wp2_with (go_at_call 98; refine Ha.out.mono ?_; rintro e w' ⟨rfl, rfl⟩)
              go_round
              case rel => exact ⟨j + 1, by omega, by go_num, Hg2.out⟩
              case measure => simp [intOf]; omega
            | false =>
              rw [hv] at ha
              have hb2 : (!(bs p).isEmpty && (bs p).all atomB) = false := by
                have h1 : (bs p).all atomB = false := by
                  apply Bool.eq_false_iff.2
                  intro h2
                  have := List.all_eq_true.1 h2 p[j] (List.getElem_mem (by exact hjl))
                  rw [hv] at this
                  cases this
                rw [h1, Bool.and_false]
              have Ha := Lib.hid ha
              have Hb2 := Lib.hid hb2
              clear ha hv hb2
              go_wp2_with (go_at_call 98; refine Ha.out.mono ?_; rintro e w' ⟨rfl, rfl⟩)
              go_ret
              exact ⟨by rw [Hbad.out Hb2.out]; rfl, hb⟩
          · obtain rfl : j = p.size := by omega
            have hg2 : (ps.take (k + 1)).all (fun p => !(bs p).isEmpty && (bs p).all atomB) = true := by
              have h1 := Hg.out
              rw [take_full] at h1
              have h2 : (bs p).isEmpty = false := by rw [← toList_bs]; exact hne2
              rw [Hne.out, List.all_append, Hgood.out, List.all_cons, h1, h2]; rfl
            have Hg2 := Lib.hid hg2
            clear hg2
            go_wp2
            go_round
            case rel => exact ⟨k + 1, by omega, by go_num, Hg2.out⟩
            case measure => simp [intOf]; omega
    · obtain rfl : k = n + 1 := by omega
      have hr : dotted (bs s) = true := by
        have h1 := Hgood.out
        rw [List.take_of_length_le (by omega)] at h1
        rw [Hspec.out]; exact h1
      have Hr := Lib.hid hr
      clear hr
      go_wp2
      go_ret
      exact ⟨by rw [Hr.out]; rfl, hb⟩

/-- An address as a value. -/
structure Adr where
  loc : ByteArray
  dom : ByteArray
def adrVal (a : Adr) : Value := .agg #[.string a.loc, .string a.dom]
/-- What who.Check answers. -/
def checkA (a : Adr) : Int := if dotted (bs a.loc) = true ∧ dotted (bs a.dom) = true then (if 100 < a.loc.size + 1 + a.dom.size then 1 else 0) else 3

set_option maxRecDepth 100000 in
set_option maxHeartbeats 2000000 in
theorem check_calls (a : Adr) (m : Int) (w : World) (hl : a.loc.size ≤ 100000) (hd : a.dom.size ≤ 100000) (hm : w.cell? ⟨6, 0, none⟩ = some (.int .i64 m)) :
    Calls Tryd.prog 97 #[.agg #[.string a.loc, .string a.dom]] w fun e w' => e = .returned (.int .i64 (checkA a)) ∧ Below w.heap.size w w' := by
  have hb0 := (Below.refl w.heap.size w).alloc (Nat.le_refl _) (.cells #[.string a.loc, .string a.dom] 140)
  have hm1 := cell_later hb0 hm
  have d1 := dotted_calls a.loc m _ hl hm1
  have D1 := Lib.hid d1
  have Hm1 := Lib.hid hm1
  clear hm1 hm d1
  cases h1 : dotted (bs a.loc) with
  | false =>
    have hr : checkA a = 3 := by unfold checkA; rw [if_neg (by rw [h1]; simp)]
    have D1' := D1.out
    rw [h1] at D1'
    have Hr := Lib.hid hr
    have D := Lib.hid D1'
    clear D1 h1 hr D1'
    go_enter Tryd.func97, Tryd.ntmps97
    go_wp2_with fail
    refine D.out.mono ?_
    rintro e w1 ⟨rfl, hb1⟩
    go_wp2
    go_ret
    exact ⟨by rw [Hr.out]; rfl, hb0.trans (hb1.mono hb0.size)⟩
  | true =>
    have D1' := D1.out
    rw [h1] at D1'
    have D := Lib.hid D1'
    clear D1 D1'
    have H1 := Lib.hid h1
    clear h1
    go_enter Tryd.func97, Tryd.ntmps97
    go_wp2_with fail
    refine D.out.mono ?_
    rintro e w1 ⟨rfl, hb1⟩
    have hc0 : (w.alloc (.cells #[.string a.loc, .string a.dom] 140)).cell? ⟨w.heap.size, 0, none⟩ = some (.string a.loc) := by rw [World.cell?_alloc_at _ _ _ _ rfl]; rfl
    have hc1 : (w.alloc (.cells #[.string a.loc, .string a.dom] 140)).cell? ⟨w.heap.size, 1, none⟩ = some (.string a.dom) := by rw [World.cell?_alloc_at _ _ _ _ rfl]; rfl
    have k0 := cell_later hb1 hc0
    have k1 := cell_later hb1 hc1
    have hb2 := hb0.trans (hb1.mono hb0.size)
    have d2 := dotted_calls a.dom m w1 hd (cell_later hb1 Hm1.out)
    clear hc0 hc1 hb1 hb0 Hm1
    cases h2 : dotted (bs a.dom) with
    | false =>
      have hr : checkA a = 3 := by unfold checkA; rw [if_neg (by rw [h2]; simp)]
      rw [h2] at d2
      have Hr := Lib.hid hr
      have D2 := Lib.hid d2
      clear h2 hr d2
      go_wp2_with fail
      refine D2.out.mono ?_
      rintro e w3 ⟨rfl, hb3⟩
      go_wp2
      go_ret
      exact ⟨by rw [Hr.out]; rfl, hb2.trans (hb3.mono hb2.size)⟩
    | true =>
      rw [h2] at d2
      have D2 := Lib.hid d2
      have H2 := Lib.hid h2
      clear h2 d2
      go_wp2_with fail
      refine D2.out.mono ?_
      rintro e w3 ⟨rfl, hb3⟩
      have k30 := cell_later hb3 k0
      have k31 := cell_later hb3 k1
      have hb4 := hb2.trans (hb3.mono hb2.size)
      clear k0 k1 hb3 hb2
      by_cases hz : 100 < a.loc.size + 1 + a.dom.size
      · have hr : checkA a = 1 := by unfold checkA; rw [if_pos ⟨H1.out, H2.out⟩, if_pos hz]
        have Hr := Lib.hid hr
        clear hr
        go_wp2
        go_ret
        exact ⟨by rw [Hr.out]; rfl, hb4⟩
      · have hr : checkA a = 0 := by unfold checkA; rw [if_pos ⟨H1.out, H2.out⟩, if_neg hz]
        have Hr := Lib.hid hr
        clear hr
        go_wp2
        go_ret
        exact ⟨by rw [Hr.out]; rfl, hb4⟩
end Go.Proofs.YtgmnoemkdigafaaDoor
namespace Go.Proofs.YtgmnoemkdigafaaDoor
open Go.RowKit

/-- The reader's block. -/
def RB (W : World) (b : Nat) (s : ByteArray) (at' : Nat) : Prop := W.heap[b]? = some (.cells #[.string s, .int .i64 at'] 138 (0, 0))
theorem RB.c0 {W : World} {b : Nat} {s : ByteArray} {i : Nat} (h : RB W b s i) : W.cell? ⟨b, 0, none⟩ = some (.string s) := by simp [World.cell?, show W.heap[b]? = _ from h]
theorem RB.c1 {W : World} {b : Nat} {s : ByteArray} {i : Nat} (h : RB W b s i) : W.cell? ⟨b, 1, none⟩ = some (.int .i64 i) := by simp [World.cell?, show W.heap[b]? = _ from h]
theorem RB.f1 {W : World} {b : Nat} {s : ByteArray} {i : Nat} (h : RB W b s i) : W.frozen? ⟨b, 1, none⟩ = false := by simp [World.frozen?, show W.heap[b]? = _ from h]
theorem RB.lt {W : World} {b : Nat} {s : ByteArray} {i : Nat} (h : RB W b s i) : b < W.heap.size := (Array.getElem?_eq_some_iff.1 h).1
theorem RB.drewN {W : World} {b : Nat} {s : ByteArray} {i : Nat} (h : RB W b s i) (n : Nat) : RB (W.drewN n) b s i := h
theorem RB.below {W W' : World} {b : Nat} {s : ByteArray} {i : Nat} (h : RB W b s i) (hb : Below W.heap.size W W') : RB W' b s i := (hb.block b h.lt).trans h
theorem RB.alloc {W : World} {b : Nat} {s : ByteArray} {i : Nat} (h : RB W b s i) (o : Obj) : RB (W.alloc o) b s i := h.below ((Below.refl _ W).alloc (Nat.le_refl _) o)
theorem RB.set {W : World} {b : Nat} {s : ByteArray} {i : Nat} (h : RB W b s i) (j : Nat) : RB (W.setCell ⟨b, 1, none⟩ (.int .i64 j)) b s j := heap_setCell_at h 1 _

theorem RB.step {W : World} {b : Nat} {s : ByteArray} {i : Nat} (h : RB W b s i) (k : Nat) : RB (W.setCell ⟨b, 1, none⟩ (.int .i64 ((k : Int) + 1))) b s (k + 1) := h.set (k + 1)

theorem must_yes (w : World) : Calls Tryd.prog 86 #[.bool true] w fun e w' => e = .returned (.tuple #[]) ∧ w = w' := by
  go_enter Tryd.func86, Tryd.ntmps86
  go_wp2
  go_end0
  exact ⟨rfl, rfl⟩
/-- What a panic with ErrForm hands on. -/
def formPanic : List PanicEntry := [{ v := .iface 25 (.int .i64 3), recovered := false }]
theorem must_no (w : World) : Calls Tryd.prog 86 #[.bool false] w fun e w' => e = .panicked formPanic ∧ w = w' := by
  go_enter Tryd.func86, Tryd.ntmps86
  go_wp2
  exact ⟨rfl, rfl, rfl⟩

theorem must_quiet (w : World) (n : Nat) : Calls Tryd.prog 86 #[.bool true] (w.drewN n) fun e w'' => e = .returned (.tuple #[]) ∧ ∃ m, w'' = w.drewN m :=
  (must_yes _).mono fun _ _ ⟨he, hw⟩ => ⟨he, n, hw.symm⟩
set_option maxHeartbeats 1000000 in
theorem next_end (s : ByteArray) (b : Nat) (w : World) (h : RB w b s s.size) :
    Calls Tryd.prog 87 #[.pointer (some ⟨b, 0, none⟩)] w fun e w' => e = .returned (.int .u8 0) ∧ ∃ n, w' = w.drewN n := by
  have c0 := h.c0
  have c1 := h.c1
  clear h
  go_enter Tryd.func87, Tryd.ntmps87
  go_wp2
  go_quiet (fail)
  go_wp2
  go_ret
  exact ⟨rfl, _, rfl⟩
set_option maxHeartbeats 1000000 in
theorem next_in (s : ByteArray) (b i : Nat) (w : World) (_hs : s.size ≤ 100000) (h : RB w b s i) (hi : i < s.size) :
    Calls Tryd.prog 87 #[.pointer (some ⟨b, 0, none⟩)] w fun e w' => e = .returned (.int .u8 s[i].toNat) ∧ ∃ n, w' = w.drewN n := by
  have c0 := h.c0
  have c1 := h.c1
  clear h
  go_enter Tryd.func87, Tryd.ntmps87
  go_wp2
  go_quiet (fail)
  go_wp2
  go_quiet (fail)
  go_wp2
  go_ret
  exact ⟨rfl, _, World.drewN_drewN _ _ _⟩
/-- The next byte; 0: there is none. -/
def nextB (l : List UInt8) : UInt8 := l.headD 0
theorem next_calls (s : ByteArray) (b i : Nat) (w : World) (hs : s.size ≤ 100000) (h : RB w b s i) (hi : i ≤ s.size) :
    Calls Tryd.prog 87 #[.pointer (some ⟨b, 0, none⟩)] w fun e w' => e = .returned (.int .u8 (nextB ((bs s).drop i)).toNat) ∧ ∃ n, w' = w.drewN n := by
  by_cases hlt : i < s.size
  · have e : nextB ((bs s).drop i) = s[i] := by
      rw [List.drop_eq_getElem_cons (by exact hlt)]; rfl
    rw [e]
    exact next_in s b i w hs h hlt
  · obtain rfl : i = s.size := by omega
    have e : nextB ((bs s).drop s.size) = 0 := by
      rw [List.drop_of_length_le (Nat.le_of_eq (bs_len s))]; rfl
    rw [e]
    exact next_end s b w h

def blankB (c : UInt8) : Bool := c == 32 || c == 9
theorem drop_step {s : ByteArray} {k : Nat} (h : k < s.size) : (bs s).drop k = s[k] :: (bs s).drop (k + 1) := by
  rw [List.drop_eq_getElem_cons (by exact h)]; rfl
theorem byte_eq {c : UInt8} {n : Nat} (hn : n < 256) : ((c.toNat : Int) == (n : Int)) = (c == UInt8.ofNat n) := by
  rw [Bool.eq_iff_iff, beq_iff_eq, beq_iff_eq]
  constructor
  · intro h
    apply UInt8.toNat_inj.1
    have : (UInt8.ofNat n).toNat = n := by rw [UInt8.toNat_ofNat']; omega
    omega
  · rintro rfl
    rw [UInt8.toNat_ofNat']; omega

set_option maxRecDepth 100000 in
set_option maxHeartbeats 4000000 in
theorem skip_calls (s : ByteArray) (b i : Nat) (w : World) (hs : s.size ≤ 100000) (h : RB w b s i) (hi : i ≤ s.size) :
    Calls Tryd.prog 85 #[.pointer (some ⟨b, 0, none⟩)] w fun e w' => e = .returned (.tuple #[]) ∧ ∃ j, j ≤ s.size ∧ i ≤ j ∧ (bs s).drop j = ((bs s).drop i).dropWhile blankB ∧ RB w' b s j ∧ Mv b w w' := by
  go_enter Tryd.func85, Tryd.ntmps85
  go_wp2
  go_loopg [] s.size (fun kq wr => ∃ k, k ≤ s.size ∧ i ≤ k ∧ k + kq = s.size + i ∧ Hid (((bs s).drop k).dropWhile blankB = ((bs s).drop i).dropWhile blankB) ∧ RB wr b s k ∧ Mv b w wr)
  case atStart => exact ⟨i, hi, Nat.le_refl _, by omega, Lib.hid rfl, h, Mv.refl _ _⟩
  case round =>
    obtain ⟨k, hk, hik, hsum, hdw, hrb, hmv⟩ := hrel
    have Hsum := Lib.hid hsum
    have c0 := hrb.c0
    have c1 := hrb.c1
    have f1 := hrb.f1
    have hbl := hrb.lt
    clear hsum h
    have Hrb := Lib.hid hrb
    clear hrb
    by_cases hlt : k < s.size
    · by_cases h32 : s[k] = 32
      · have e1 : ((s[k].toNat : Int) == 32) = true := by rw [h32]; rfl
        have hd : Hid (((bs s).drop (k + 1)).dropWhile blankB = ((bs s).drop i).dropWhile blankB) := by
          rw [← hdw.out, drop_step hlt, List.dropWhile_cons_of_pos (by rw [h32]; rfl)]; exact Lib.hid rfl
        clear h32
        go_wp2
        go_quiet (fail)
        go_wp2
        go_roundg (gk - 1)
        case measure => have := Hsum.out; omega
        case rel => exact ⟨k + 1, by omega, by omega, by have := Hsum.out; omega, hd, (Hrb.out.drewN _).step k, ((hmv.drewN _).set 1 _)⟩
      · have e1 : ((s[k].toNat : Int) == 32) = false := by rw [show (32 : Int) = ((32 : Nat) : Int) from rfl, byte_eq (by decide)]; simpa using h32
        by_cases h9 : s[k] = 9
        · have e2 : ((s[k].toNat : Int) == 9) = true := by rw [h9]; rfl
          have hd : Hid (((bs s).drop (k + 1)).dropWhile blankB = ((bs s).drop i).dropWhile blankB) := by
            rw [← hdw.out, drop_step hlt, List.dropWhile_cons_of_pos (by rw [h9]; rfl)]; exact Lib.hid rfl
          clear h32 h9
          go_wp2
          go_quiet (fail)
          go_wp2
          go_roundg (gk - 1)
          case measure => have := Hsum.out; omega
          case rel => exact ⟨k + 1, by omega, by omega, by have := Hsum.out; omega, hd, (Hrb.out.drewN _).step k, ((hmv.drewN _).set 1 _)⟩
        · have e2 : ((s[k].toNat : Int) == 9) = false := by rw [show (9 : Int) = ((9 : Nat) : Int) from rfl, byte_eq (by decide)]; simpa using h9
          have hd : Hid ((bs s).drop k = ((bs s).drop i).dropWhile blankB) := by
            rw [← hdw.out, drop_step hlt, List.dropWhile_cons_of_neg (by simp [blankB, h32, h9])]; exact Lib.hid rfl
          clear h32 h9
          go_wp2
          go_quiet (fail)
          go_wp2
          go_end0
          exact ⟨rfl, k, hk, hik, hd.out, Hrb.out.drewN _, hmv.drewN _⟩
    · have hd : Hid ((bs s).drop k = ((bs s).drop i).dropWhile blankB) := by
        rw [← hdw.out, List.drop_of_length_le (by rw [bs_len]; omega)]; exact Lib.hid rfl
      go_wp2
      go_quiet (fail)
      go_wp2
      go_end0
      exact ⟨rfl, k, hk, hik, hd.out, Hrb.out.drewN _, hmv.drewN _⟩

theorem atom_quiet (c : UInt8) (v : Bool) (hv : atomB c = v) (w : World) (n : Nat) :
    Calls Tryd.prog 98 #[.int .u8 c.toNat] (w.drewN n) fun e w'' => e = .returned (.bool v) ∧ ∃ m, w'' = w.drewN m :=
  (atom_calls c _).mono fun _ _ ⟨he, hw⟩ => ⟨by rw [he, hv], n, hw.symm⟩
def runB (c : UInt8) : Bool := atomB c || c == 46
set_option maxRecDepth 100000 in
set_option maxHeartbeats 4000000 in
theorem run_calls (s : ByteArray) (b i : Nat) (w : World) (hs : s.size ≤ 100000) (h : RB w b s i) (hi : i ≤ s.size) :
    Calls Tryd.prog 94 #[.pointer (some ⟨b, 0, none⟩)] w fun e w' => e = .returned (.string (mkS (((bs s).drop i).takeWhile runB))) ∧ ∃ j, j ≤ s.size ∧ i ≤ j ∧ (bs s).drop j = ((bs s).drop i).dropWhile runB ∧ RB w' b s j ∧ Mv b w w' := by
  have c0 := h.c0
  have c1 := h.c1
  go_enter Tryd.func94, Tryd.ntmps94
  go_wp2
  clear c0 c1
  go_loopg [] s.size (fun kq wr => ∃ k, k ≤ s.size ∧ i ≤ k ∧ k + kq = s.size + i ∧ Hid (((bs s).drop k).dropWhile runB = ((bs s).drop i).dropWhile runB) ∧ Hid (((bs s).take k).drop i ++ ((bs s).drop k).takeWhile runB = ((bs s).drop i).takeWhile runB) ∧ RB wr b s k ∧ Mv b w wr)
  case atStart => exact ⟨i, hi, Nat.le_refl _, by omega, Lib.hid rfl, Lib.hid (by rw [List.drop_of_length_le (by rw [List.length_take]; omega)]; rfl), h, Mv.refl _ _⟩
  case round =>
    obtain ⟨k, hk, hik, hsum, hdw, htw, hrb, hmv⟩ := hrel
    have Hsum := Lib.hid hsum
    have c0 := hrb.c0
    have c1 := hrb.c1
    have f1 := hrb.f1
    have hbl := hrb.lt
    clear hsum h
    have Hrb := Lib.hid hrb
    clear hrb
    by_cases hlt : k < s.size
    · have hsnoc : ((bs s).take (k + 1)).drop i = ((bs s).take k).drop i ++ [s[k]] := by
        rw [take_snoc s k hlt, List.drop_append_of_le_length (by rw [List.length_take, bs_len]; omega)]
      have hgo : runB s[k] = true → Hid (((bs s).drop (k + 1)).dropWhile runB = ((bs s).drop i).dropWhile runB) ∧ Hid (((bs s).take (k + 1)).drop i ++ ((bs s).drop (k + 1)).takeWhile runB = ((bs s).drop i).takeWhile runB) := fun hr =>
        ⟨Lib.hid (by rw [← hdw.out, drop_step hlt, List.dropWhile_cons_of_pos hr]), Lib.hid (by rw [← htw.out, drop_step hlt, List.takeWhile_cons_of_pos hr, hsnoc, List.append_assoc]; rfl)⟩
      have hno : ¬ runB s[k] = true → Hid ((bs s).drop k = ((bs s).drop i).dropWhile runB) ∧ Hid (((bs s).take k).drop i = ((bs s).drop i).takeWhile runB) := fun hr =>
        ⟨Lib.hid (by rw [← hdw.out, drop_step hlt, List.dropWhile_cons_of_neg hr]), Lib.hid (by rw [← htw.out, drop_step hlt, List.takeWhile_cons_of_neg hr, List.append_nil])⟩
      clear hsnoc
      by_cases ha : atomB s[k] = true
      · have hd := hgo (by simp [runB, ha])
        clear hgo hno
        go_wp2
        go_quiet (exact atom_quiet _ true ha _ _)
        go_wp2
        go_roundg (gk - 1)
        case measure => have := Hsum.out; omega
        case rel => exact ⟨k + 1, by omega, by omega, by have := Hsum.out; omega, hd.1, hd.2, (Hrb.out.drewN _).step k, ((hmv.drewN _).set 1 _)⟩
      · have ha2 : atomB s[k] = false := by simpa using ha
        by_cases h46 : s[k] = 46
        · have hd := hgo (by simp [runB, h46])
          have e1 : ((s[k].toNat : Int) == 46) = true := by rw [h46]; rfl
          clear hgo hno h46
          go_wp2
          go_quiet (exact atom_quiet _ false ha2 _ _)
          go_wp2
          go_roundg (gk - 1)
          case measure => have := Hsum.out; omega
          case rel => exact ⟨k + 1, by omega, by omega, by have := Hsum.out; omega, hd.1, hd.2, (Hrb.out.drewN _).step k, ((hmv.drewN _).set 1 _)⟩
        · have hd := hno (by simp [runB, ha2, h46])
          have e1 : ((s[k].toNat : Int) == 46) = false := by rw [show (46 : Int) = ((46 : Nat) : Int) from rfl, byte_eq (by decide)]; simpa using h46
          clear hgo hno h46
          go_wp2
          go_quiet (exact atom_quiet _ false ha2 _ _)
          go_wp2
          go_quiet (fail)
          go_wp2
          go_ret
          exact ⟨show Ending.returned (.string (s.extract i k)) = _ by rw [extract_mkS, hd.2.out], k, hk, hik, hd.1.out, (Hrb.out.drewN _).drewN _, (hmv.drewN _).drewN _⟩
    · have hd : Hid ((bs s).drop k = ((bs s).drop i).dropWhile runB) := by
        rw [← hdw.out, List.drop_of_length_le (by rw [bs_len]; omega)]; exact Lib.hid rfl
      have ht : Hid (((bs s).take k).drop i = ((bs s).drop i).takeWhile runB) := by
        rw [← htw.out, List.drop_of_length_le (l := bs s) (i := k) (by rw [bs_len]; omega), List.takeWhile_nil, List.append_nil]; exact Lib.hid rfl
      go_wp2
      go_quiet (fail)
      go_wp2
      go_quiet (fail)
      go_wp2
      go_ret
      exact ⟨show Ending.returned (.string (s.extract i k)) = _ by rw [extract_mkS, ht.out], k, hk, hik, hd.out, (Hrb.out.drewN _).drewN _, (hmv.drewN _).drewN _⟩
end Go.Proofs.YtgmnoemkdigafaaDoor
