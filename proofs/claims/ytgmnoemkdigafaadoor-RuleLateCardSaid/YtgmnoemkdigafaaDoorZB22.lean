/- The helpers needs and needsTest of the statements. The tables of package script, out of a row's list of package-level variables. The table of the flags' names, out of a row's list of package-level variables. The tables that package rule leans on, out of a row's list of package-level variables. Rows of commands that grow: what an append begins and ends with. What is not required is not allowed; what needs nothing is allowed without: for every script of sticks. What the cards of this seat share: the knob, the layout, and a world that holds what the rows list. -/
import Derived.Test.YtgmnoemkdigafaaDoorZB21
import Derived.Deep.DeepCutAuto
import Derived.Deep.CutBlock
import Derived.Test.YtgmnoemkdigafaaDoorZB11
import Derived.Test.YtgmnoemkdigafaaDoorZB6
import Derived.Test.YtgmnoemkdigafaaDoorZB12
import Derived.Test.YtgmnoemkdigafaaDoorRows
import Derived.ProofKit
import Derived.Lib.LaidTab
import Derived.Deep.DeepHandedRow
namespace Go.Proofs.YtgmnoemkdigafaaDoor
open Go.RowKit
set_option linter.unusedVariables false

def NT (t : Tst) : Prop := ∀ (vs : List Value) (w : World), TestV w t vs → Calls Tryd.prog 39 #[.agg vs.toArray] w fun e w' => e = .returned (.bool (needsT t)) ∧ Below w.heap.size w w'
def NC (cs : List Cmd) : Prop := ∀ (A : Option Addr) (c : Nat) (w : World), CmdsAt w cs A → cs.length ≤ 1000000 → Calls Tryd.prog 23 #[.slice A cs.length c] w fun e w' => e = .returned (.bool (needsCs cs)) ∧ Below w.heap.size w w'
theorem needsTs_drop {ts : List Tst} {j : Nat} {s : Tst} (h : ts.drop j = s :: ts.drop (j + 1)) (h2 : needsTs (ts.drop j) = needsTs ts) (h3 : needsT s = false) : needsTs (ts.drop (j + 1)) = needsTs ts := by
  rw [← h2, h, needsTs, h3, Bool.false_or]
theorem needsCs_drop {ts : List Cmd} {j : Nat} {s : Cmd} (h : ts.drop j = s :: ts.drop (j + 1)) (h2 : needsCs (ts.drop j) = needsCs ts) (h3 : needsC s = false) : needsCs (ts.drop (j + 1)) = needsCs ts := by
  rw [← h2, h, needsCs, h3, Bool.false_or]
set_option maxRecDepth 100000 in
set_option maxHeartbeats 8000000 in
theorem needsTest_of (k m p : Int) (ns ks : List ByteArray) (o : Bool) (lm : Int) (ts : List Tst) (ih : ∀ t ∈ ts, NT t) : NT (.mk k m p ns ks o lm ts) := by
  intro vs w hv
  unfold TestV at hv
  obtain ⟨An, cn, Ak, ck, At, ct, rfl, hn, hkk, hta, hn1, hn2, hn3, hl1, hl2, hl3⟩ := hv
  have hb1 : Below w.heap.size w (w.alloc (.cells #[.int .i64 k, .int .i64 m, .int .i64 p, .slice An ns.length cn, .slice Ak ks.length ck, .bool o, .int .i64 lm, .slice At ts.length ct] 31)) := bal (Below.refl _ w) _
  have hT := Bk.new w [.int .i64 k, .int .i64 m, .int .i64 p, .slice An ns.length cn, .slice Ak ks.length ck, .bool o, .int .i64 lm, .slice At ts.length ct] 31
  generalize hres : needsT (.mk k m p ns ks o lm ts) = res at *
  rw [needsT] at hres
  have Hres := Lib.hid hres
  have Hih := Lib.hid ih
  have Hta := Lib.hid hta
  have HT := Lib.hid hT
  have Hb1 := Lib.hid hb1
  clear hres ih hn hkk hta hT hb1 hn1 hn2 hn3
  go_enter Tryd.func39, Tryd.ntmps39
  go_upto_region 1 with fail
  generalize w.alloc (.cells #[.int .i64 k, .int .i64 m, .int .i64 p, .slice An ns.length cn, .slice Ak ks.length ck, .bool o, .int .i64 lm, .slice At ts.length ct] 31) = w1 at *
  go_wp2_with fail
  go_loopw [3] (fun i wr => ∃ j : Nat, j ≤ ts.length ∧ i = .int .i64 j ∧ Hid (needsTs (ts.drop j) = needsTs ts) ∧ Hid (Below w1.heap.size w1 wr)) (fun i _ => ts.length - (intOf i).toNat)
  case atStart => exact ⟨0, Nat.zero_le _, rfl, Lib.hid (by rw [List.drop_zero]), Lib.hid (Below.refl _ _)⟩
  case round =>
    obtain ⟨j, hj, rfl, Hj, Hbr⟩ := hrel
    have x7 := cell_later Hbr.out (HT.out.cell 7 _ rfl)
    by_cases hlt : j < ts.length
    · have hj0 : (0 : Int) ≤ (j : Int) := by omega
      have hjn : (j : Int) < (ts.length : Int) := by omega
      obtain ⟨g, off, s, k2, m2, p2, lm2, o2, An2, Ak2, At2, nn2, cn2, nk2, ck2, nt2, ct2, rfl, hmem, hdr, huv, c0, c1, c2, c3, c4, c5, c6, c7⟩ := testsAt_round (btr Hb1.out Hbr.out) Hta.out hlt
      have hcall := Lib.hid (Hih.out s hmem [.int .i64 k2, .int .i64 m2, .int .i64 p2, .slice An2 nn2 cn2, .slice Ak2 nk2 ck2, .bool o2, .int .i64 lm2, .slice At2 nt2 ct2] wr huv)
      have hdrop := Lib.hid (needsTs_drop hdr Hj.out)
      have htrue : needsT s = true → res = true := fun h => by
        have h2 := Hj.out
        rw [hdr, needsTs, h, Bool.true_or] at h2
        rw [← Hres.out, ← h2, Bool.true_or]
      have Htrue := Lib.hid htrue
      clear hmem hdr huv htrue
      generalize hq : needsT s = q at *
      clear hq
      cases q with
      | true =>
        obtain rfl := Htrue.out rfl
        go_wp2_with (go_at_call 39; refine hcall.out.mono ?_; rintro e w6 ⟨rfl, hb6⟩; have Hb6 := Lib.hid (btr Hbr.out hb6); clear hb6)
        go_ret
        exact ⟨(by first | rfl | trivial), btr Hb1.out Hb6.out⟩
      | false =>
        have Hd := Lib.hid (hdrop.out rfl)
        go_wp2_with (go_at_call 39; refine hcall.out.mono ?_; rintro e w6 ⟨rfl, hb6⟩; have Hb6 := Lib.hid (btr Hbr.out hb6); clear hb6)
        go_roundw
        case rel => exact ⟨j + 1, by omega, by go_num, Hd, Hb6⟩
        case measure => simp [intOf]; omega
    · obtain rfl : j = ts.length := by omega
      have hju := Hj.out
      rw [List.drop_length, needsTs] at hju
      have hr := Hres.out
      rw [← hju, Bool.false_or] at hr
      have x0 := cell_later Hbr.out (HT.out.cell 0 _ rfl)
      by_cases hk : k = 8
      · have hkb : (k == 8) = true := by simpa using hk
        rw [decide_eq_true hk] at hr
        subst hr
        clear hk hju
        go_wp2_with fail
        go_ret
        exact ⟨(by first | rfl | trivial), btr Hb1.out Hbr.out⟩
      · have hkb : (k == 8) = false := by simpa using hk
        rw [decide_eq_false hk] at hr
        subst hr
        clear hk hju
        go_wp2_with fail
        go_ret
        exact ⟨(by first | rfl | trivial), btr Hb1.out Hbr.out⟩
theorem needsTest_calls : ∀ (N : Nat) (t : Tst), SizeOf.sizeOf t ≤ N → NT t
  | 0, t, hN => by cases t; simp at hN
  | N + 1, t, hN => by
    obtain ⟨k, m, p, ns, ks, o, lm, ts⟩ := t
    exact needsTest_of k m p ns ks o lm ts fun t ht => needsTest_calls N t (by
      have h1 := List.sizeOf_lt_of_mem ht
      simp only [Tst.mk.sizeOf_spec] at hN
      omega)

set_option maxRecDepth 100000 in
set_option maxHeartbeats 8000000 in
theorem needs_of (cs : List Cmd) (ih : ∀ c ∈ cs, ∀ k tx t th el, c = .mk k tx t th el → NT t ∧ NC th ∧ NC el) : NC cs := by
  intro A cp w hta hln
  generalize hres : needsCs cs = res at *
  have Hres := Lib.hid hres
  have Hih := Lib.hid ih
  have Hta := Lib.hid hta
  clear hres ih hta
  go_enter Tryd.func23, Tryd.ntmps23
  go_wp2_with fail
  go_loopw [3] (fun i wr => ∃ j : Nat, j ≤ cs.length ∧ i = .int .i64 j ∧ Hid (needsCs (cs.drop j) = needsCs cs) ∧ Hid (Below w.heap.size w wr)) (fun i _ => cs.length - (intOf i).toNat)
  case atStart => exact ⟨0, Nat.zero_le _, rfl, Lib.hid (by rw [List.drop_zero]), Lib.hid (Below.refl _ _)⟩
  case round =>
    obtain ⟨j, hj, rfl, Hj, Hbr⟩ := hrel
    by_cases hlt : j < cs.length
    · have hj0 : (0 : Int) ≤ (j : Int) := by omega
      have hjn : (j : Int) < (cs.length : Int) := by omega
      obtain ⟨b, off, s, k, Ax, nx, cx, k2, m, p, lm, o, An, Ak, At, nn, cn, nk, ck, nt, ct, Ah, nh, ch, Ae, ne, ce, rfl, hmem, hgt, hdr, hki, huv, c0, c1, c2, c3, c4, c5, c6, c7, c8, c9, c10, c11⟩ := cmdsAt_round Hbr.out Hta.out hlt
      have huv2 := cmdV_later Hbr.out s _ huv
      obtain ⟨k', tx, t, th, el⟩ := s
      obtain ⟨Ax', cx', k2', m', p', lm', o', An', Ak', At', nn', cn', nk', ck', nt', ct', Ah', ch', Ae', ce', heq, _, htv, hth, hel, hle⟩ := cmdV_cells huv2
      simp only [List.cons.injEq, Value.int.injEq, Value.slice.injEq, Value.bool.injEq, true_and, and_true] at heq
      obtain ⟨rfl, ⟨rfl, rfl, rfl⟩, rfl, rfl, rfl, ⟨rfl, rfl, rfl⟩, ⟨rfl, rfl, rfl⟩, rfl, rfl, ⟨rfl, rfl, rfl⟩, ⟨rfl, rfl, rfl⟩, rfl, rfl, rfl⟩ := heq
      obtain ⟨iT, iH, iE⟩ := Hih.out _ hmem k tx t th el rfl
      have hcT := Lib.hid (fun W (hW : Below wr.heap.size wr W) => iT _ W (testV_later hW t _ htv))
      have hcH := Lib.hid (fun W (hW : Below wr.heap.size wr W) => iH Ah ch W (cmdsAt_later hW th _ hth) (by omega))
      have hcE := Lib.hid (fun W (hW : Below wr.heap.size wr W) => iE Ae ce W (cmdsAt_later hW el _ hel) (by omega))
      have hdrop := Lib.hid (needsCs_drop hdr Hj.out)
      have htrue : needsC (.mk k tx t th el) = true → res = true := fun h => by
        have h2 := Hj.out
        rw [hdr, needsCs, h, Bool.true_or] at h2
        rw [← Hres.out, ← h2]
      have Htrue := Lib.hid htrue
      clear hmem hgt hdr hki huv huv2 htv hth hel iT iH iE htrue hle
      by_cases hlf : k = 5 ∨ k = 7 ∨ k = 8 ∨ k = 9
      · obtain rfl := Htrue.out (by rw [needsC, if_pos hlf])
        rcases hlf with rfl | rfl | rfl | rfl
        all_goals (
          go_wp2_with fail
          go_ret
          exact ⟨(by first | rfl | trivial), Hbr.out⟩)
      · by_cases hif : k = 2
        · subst hif
          have hnc : needsC (.mk 2 tx t th el) = (needsT t || (needsCs th || needsCs el)) := by rw [needsC, if_neg (by decide), if_pos rfl]
          have HT := Lib.hid (fun h => Htrue.out (hnc.trans h))
          have HD := Lib.hid (fun h => hdrop.out (hnc.trans h))
          clear hlf hnc Htrue hdrop
          generalize hq1 : needsT t = q1 at *
          generalize hq2 : needsCs th = q2 at *
          generalize hq3 : needsCs el = q3 at *
          clear hq1 hq2 hq3
          have h1 := Lib.hid (hcT.out wr (Below.refl _ _))
          cases q1 with
          | true =>
            obtain rfl := HT.out rfl
            go_wp2_with (first | (go_at_call 39; with_reducible refine h1.out.mono ?_; rintro e w5 ⟨rfl, hb5⟩; have Hb5 := Lib.hid hb5; have h2 := Lib.hid (hcH.out w5 hb5); have d10 := cell_later hb5 c10; have d11 := cell_later hb5 c11; clear hb5))
            go_ret
            exact ⟨(by first | rfl | trivial), btr Hbr.out Hb5.out⟩
          | false =>
            cases q2 with
            | true =>
              obtain rfl := HT.out rfl
              go_wp2_with (first | (go_at_call 39; with_reducible refine h1.out.mono ?_; rintro e w5 ⟨rfl, hb5⟩; have Hb5 := Lib.hid hb5; have h2 := Lib.hid (hcH.out w5 hb5); have d10 := cell_later hb5 c10; have d11 := cell_later hb5 c11; clear hb5) | (go_at_call 23; with_reducible refine h2.out.mono ?_; rintro e w6 ⟨rfl, hb6⟩; have Hb6 := Lib.hid (btr Hb5.out hb6); have h3 := Lib.hid (hcE.out w6 (btr Hb5.out hb6)); have e11 := cell_later hb6 d11; clear hb6))
              go_ret
              exact ⟨(by first | rfl | trivial), btr Hbr.out Hb6.out⟩
            | false =>
              cases q3 with
              | true =>
                obtain rfl := HT.out rfl
                go_wp2_with (first | (go_at_call 39; with_reducible refine h1.out.mono ?_; rintro e w5 ⟨rfl, hb5⟩; have Hb5 := Lib.hid hb5; have h2 := Lib.hid (hcH.out w5 hb5); have d10 := cell_later hb5 c10; have d11 := cell_later hb5 c11; clear hb5) | (go_at_call 23; with_reducible refine h2.out.mono ?_; rintro e w6 ⟨rfl, hb6⟩; have Hb6 := Lib.hid (btr Hb5.out hb6); have h3 := Lib.hid (hcE.out w6 (btr Hb5.out hb6)); have e11 := cell_later hb6 d11; clear hb6) | (go_at_call 23; with_reducible refine h3.out.mono ?_; rintro e w7 ⟨rfl, hb7⟩; have Hb7 := Lib.hid (btr Hb6.out hb7); clear hb7))
                go_ret
                exact ⟨(by first | rfl | trivial), btr Hbr.out Hb7.out⟩
              | false =>
                have Hd := Lib.hid (HD.out rfl)
                go_wp2_with (first | (go_at_call 39; with_reducible refine h1.out.mono ?_; rintro e w5 ⟨rfl, hb5⟩; have Hb5 := Lib.hid hb5; have h2 := Lib.hid (hcH.out w5 hb5); have d10 := cell_later hb5 c10; have d11 := cell_later hb5 c11; clear hb5) | (go_at_call 23; with_reducible refine h2.out.mono ?_; rintro e w6 ⟨rfl, hb6⟩; have Hb6 := Lib.hid (btr Hb5.out hb6); have h3 := Lib.hid (hcE.out w6 (btr Hb5.out hb6)); have e11 := cell_later hb6 d11; clear hb6) | (go_at_call 23; with_reducible refine h3.out.mono ?_; rintro e w7 ⟨rfl, hb7⟩; have Hb7 := Lib.hid (btr Hb6.out hb7); clear hb7))
                go_roundw
                case rel => exact ⟨j + 1, by omega, by go_num, Hd, Lib.hid (btr Hbr.out Hb7.out)⟩
                case measure => simp [intOf]; omega
        · have hnc : needsC (.mk k tx t th el) = false := by rw [needsC, if_neg hlf, if_neg hif]
          have Hd := Lib.hid (hdrop.out hnc)
          have e5 : (k == 5) = false := by rw [beq_eq_false_iff_ne]; omega
          have e7 : (k == 7) = false := by rw [beq_eq_false_iff_ne]; omega
          have e8 : (k == 8) = false := by rw [beq_eq_false_iff_ne]; omega
          have e9 : (k == 9) = false := by rw [beq_eq_false_iff_ne]; omega
          have e2 : (k == 2) = false := by rw [beq_eq_false_iff_ne]; omega
          clear hlf hif hnc Htrue hdrop hcT hcH hcE
          go_wp2_with fail
          go_roundw
          case rel => exact ⟨j + 1, by omega, by go_num, Hd, Hbr⟩
          case measure => simp [intOf]; omega
    · obtain rfl : j = cs.length := by omega
      have hju := Hj.out
      rw [List.drop_length, needsCs] at hju
      have hr := Hres.out
      rw [← hju] at hr
      subst hr
      clear hju
      go_wp2_with fail
      go_ret
      exact ⟨(by first | rfl | trivial), Hbr.out⟩
theorem needs_calls : ∀ (N : Nat) (cs : List Cmd), SizeOf.sizeOf cs ≤ N → NC cs
  | 0, cs, hN => by cases cs <;> simp at hN
  | N + 1, cs, hN => needs_of cs fun c hc k tx t th el he => by
    subst he
    have h1 := List.sizeOf_lt_of_mem hc
    simp only [Cmd.mk.sizeOf_spec] at h1
    exact ⟨needsTest_calls _ t (Nat.le_refl _), needs_calls N th (by omega), needs_calls N el (by omega)⟩
end Go.Proofs.YtgmnoemkdigafaaDoor
namespace Go.Proofs.YtgmnoemkdigafaaDoor
open Go.RowKit

theorem tabsAt_of {laid : List (String × DataW Unit)} {W : World} (h : laidMet Tryd.prog laid W) (h1 : ("postroom/script.commands", strsData commandsW) ∈ laid) (h2 : ("postroom/script.tests", strsData testsW) ∈ laid)
    (h3 : ("postroom/script.matches", strsData matchesW) ∈ laid) (h4 : ("postroom/script.parts", strsData partsW) ∈ laid) : TabsAt W := by
  refine ⟨fun i hi => ?_, fun i hi => ?_, fun i hi => ?_, fun i hi => ?_⟩
  · exact strs_at (g := 3) (k := 11) (e := 9) h (by kernel_rfl) (by kernel_rfl) Tryd.underlying96 Tryd.underlying9 (by kernel_rfl) h2 i hi
  · exact strs_at (g := 4) (k := 4) (e := 9) h (by kernel_rfl) (by kernel_rfl) Tryd.underlying86 Tryd.underlying9 (by kernel_rfl) h4 i hi
  · exact strs_at (g := 5) (k := 4) (e := 9) h (by kernel_rfl) (by kernel_rfl) Tryd.underlying86 Tryd.underlying9 (by kernel_rfl) h3 i hi
  · exact strs_at (g := 2) (k := 11) (e := 9) h (by kernel_rfl) (by kernel_rfl) Tryd.underlying96 Tryd.underlying9 (by kernel_rfl) h1 i hi
end Go.Proofs.YtgmnoemkdigafaaDoor
namespace Go.Proofs.YtgmnoemkdigafaaDoor
open Go.RowKit

theorem namesAt_of {laid : List (String × DataW Unit)} {W : World} (h : laidMet Tryd.prog laid W) (hm : ("postroom/rule.names", strsData namesL) ∈ laid) : NamesAt W := by
  intro i hi
  rw [Nat.zero_add]
  have h1 := strs_at (g := 0) (k := 5) (e := 9) h (by kernel_rfl) (by kernel_rfl) Tryd.underlying64 Tryd.underlying9 (by kernel_rfl) hm i (by simpa [namesB] using hi)
  rw [h1]
  have h2 : i < 5 := hi
  match i, h2 with
  | 0, _ => rfl
  | 1, _ => rfl
  | 2, _ => rfl
  | 3, _ => rfl
  | 4, _ => rfl
end Go.Proofs.YtgmnoemkdigafaaDoor
namespace Go.Proofs.YtgmnoemkdigafaaDoor
open Go.RowKit

def extsL : List (List UInt8) := [[102, 105, 108, 101, 105, 110, 116, 111], [114, 101, 106, 101, 99, 116], [101, 110, 118, 101, 108, 111, 112, 101], [105, 109, 97, 112, 52, 102, 108, 97, 103, 115]]
/-- The tables of words, names and extensions. -/
def RulE (w : World) : Prop := TabsAt w ∧ NamesAt w ∧ ExtsAt w
theorem RulE.later {w w' : World} (hb : Below w.heap.size w w') (h : RulE w) : RulE w' := ⟨h.1.later hb, h.2.1.later hb, h.2.2.later hb⟩
theorem rulE_of {laid : List (String × DataW Unit)} {W : World} (h : laidMet Tryd.prog laid W) (h1 : ("postroom/script.commands", strsData commandsW) ∈ laid) (h2 : ("postroom/script.tests", strsData testsW) ∈ laid)
    (h3 : ("postroom/script.matches", strsData matchesW) ∈ laid) (h4 : ("postroom/script.parts", strsData partsW) ∈ laid) (h5 : ("postroom/rule.extensions", strsData extsL) ∈ laid) (h6 : ("postroom/rule.names", strsData namesL) ∈ laid) : RulE W := by
  refine ⟨tabsAt_of h h1 h2 h3 h4, namesAt_of h h6, fun i hi => ?_⟩
  have hh := fun i hi => strs_at (g := 1) (k := 4) (e := 9) h (by kernel_rfl) (by kernel_rfl) Tryd.underlying86 Tryd.underlying9 (by kernel_rfl) h5 i hi
  rw [Nat.zero_add]
  have hlt : i < 4 := hi
  rcases (show i = 0 ∨ i = 1 ∨ i = 2 ∨ i = 3 by omega) with rfl | rfl | rfl | rfl
  · exact hh 0 (by decide)
  · exact hh 1 (by decide)
  · exact hh 2 (by decide)
  · exact hh 3 (by decide)
end Go.Proofs.YtgmnoemkdigafaaDoor
namespace Go.Proofs.YtgmnoemkdigafaaDoor
open Go.RowKit
set_option linter.unusedVariables false

theorem new_of_away {B q : Nat} {w1 w3 W' : World} (hb : Below w1.heap.size w1 w3) (hq : w1.heap.size ≤ q) (h : AwayB B (some q) w3 W') : New B w1 W' := fun k a1 a2 => by
  have hs := hb.size
  rw [h k a1 (by omega) (fun e => by have e2 : k = q := Option.some.inj e; omega), hb.block k a2]
theorem slAt_away {A : Option Addr} {c B q : Nat} {w1 : World} (h : SlAt A c B w1) (hq : w1.heap.size ≤ q) : ∀ g off, A = some ⟨g, off, none⟩ → B ≤ g ∧ some g ≠ some q := fun g off e => by
  have := h.2 g off none e
  exact ⟨this.1, fun e => by have e2 : g = q := Option.some.inj e; omega⟩
theorem rowed_done {B : Nat} {w : World} {v : Value} {zs : List Cmd} (h : Rowed CmdV 34 12 B w v zs) (hne : zs ≠ []) : ∃ g cap, v = .slice (some ⟨g, 0, none⟩) zs.length cap ∧ zs.length ≤ cap ∧ Hid (SlAt (some ⟨g, 0, none⟩) cap B w) ∧ Hid (∀ W, New B w W → CmdsAt W zs (some ⟨g, 0, none⟩)) := by
  obtain ⟨A4, c4, rfl, hle4, hc4⟩ := rowed_cmds h
  obtain ⟨b4, o4, rfl⟩ := cmdsAt_ptr (hc4 w (New.refl _ _)) hne
  have ho4 : o4 = 0 := by
    obtain ⟨vss, _, _, h3, _⟩ := h
    rcases h3.2 with ⟨h, _⟩ | ⟨g, cap, cur, h, _⟩
    · simp at h
    · simp at h; exact h.1.2
  subst ho4
  exact ⟨b4, c4, rfl, hle4, Lib.hid (rowed_slAt h), Lib.hid hc4⟩
/-- A command at the head of a script that lies in new memory. -/
def cmdCells (c : Cmd) (cs : List Value) (B : Nat) (w : World) : Prop := Hid (∀ W, New B w W → CmdV W c cs)
/-- Appending commands to a new row of one. -/
theorem wpList_append_head {w w1 w2 : World} {ops : Array Oper} {rest : List Oper} {o : Oper} {a : Act} {Q : Exit → Act → World → Prop} (hgd : o.guard = none) (s x : Operand)
    (ho : o.op = .call { callee := .builtin .append, args := #[s, x], argTypes := #[32, 32] })
    (x0 : Cmd) (cells : List Value) (hcl : cells.length = 12) (ys : List Cmd) (A1 : Option Addr) (c1 : Nat) (hb1 : Below w.heap.size w w1) (hb2 : Below w1.heap.size w1 w2)
    (HV : ∀ W, New w1.heap.size w2 W → CmdV W x0 cells) (HC1 : ∀ W, New w.heap.size w1 W → CmdsAt W ys A1) (HS1 : SlAt A1 c1 w.heap.size w1) (hlen : ys.length ≤ 900)
    (q : Nat) (hq : w2.heap.size = q) (hs : a.eval s = .slice (some ⟨q, 0, none⟩) 1 1) (hx : a.eval x = .slice A1 ys.length c1)
    (h : ∀ g cap w4, ys.length + 1 ≤ cap → Hid (SlAt (some ⟨g, 0, none⟩) cap w.heap.size w4) → Hid (∀ W, New w.heap.size w4 W → CmdsAt W (x0 :: ys) (some ⟨g, 0, none⟩)) → Hid (Below w2.heap.size w2 w4) → wpList Tryd.prog ops Q rest (a.put o.dst (.slice (some ⟨g, 0, none⟩) (ys.length + 1) cap)) w4) :
    wpList Tryd.prog ops Q (o :: rest) a (w2.alloc (.cells cells.toArray 34)) := by
  subst hq
  have s1 := hb1.size
  have s2 := hb2.size
  have hb3 : Below w1.heap.size w1 (w2.alloc (.cells cells.toArray 34)) := bal hb2 _
  have hbn : Below w2.heap.size w2 (w2.alloc (.cells cells.toArray 34)) := bal (Below.refl _ w2) _
  have s3 := hbn.size
  have hW := Bk.new w2 cells 34
  have hrow : Rowed CmdV 34 12 w.heap.size (w2.alloc (.cells cells.toArray 34)) (.slice (some ⟨w2.heap.size, 0, none⟩) 1 1) [x0] :=
    rowed_one (Nat.le_trans s1 s2) hW hcl fun W' hW' => HV W' ((new_of_away hbn (Nat.le_refl _) hW').mono s1)
  refine wpList_append_cmds hgd s x ho w.heap.size _ [x0] ys hs hrow A1 c1 hx HS1.1 (fun _ => slAt_away HS1 s2) (fun W' hW' => HC1 W' (new_of_away hb3 s2 hW')) (by simp; omega) (by omega) ?_
  intro v' w4 hr hg _
  obtain ⟨g, cap, rfl, hle, hsl, hc⟩ := rowed_done hr (by simp)
  have hb4 : Below w2.heap.size w2 w4 := hbn.grown hg s3 (fun k e => by have e2 : w2.heap.size = k := Option.some.inj e; omega)
  have e1 : ([x0] ++ ys).length = ys.length + 1 := by simp
  rw [e1] at hle ⊢
  exact h g cap w4 hle hsl hc (Lib.hid hb4)
theorem cmdV_none {W : World} (k : Int) : CmdV W (.mk k [] zeroT [] []) [.int .i64 k, .slice none 0 0, .int .i64 0, .int .i64 0, .int .i64 0, .slice none 0 0, .slice none 0 0, .bool false, .int .i64 0, .slice none 0 0, .slice none 0 0, .slice none 0 0] := by
  unfold CmdV
  refine ⟨none, 0, [.int .i64 0, .int .i64 0, .int .i64 0, .slice none 0 0, .slice none 0 0, .bool false, .int .i64 0, .slice none 0 0], none, 0, none, 0, rfl, .inl rfl, ?_, by unfold CmdsAt; trivial, by unfold CmdsAt; trivial, by simp⟩
  unfold zeroT TestV
  exact ⟨none, 0, none, 0, none, 0, rfl, .inl rfl, .inl rfl, by unfold TestsAt; trivial, by simp⟩
theorem cmdsAt_pair {w : World} {c1 c2 : Cmd} {v1 v2 : List Value} {q : Nat} (h1 : CmdV w c1 v1) (h2 : CmdV w c2 v2) (hq : Bk w q (v1 ++ v2) 34) : CmdsAt w [c1, c2] (some ⟨q, 0, none⟩) := by
  have l1 := cmdV_len h1
  unfold CmdsAt
  refine ⟨q, 0, v1, rfl, fun i v hi => ?_, h1, ?_⟩
  · rw [Nat.zero_add]
    exact hq.cell i v (by rw [List.getElem?_append_left (List.getElem?_eq_some_iff.1 hi).1]; exact hi)
  · unfold CmdsAt
    refine ⟨q, 12, v2, rfl, fun i v hi => ?_, h2, by unfold CmdsAt; trivial⟩
    exact hq.cell (12 + i) v (by rw [List.getElem?_append_right (by omega), l1, Nat.add_sub_cancel_left]; exact hi)
/-- The tokens of a script of sticks. -/
theorem script_facts (l : List Stk) : okCs (scriptN l) ∧ (cmdsTk (scriptN l)).length ≤ 400 ∧ 1 ≤ (scriptN l).length ∧ (scriptN l).length ≤ 5 := by
  obtain ⟨cl, hs, hc, hok, hcl, _⟩ := scriptN_form l
  rw [hs]
  refine ⟨by unfold okCs; exact ⟨okC_req, hok⟩, (chkS_zero hc).2, by simp, by simp; omega⟩
theorem cmdTk_req : (cmdTk reqC).length ≤ 100 := by decide
end Go.Proofs.YtgmnoemkdigafaaDoor
namespace Go.Proofs.YtgmnoemkdigafaaDoor
open Go.RowKit
set_option linter.unusedVariables false

theorem scr_toks {l : List Stk} {cl : List Cmd} (h : chkS (reqC :: cl) = 0) : (cmdsTk cl).length ≤ 400 := by
  have := (chkS_zero h).2
  rw [cmdsTk, List.length_append] at this
  omega
theorem cmdV_txt {W : World} {q : Nat} {k : Int} {s : ByteArray} (h : Bk W q [.string s] 9) : CmdV W (.mk k [s] zeroT [] []) [.int .i64 k, .slice (some ⟨q, 0, none⟩) 1 1, .int .i64 0, .int .i64 0, .int .i64 0, .slice none 0 0, .slice none 0 0, .bool false, .int .i64 0, .slice none 0 0, .slice none 0 0, .slice none 0 0] := by
  unfold CmdV
  refine ⟨some ⟨q, 0, none⟩, 1, [.int .i64 0, .int .i64 0, .int .i64 0, .slice none 0 0, .slice none 0 0, .bool false, .int .i64 0, .slice none 0 0], none, 0, none, 0, rfl, txAt_list (l := [_]) h, ?_, by unfold CmdsAt; trivial, by unfold CmdsAt; trivial, by simp⟩
  unfold zeroT TestV
  exact ⟨none, 0, none, 0, none, 0, rfl, .inl rfl, .inl rfl, by unfold TestsAt; trivial, by simp⟩
theorem cmdsAt_single {w : World} {c : Cmd} {vs : List Value} {q : Nat} (h : CmdV w c vs) (hq : Bk w q vs 34) : CmdsAt w [c] (some ⟨q, 0, none⟩) := by
  unfold CmdsAt
  exact ⟨q, 0, vs, rfl, fun i v hi => by rw [Nat.zero_add]; exact hq.cell i v hi, h, by unfold CmdsAt; trivial⟩
theorem rule_fileA (m : Int) (w : World) (hE : RulE w) (hm : w.cell? ⟨6, 0, none⟩ = some (.int .i64 m)) :
    Calls Tryd.prog 22 #[.slice (some ⟨w.heap.size + 1, 0, none⟩) 1 1] ((w.alloc (.cells #[.string ⟨#[97]⟩] 9)).alloc (.cells #[.int .i64 5, .slice (some ⟨w.heap.size, 0, none⟩) 1 1, .int .i64 0, .int .i64 0, .int .i64 0, .slice none 0 0, .slice none 0 0, .bool false, .int .i64 0, .slice none 0 0, .slice none 0 0, .slice none 0 0] 34)) fun e w' => e = .returned (.int .i64 8) ∧ Below w.heap.size w w' := by
  have hb1 : Below w.heap.size w ((w.alloc (.cells #[.string ⟨#[97]⟩] 9)).alloc (.cells #[.int .i64 5, .slice (some ⟨w.heap.size, 0, none⟩) 1 1, .int .i64 0, .int .i64 0, .int .i64 0, .slice none 0 0, .slice none 0 0, .bool false, .int .i64 0, .slice none 0 0, .slice none 0 0, .slice none 0 0] 34)) := bal (bal (Below.refl _ w) _) _
  have hS := (Bk.new w [.string ⟨#[97]⟩] 9).alloc (.cells #[.int .i64 5, .slice (some ⟨w.heap.size, 0, none⟩) 1 1, .int .i64 0, .int .i64 0, .int .i64 0, .slice none 0 0, .slice none 0 0, .bool false, .int .i64 0, .slice none 0 0, .slice none 0 0, .slice none 0 0] 34)
  have hC := Bk.new (w.alloc (.cells #[.string ⟨#[97]⟩] 9)) (#[.int .i64 5, .slice (some ⟨w.heap.size, 0, none⟩) 1 1, .int .i64 0, .int .i64 0, .int .i64 0, .slice none 0 0, .slice none 0 0, .bool false, .int .i64 0, .slice none 0 0, .slice none 0 0, .slice none 0 0]).toList 34
  have hs1 : (w.alloc (.cells #[.string ⟨#[97]⟩] 9)).heap.size = w.heap.size + 1 := by simp
  rw [hs1] at hC
  have hE2 := hE.later hb1
  have h := rule_calls [fileA] (by unfold fileA okCs okCs okC; exact ⟨.inr ⟨by decide, by decide, by decide, rfl, rfl, rfl, rfl⟩, trivial⟩) (some ⟨w.heap.size + 1, 0, none⟩) 1 ((w.alloc (.cells #[.string ⟨#[97]⟩] 9)).alloc (.cells #[.int .i64 5, .slice (some ⟨w.heap.size, 0, none⟩) 1 1, .int .i64 0, .int .i64 0, .int .i64 0, .slice none 0 0, .slice none 0 0, .bool false, .int .i64 0, .slice none 0 0, .slice none 0 0, .slice none 0 0] 34)) (cmdsAt_single (cmdV_txt hS) hC) hE2.1 hE2.2.1 hE2.2.2 m (cell_later hb1 hm) (by simp) (Nat.le_refl _) (by decide)
  refine h.mono ?_
  rintro e w' ⟨rfl, hb⟩
  exact ⟨by rw [ruleR_fileA], btr hb1 hb⟩
set_option maxRecDepth 100000 in
set_option maxHeartbeats 8000000 in
theorem ruleNeeds_walk (l : List Stk) (A : Option Addr) (c : Nat) (m : Int) (w : World) (hl : l.length ≤ 140737488351232) (hsz : ∀ s ∈ l, StkSz s) (hA : StksAt w l A) (hm : w.cell? ⟨6, 0, none⟩ = some (.int .i64 m)) (hE : RulE w) :
    Calls Tryd.prog 10 #[.slice A l.length c] w fun e w' => e = .returned (.bool true) ∧ Below w.heap.size w w' := by
  have hsc := script_calls l A c w hsz hA (by omega) hE.1
  obtain ⟨cl, hs, hc, hok, hcl, hk, _⟩ := scriptN_form l
  have hrb := ruleR_bare hs
  have htk := scr_toks (l := l) hc
  rw [hs] at hsc
  have Hsc := Lib.hid hsc
  have Hrb := Lib.hid hrb
  have Htk := Lib.hid htk
  have Hok := Lib.hid hok
  have HE := Lib.hid hE
  have Hm := Lib.hid hm
  clear hsc hrb htk hok hE hm hs hc hk hA hsz
  go_enter Tryd.func10, Tryd.ntmps10
  go_upto_region 2 with (go_at_call 18; refine Hsc.out.mono ?_; rintro e w1 ⟨A1, c1, rfl, hle, HC1, HS1, hb1⟩; have Hb1 := Lib.hid hb1; clear hb1)
  simp only [List.length_cons] at *
  obtain ⟨A2, hrun, hA2⟩ := cmds_slice c1 (HC1.out w1 (New.refl _ _)) hle
  have hck := Lib.hid (rule_calls cl Hok.out A2 (c1 - 1) w1 hA2 (HE.out.later Hb1.out).1 (HE.out.later Hb1.out).2.1 (HE.out.later Hb1.out).2.2 m (cell_later Hb1.out Hm.out) (by omega) (by omega) (by have := Htk.out; omega))
  have hA2' := Lib.hid hA2
  have hpos : (1 : Int) ≤ ((cl.length + 1 : Nat) : Int) := by omega
  clear hA2
  go_upto_region 3 with (go_at_call 22; refine hck.out.mono ?_; rintro e w2 ⟨rfl, hb2⟩; have Hb2 := Lib.hid hb2; clear hb2)
  have hnd := Lib.hid (needs_calls _ cl (Nat.le_refl _) A2 (c1 - 1) w2 (cmdsAt_later Hb2.out _ _ hA2'.out) (by omega))
  rw [Hrb.out]
  have hfa := Lib.hid (fun w3 (hb : Below w.heap.size w w3) => rule_fileA m w3 (HE.out.later hb) (cell_later hb Hm.out))
  cases hn : needsCs cl with
  | true =>
    rw [hn] at hnd
    clear hn
    simp only [want]
    go_wp2_with (go_at_call 23; refine hnd.out.mono ?_; rintro e w3 ⟨rfl, hb3⟩; have Hb3 := Lib.hid (btr (btr Hb1.out Hb2.out) hb3); clear hb3)
    go_ret
    exact ⟨rfl, Hb3.out⟩
  | false =>
    rw [hn] at hnd
    clear hn
    simp only [want]
    go_wp2_with (first
      | (go_at_call 23; refine hnd.out.mono ?_; rintro e w3 ⟨rfl, hb3⟩; have Hb3 := Lib.hid (btr (btr Hb1.out Hb2.out) hb3); clear hb3)
      | (go_at_call 22; refine (hfa.out _ Hb3.out).mono ?_; rintro e w4 ⟨rfl, hb4⟩; have Hb4 := Lib.hid (btr Hb3.out hb4); clear hb4))
    go_ret
    exact ⟨rfl, Hb4.out⟩
end Go.Proofs.YtgmnoemkdigafaaDoor
namespace Go.Proofs.YtgmnoemkdigafaaDoor
theorem own : ownKnob Tryd.prog.godebug = none := by kernel_rfl
theorem laidOut : laidOutB Tryd.prog = true := by kernel_rfl
/-- A datum's cells, one behind the other. -/
def flatCells : Nat → DataW Unit → List Value
  | 0, _ => []
  | _ + 1, .lit (.int k x) => [.int k x]
  | _ + 1, .lit (.bool x) => [.bool x]
  | _ + 1, .lit (.string l) => [.string ⟨l.toArray⟩]
  | n + 1, .agg l => l.flatMap (flatCells n)
  | _, _ => []
/-- The settled world, each listed variable holding what its row lists. -/
noncomputable def laidWorld (laid : List (String × DataW Unit)) (os : Os) : World :=
  let w0 := World.holding Tryd.prog os ⟨#[], #[], []⟩
  { w0 with heap := laid.foldl (fun h x => match Tryd.prog.globalNamed x.1 with
      | none => h
      | some g => h.modify g (fun o => match o with
        | .cells _ t frozen => .cells (flatCells 5 x.2).toArray t frozen
        | o => o)) w0.heap }
end Go.Proofs.YtgmnoemkdigafaaDoor
