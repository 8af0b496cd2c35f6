/- The reader of package who: bare, address. The reader of package who: address. The function List of package who: what it returns for every text. -/
import Derived.Test.YtgmnoemkdigafaaDoorZB3
import Derived.Defers
import Derived.RegionDies
import Derived.Deep.RegionHeld3
import Derived.Recover
import Derived.Laws.Pointers
namespace Go.Proofs.YtgmnoemkdigafaaDoor
open Go.RowKit

/-- A bare address whose local part was read: the address, and what stands behind it. -/
def bareL (loc : ByteArray) (l : List UInt8) : Option (Adr × List UInt8) :=
  if nextB l = 64 then if checkA ⟨loc, mkS (l.tail.takeWhile runB)⟩ = 0 then some (⟨loc, mkS (l.tail.takeWhile runB)⟩, l.tail.dropWhile runB) else none else none
/-- What a reading of an address ends in. -/
def OkA (w : World) (s : ByteArray) (b i : Nat) (R : Option (Adr × List UInt8)) (e : Ending) (w' : World) : Prop := match R with
  | some (a, l) => e = .returned (adrVal a) ∧ ∃ j, j ≤ s.size ∧ i < j ∧ (bs s).drop j = l ∧ RB w' b s j ∧ Mv b w w'
  | none => e = .panicked formPanic ∧ Mv b w w'
theorem run_keep (s : ByteArray) (b i : Nat) (w0 w : World) (hs : s.size ≤ 100000) (h : RB w b s i) (hm : Mv b w0 w) (hi : i ≤ s.size) :
    Calls Tryd.prog 94 #[.pointer (some ⟨b, 0, none⟩)] w fun e w' => e = .returned (.string (mkS (((bs s).drop i).takeWhile runB))) ∧ ∃ j, j ≤ s.size ∧ i ≤ j ∧ (bs s).drop j = ((bs s).drop i).dropWhile runB ∧ RB w' b s j ∧ Mv b w0 w' :=
  (run_calls s b i w hs h hi).mono fun _ _ ⟨he, j, h1, h2, h3, h4, h5⟩ => ⟨he, j, h1, h2, h3, h4, hm.trans h5⟩
theorem nextB_in {s : ByteArray} {i : Nat} (hi : i < s.size) : nextB ((bs s).drop i) = s[i] := by rw [drop_step hi]; rfl
theorem nextB_end {s : ByteArray} {i : Nat} (hi : ¬ i < s.size) : nextB ((bs s).drop i) = 0 := by rw [List.drop_of_length_le (by rw [bs_len]; omega)]; rfl
theorem next_keepB (s : ByteArray) (b k : Nat) (w0 w : World) (hs : s.size ≤ 100000) (h : RB w b s k) (hm : Mv b w0 w) (hk : k ≤ s.size) :
    Calls Tryd.prog 87 #[.pointer (some ⟨b, 0, none⟩)] w fun e w' => e = .returned (.int .u8 (nextB ((bs s).drop k)).toNat) ∧ RB w' b s k ∧ Mv b w0 w' :=
  (next_calls s b k w hs h hk).mono fun _ _ ⟨he, n, hw⟩ => ⟨he, by rw [hw]; exact h.drewN n, by rw [hw]; exact hm.drewN n⟩

/-- The box of an address. -/
def AB (W : World) (c : Nat) (l d : ByteArray) : Prop := W.heap[c]? = some (.cells #[.string l, .string d] 140 (0, 0))
theorem AB.c0 {W : World} {c : Nat} {l d : ByteArray} (h : AB W c l d) : W.cell? ⟨c, 0, none⟩ = some (.string l) := by simp [World.cell?, show W.heap[c]? = _ from h]
theorem AB.c1 {W : World} {c : Nat} {l d : ByteArray} (h : AB W c l d) : W.cell? ⟨c, 1, none⟩ = some (.string d) := by simp [World.cell?, show W.heap[c]? = _ from h]
theorem AB.f0 {W : World} {c : Nat} {l d : ByteArray} (h : AB W c l d) : W.frozen? ⟨c, 0, none⟩ = false := by simp [World.frozen?, show W.heap[c]? = _ from h]
theorem AB.f1 {W : World} {c : Nat} {l d : ByteArray} (h : AB W c l d) : W.frozen? ⟨c, 1, none⟩ = false := by simp [World.frozen?, show W.heap[c]? = _ from h]
theorem AB.lt {W : World} {c : Nat} {l d : ByteArray} (h : AB W c l d) : c < W.heap.size := (Array.getElem?_eq_some_iff.1 h).1
theorem AB.mv {W W' : World} {b c : Nat} {l d : ByteArray} (h : AB W c l d) (hm : Mv b W W') (hne : c ≠ b) : AB W' c l d := (hm.block c h.lt hne).trans h
theorem AB.new (W : World) (l d : ByteArray) : AB (W.alloc (.cells #[.string l, .string d] 140)) W.heap.size l d := World.alloc_heap_new W _
theorem AB.set0 {W : World} {c : Nat} {l d : ByteArray} (h : AB W c l d) (l' : ByteArray) : AB (W.setCell ⟨c, 0, none⟩ (.string l')) c l' d := heap_setCell_at h 0 _
theorem AB.set1 {W : World} {c : Nat} {l d : ByteArray} (h : AB W c l d) (d' : ByteArray) : AB (W.setCell ⟨c, 1, none⟩ (.string d')) c l d' := heap_setCell_at h 1 _
theorem RB.other {W : World} {b c : Nat} {s : ByteArray} {i : Nat} (h : RB W b s i) (hne : c ≠ b) (j : Nat) (v : Value) : RB (W.setCell ⟨c, j, none⟩ v) b s i :=
  (Below.heap_setCell _ _ _ b (fun e => by first | exact hne e | exact hne e.symm)).trans h
theorem AB.other {W : World} {b c : Nat} {l d : ByteArray} (h : AB W c l d) (hne : c ≠ b) (j : Nat) (v : Value) : AB (W.setCell ⟨b, j, none⟩ v) c l d :=
  (Below.heap_setCell _ _ _ c (fun e => by first | exact hne e | exact hne e.symm)).trans h
theorem Mv.setNew {b c : Nat} {x y : World} (h : Mv b x y) (hc : x.heap.size ≤ c) (j : Nat) (v : Value) : Mv b x (y.setCell ⟨c, j, none⟩ v) := by
  refine ⟨h.os, h.tape, h.output, Nat.le_trans h.size (KeepsWalks.setCell y _ v).size, fun k h1 h2 => ?_⟩
  have hne : k ≠ c := by omega
  exact (Below.heap_setCell _ _ _ k hne).trans (h.block k h1 h2)
set_option maxRecDepth 100000 in
set_option maxHeartbeats 4000000 in
theorem bare_calls (s loc : ByteArray) (b i : Nat) (m : Int) (w : World) (hs : s.size ≤ 100000) (hl : loc.size ≤ 100000) (h : RB w b s i) (hi : i ≤ s.size) (hm : w.cell? ⟨6, 0, none⟩ = some (.int .i64 m)) (hg : 6 ≠ b) (R : Option (Adr × List UInt8)) (hR : bareL loc ((bs s).drop i) = R) :
    Calls Tryd.prog 93 #[.pointer (some ⟨b, 0, none⟩), .string loc] w fun e w' => OkA w s b i R e w' := by
  go_enter Tryd.func93, Tryd.ntmps93
  go_wp2_with fail
  have ha := AB.new w ⟨#[]⟩ ⟨#[]⟩
  have h0 := h.alloc (.cells #[.string ⟨#[]⟩, .string ⟨#[]⟩] 140)
  have m0 := (Mv.refl b w).alloc (.cells #[.string ⟨#[]⟩, .string ⟨#[]⟩] 140)
  have hcb : w.heap.size ≠ b := by have := h.lt; omega
  generalize w.alloc (.cells #[.string ⟨#[]⟩, .string ⟨#[]⟩] 140) = A0 at *
  have hmA := m0.cell hm hg
  clear hm h
  refine (next_keepB s b i A0 A0 hs h0 (Mv.refl _ _) hi).mono ?_
  rintro e w1 ⟨rfl, h1, m1⟩
  have ha1 := ha.mv m1 hcb
  have hm1 := m1.cell hmA hg
  have mw1 := m0.trans m1
  clear ha h0 m0 m1 hmA
  by_cases hlt : i < s.size
  · rw [drop_step hlt] at hR
    rw [nextB_in hlt]
    by_cases h64 : s[i] = 64
    · have e1 : ((s[i].toNat : Int) == 64) = true := by rw [h64]; rfl
      have c0 := h1.c0
      have c1 := h1.c1
      have f1 := h1.f1
      have hbl := h1.lt
      go_wp2_with (go_at_call 86; refine (must_yes _).mono ?_; rintro e w' ⟨rfl, rfl⟩)
      have h2 := h1.step i
      have ha2 := ha1.other hcb 1 (.int .i64 ((i : Int) + 1))
      have m2 := (Mv.refl b w1).set 1 (.int .i64 ((i : Int) + 1))
      have hm2 := m2.cell hm1 hg
      have mw2 := mw1.trans m2
      generalize w1.setCell ⟨b, 1, none⟩ (.int .i64 ((i : Int) + 1)) = w2 at *
      clear h1 ha1 m2 hm1 mw1 c0 c1 f1 hbl
      refine (run_keep s b (i + 1) w2 w2 hs h2 (Mv.refl _ _) (by omega)).mono ?_
      rintro e w3 ⟨rfl, j, hj, hij, hdj, h3, m3⟩
      have ha3 := ha2.mv m3 hcb
      have hm3 := m3.cell hm2 hg
      have mw3 := mw2.trans m3
      clear h2 ha2 m3 hm2 mw2
      obtain ⟨d, hd⟩ : ∃ d, mkS (((bs s).drop (i + 1)).takeWhile runB) = d := ⟨_, rfl⟩
      have hdl : d.size ≤ 100000 := by
        rw [← hd, mkS_size]
        have := (List.takeWhile_sublist runB (l := (bs s).drop (i + 1))).length_le
        rw [List.length_drop, bs_len] at this
        omega
      have hR2 : (if checkA ⟨loc, d⟩ = 0 then some (⟨loc, d⟩, (bs s).drop j) else none) = R := by
        rw [← hR, bareL, if_pos (show nextB (s[i] :: _) = 64 from h64), List.tail_cons, hd, hdj]
      rw [hd]
      have b0 := ha3.c0
      have b1 := ha3.c1
      have g0 := ha3.f0
      have g1 := ha3.f1
      have hbl := h3.lt
      have hcl := ha3.lt
      have Hd := Lib.hid hd
      have HR := Lib.hid hR2
      have Hdj := Lib.hid hdj
      clear hd hR2 hR hdj
      go_wp2_with fail
      have hb4 : Below w3.heap.size w3 (w3.alloc (.cells #[.string loc, .string d] 140)) := (Below.refl _ w3).alloc (Nat.le_refl _) _
      have ha4 := AB.new w3 loc d
      have hm4 := cell_later hb4 hm3
      have h4 := h3.below hb4
      have hr4 : AB (w3.alloc (.cells #[.string loc, .string d] 140)) w.heap.size ⟨#[]⟩ ⟨#[]⟩ := (hb4.block _ hcl).trans ha3
      have mw4 := mw3.trans (Mv.of_below hb4)
      have hne : w3.heap.size ≠ b := by omega
      generalize w3.alloc (.cells #[.string loc, .string d] 140) = w4 at *
      clear h3 ha3 hm3 mw3 b0 b1 g0 g1
      refine (check_calls ⟨loc, d⟩ m w4 hl hdl hm4).mono ?_
      rintro e w5 ⟨rfl, hb5⟩
      have h5 := h4.below hb5
      have ha5 : AB w5 w3.heap.size loc d := (hb5.block _ ha4.lt).trans ha4
      have hr5 : AB w5 w.heap.size ⟨#[]⟩ ⟨#[]⟩ := (hb5.block _ hr4.lt).trans hr4
      have mw5 := mw4.trans (Mv.of_below hb5)
      clear h4 ha4 hr4 mw4 hm4 hb4 hb5
      by_cases hck : checkA ⟨loc, d⟩ = 0
      · have hr : R = some (⟨loc, d⟩, (bs s).drop j) := by rw [← HR.out, if_pos hck]
        subst hr
        rw [hck]
        have b0 := ha5.c0
        have b1 := ha5.c1
        have r0 := hr5.c0
        have r1 := hr5.c1
        have g0 := hr5.f0
        have g1 := hr5.f1
        have hrl := hr5.lt
        go_wp2_with (go_at_call 86; refine (must_yes _).mono ?_; rintro e w' ⟨rfl, rfl⟩)
        exact bodyPost_ret (v := adrVal ⟨loc, d⟩) (by simp [results, Tryd.results93, go_sem, adrVal, r0, r1]) rfl ⟨rfl, j, hj, by omega, rfl, (h5.other hcb 0 _).other hcb 1 _, (mw5.setNew (Nat.le_refl _) 0 _).setNew (Nat.le_refl _) 1 _⟩
      · have hr : R = none := by rw [← HR.out, if_neg hck]
        subst hr
        have e1 : (checkA ⟨loc, d⟩ == 0) = false := by simpa using hck
        go_wp2_with (go_at_call 86; refine (must_no _).mono ?_; rintro e w' ⟨rfl, rfl⟩)
        exact ⟨rfl, rfl, mw5⟩
    · have hr : R = none := by
        rw [← hR]; unfold bareL; rw [if_neg (show ¬ nextB (s[i] :: _) = 64 from h64)]
      subst hr
      have e1 : ((s[i].toNat : Int) == 64) = false := by rw [show (64 : Int) = ((64 : Nat) : Int) from rfl, byte_eq (by decide)]; simpa using h64
      go_wp2_with (go_at_call 86; refine (must_no _).mono ?_; rintro e w' ⟨rfl, rfl⟩)
      exact ⟨rfl, rfl, mw1⟩
  · have hr : R = none := by
      rw [← hR]; unfold bareL; rw [if_neg (by rw [nextB_end hlt]; decide)]
    subst hr
    rw [nextB_end hlt]
    go_wp2_with (go_at_call 86; refine (must_no _).mono ?_; rintro e w' ⟨rfl, rfl⟩)
    exact ⟨rfl, rfl, mw1⟩
end Go.Proofs.YtgmnoemkdigafaaDoor
namespace Go.Proofs.YtgmnoemkdigafaaDoor
open Go.RowKit

/-- An address, perhaps with words ahead of it: the address, and what stands behind it. -/
def adrL : Nat → Bool → List UInt8 → Option (Adr × List UInt8)
  | 0, _, _ => none
  | n + 1, first, l0 =>
    if nextB (l0.dropWhile blankB) = 34 then (quotedL (l0.dropWhile blankB).tail).bind fun l' => adrL n false l'
    else if nextB (l0.dropWhile blankB) = 60 then (bareL (mkS ((l0.dropWhile blankB).tail.takeWhile runB)) ((l0.dropWhile blankB).tail.dropWhile runB)).bind fun x => if nextB x.2 = 62 then some (x.1, x.2.tail) else none
    else if nextB ((l0.dropWhile blankB).dropWhile runB) = 64 ∧ first = true then bareL (mkS ((l0.dropWhile blankB).takeWhile runB)) ((l0.dropWhile blankB).dropWhile runB)
    else if (l0.dropWhile blankB).takeWhile runB = [] then none else adrL n false ((l0.dropWhile blankB).dropWhile runB)
theorem skip_keep (s : ByteArray) (b i : Nat) (w0 w : World) (hs : s.size ≤ 100000) (h : RB w b s i) (hm : Mv b w0 w) (hi : i ≤ s.size) :
    Calls Tryd.prog 85 #[.pointer (some ⟨b, 0, none⟩)] w fun e w' => e = .returned (.tuple #[]) ∧ ∃ j, j ≤ s.size ∧ i ≤ j ∧ (bs s).drop j = ((bs s).drop i).dropWhile blankB ∧ RB w' b s j ∧ Mv b w0 w' :=
  (skip_calls s b i w hs h hi).mono fun _ _ ⟨he, j, h1, h2, h3, h4, h5⟩ => ⟨he, j, h1, h2, h3, h4, hm.trans h5⟩
theorem byte_ne {c : UInt8} {n : Nat} (hn : n < 256) (h : c ≠ UInt8.ofNat n) : ((c.toNat : Int) == (n : Int)) = false := by
  rw [byte_eq hn]; simpa using h

set_option maxRecDepth 100000 in
set_option maxHeartbeats 4000000 in
theorem address_reads (s : ByteArray) (b i : Nat) (m : Int) (w : World) (hs : s.size ≤ 100000) (h : RB w b s i) (hi : i ≤ s.size) (hm : w.cell? ⟨6, 0, none⟩ = some (.int .i64 m)) (hg : 6 ≠ b) (R : Option (Adr × List UInt8)) (hR : adrL (s.size + 1) true ((bs s).drop i) = R) :
    Calls Tryd.prog 84 #[.pointer (some ⟨b, 0, none⟩)] w fun e w' => OkA w s b i R e w' := by
  go_enter Tryd.func84, Tryd.ntmps84
  go_wp2_with fail
  have ha := AB.new w ⟨#[]⟩ ⟨#[]⟩
  have h0 := h.alloc (.cells #[.string ⟨#[]⟩, .string ⟨#[]⟩] 140)
  have m0 := (Mv.refl b w).alloc (.cells #[.string ⟨#[]⟩, .string ⟨#[]⟩] 140)
  have hcb : w.heap.size ≠ b := by have := h.lt; omega
  generalize w.alloc (.cells #[.string ⟨#[]⟩, .string ⟨#[]⟩] 140) = A0 at *
  have hmA := m0.cell hm hg
  clear hm h
  go_loopg [3] (s.size + 1) (fun kq v wr => ∃ (k wd : Nat) (first : Bool), k ≤ s.size ∧ i ≤ k ∧ s.size + 1 ≤ k + kq ∧ v = .int .i64 wd ∧ wd ≤ k ∧ ((wd : Int) == 0) = first ∧ Hid (adrL kq first ((bs s).drop k) = R) ∧ RB wr b s k ∧ Mv b w wr ∧ AB wr w.heap.size ⟨#[]⟩ ⟨#[]⟩ ∧ wr.cell? ⟨6, 0, none⟩ = some (.int .i64 m))
  case atStart => exact ⟨i, 0, true, hi, Nat.le_refl _, by omega, rfl, Nat.zero_le _, rfl, Lib.hid hR, h0, m0, ha, hmA⟩
  case round =>
    obtain ⟨k, wd, first, hk, hik, hsum, rfl, hwd, hfirst, hrr, hrb, hmv, hab, hmm⟩ := hrel
    obtain ⟨kq, rfl⟩ : ∃ kq, gk = kq + 1 := ⟨gk - 1, by omega⟩
    have Hsum := Lib.hid hsum
    clear h0 m0 ha hmA hsum
    go_wp2_with fail
    refine (skip_keep s b k wr wr hs hrb (Mv.refl _ _) hk).mono ?_
    rintro e w1 ⟨rfl, j, hj, hkj, hdj, h1, m1⟩
    have hab1 := hab.mv m1 hcb
    have hmm1 := m1.cell hmm hg
    have mv1 := hmv.trans m1
    clear hrb hmv hab hmm m1
    have hrr1 := hrr.out
    rw [adrL, ← hdj] at hrr1
    clear hrr hdj
    have Hrr1 := Lib.hid hrr1
    clear hrr1
    go_wp2_with fail
    refine (next_keepB s b j w1 w1 hs h1 (Mv.refl _ _) hj).mono ?_
    rintro e w2 ⟨rfl, h2, m2⟩
    have hab2 := hab1.mv m2 hcb
    have hmm2 := m2.cell hmm1 hg
    have mv2 := mv1.trans m2
    clear h1 mv1 hab1 hmm1 m2
    have hwdb : wd ≤ 100000 := by omega
    by_cases h34 : nextB ((bs s).drop j) = 34
    · have hlt : j < s.size := by
        by_cases hlt : j < s.size
        · exact hlt
        · rw [nextB_end hlt] at h34; exact absurd h34 (by decide)
      have hr2 := Hrr1.out
      rw [if_pos h34, List.tail_drop] at hr2
      rw [h34]
      obtain ⟨q, hq⟩ : ∃ q, quotedL ((bs s).drop (j + 1)) = q := ⟨_, rfl⟩
      rw [hq] at hr2
      clear Hrr1
      cases q with
      | none =>
        have Hc := Lib.hid (quoted_calls s b j w2 hs h2 hlt _ hq)
        clear hq
        obtain rfl : R = none := hr2.symm
        go_wp2_with fail
        refine Hc.out.mono ?_
        rintro e w3 ⟨rfl, m3⟩
        exact ⟨rfl, rfl, mv2.trans m3⟩
      | some l' =>
        have Hc := Lib.hid (quoted_calls s b j w2 hs h2 hlt _ hq)
        have Hr2 := Lib.hid hr2
        clear hr2 hq
        go_wp2_with fail
        refine Hc.out.mono ?_
        rintro e w3 ⟨rfl, j2, hj2, hjj2, hd2, h3, m3⟩
        have hab3 := hab2.mv m3 hcb
        have hmm3 := m3.cell hmm2 hg
        have mv3 := mv2.trans m3
        clear h2 hab2 hmm2 mv2 m3
        go_wp2_with fail
        go_roundg kq
        case measure => omega
        case rel => exact ⟨j2, wd + 1, false, hj2, by omega, by have := Hsum.out; omega, by go_num, by omega, by rw [beq_eq_false_iff_ne]; omega, Lib.hid (by rw [hd2]; exact Hr2.out), h3, mv3, hab3, hmm3⟩
    · have e34 : (((nextB ((bs s).drop j)).toNat : Int) == 34) = false := byte_ne (n := 34) (by decide) h34
      by_cases h60 : nextB ((bs s).drop j) = 60
      · have hlt : j < s.size := by
          by_cases hlt : j < s.size
          · exact hlt
          · rw [nextB_end hlt] at h60; exact absurd h60 (by decide)
        have hr2 := Hrr1.out
        rw [if_neg h34, if_pos h60, List.tail_drop] at hr2
        have Hr2 := Lib.hid hr2
        clear hr2 Hrr1 h34 e34
        rw [h60]
        have c1 := h2.c1
        have f1 := h2.f1
        have hbl := h2.lt
        go_wp2_with fail
        have h3 := h2.step j
        have m3 := (Mv.refl b w2).set 1 (.int .i64 ((j : Int) + 1))
        have hab3 := hab2.mv m3 hcb
        have hmm3 := m3.cell hmm2 hg
        have mv3 := mv2.trans m3
        generalize w2.setCell ⟨b, 1, none⟩ (.int .i64 ((j : Int) + 1)) = w3 at *
        clear h2 hab2 hmm2 mv2 m3 c1 f1 hbl
        refine (run_keep s b (j + 1) w3 w3 hs h3 (Mv.refl _ _) (by omega)).mono ?_
        rintro e w4 ⟨rfl, j4, hj4, hjj4, hd4, h4, m4⟩
        have hab4 := hab3.mv m4 hcb
        have hmm4 := m4.cell hmm3 hg
        have mv4 := mv3.trans m4
        clear h3 hab3 hmm3 mv3 m4
        obtain ⟨loc, hloc⟩ : ∃ loc, mkS (((bs s).drop (j + 1)).takeWhile runB) = loc := ⟨_, rfl⟩
        have hll : loc.size ≤ 100000 := by
          rw [← hloc, mkS_size]
          have := (List.takeWhile_sublist runB (l := (bs s).drop (j + 1))).length_le
          rw [List.length_drop, bs_len] at this
          omega
        have hr4 := Hr2.out
        rw [hloc, ← hd4] at hr4
        rw [hloc]
        clear Hr2 hd4 hloc
        obtain ⟨R1, hR1⟩ : ∃ R1, bareL loc ((bs s).drop j4) = R1 := ⟨_, rfl⟩
        rw [hR1] at hr4
        have Hb := Lib.hid (bare_calls s loc b j4 m w4 hs hll h4 hj4 hmm4 hg R1 hR1)
        have Hr4 := Lib.hid hr4
        clear hR1 hr4
        go_wp2_with fail
        cases R1 with
        | none =>
          obtain rfl : R = none := Hr4.out.symm
          refine Hb.out.mono ?_
          rintro e w5 ⟨rfl, m5⟩
          exact ⟨rfl, rfl, mv4.trans m5⟩
        | some x =>
          obtain ⟨a, l5⟩ := x
          refine Hb.out.mono ?_
          rintro e w5 ⟨rfl, j5, hj5, hjj5, hd5, h5, m5⟩
          have hab5 := hab4.mv m5 hcb
          have hmm5 := m5.cell hmm4 hg
          have mv5 := mv4.trans m5
          have Hr5 := Hr4.out
          rw [Option.bind_some, ← hd5] at Hr5
          have HR5 := Lib.hid Hr5
          clear h4 hab4 hmm4 mv4 m5 Hb Hr4 Hr5 hd5
          obtain ⟨al, ad⟩ := a
          dsimp only [adrVal]
          go_wp2_with fail
          have hb6 : Below w5.heap.size w5 (w5.alloc (.cells #[.string al, .string ad] 140)) := (Below.refl _ w5).alloc (Nat.le_refl _) _
          have ha6 := AB.new w5 al ad
          have h6 := h5.below hb6
          have hr6 : AB (w5.alloc (.cells #[.string al, .string ad] 140)) w.heap.size ⟨#[]⟩ ⟨#[]⟩ := (hb6.block _ hab5.lt).trans hab5
          have mv6 := mv5.trans (Mv.of_below hb6)
          have hne : w5.heap.size ≠ b := by have := h5.lt; omega
          generalize w5.alloc (.cells #[.string al, .string ad] 140) = w6 at *
          clear h5 hab5 mv5 hb6
          refine (next_keepB s b j5 w6 w6 hs h6 (Mv.refl _ _) hj5).mono ?_
          rintro e w7 ⟨rfl, h7, m7⟩
          have ha7 := ha6.mv m7 hne
          have hr7 := hr6.mv m7 hcb
          have mv7 := mv6.trans m7
          clear h6 ha6 hr6 mv6 m7
          by_cases h62 : nextB ((bs s).drop j5) = 62
          · have hlt5 : j5 < s.size := by
              by_cases hlt : j5 < s.size
              · exact hlt
              · rw [nextB_end hlt] at h62; exact absurd h62 (by decide)
            have hr8 := HR5.out
            rw [if_pos h62, List.tail_drop] at hr8
            obtain rfl : R = some (⟨al, ad⟩, (bs s).drop (j5 + 1)) := hr8.symm
            rw [h62]
            have c1 := h7.c1
            have f1 := h7.f1
            have hbl := h7.lt
            have b0 := ha7.c0
            have b1 := ha7.c1
            have r0 := hr7.c0
            have r1 := hr7.c1
            have g0 := hr7.f0
            have g1 := hr7.f1
            have hrl := hr7.lt
            go_wp2_with (go_at_call 86; refine (must_yes _).mono ?_; rintro e w' ⟨rfl, rfl⟩)
            exact bodyPost_ret (v := adrVal ⟨al, ad⟩) (by simp [results, Tryd.results84, go_sem, adrVal, r0, r1]) rfl ⟨rfl, j5 + 1, hlt5, by omega, rfl, ((h7.step j5).other hcb 0 _).other hcb 1 _, ((mv7.set 1 _).setNew (Nat.le_refl _) 0 _).setNew (Nat.le_refl _) 1 _⟩
          · have hr8 := HR5.out
            rw [if_neg h62] at hr8
            obtain rfl : R = none := hr8.symm
            have e62 : (((nextB ((bs s).drop j5)).toNat : Int) == 62) = false := byte_ne (n := 62) (by decide) h62
            go_wp2_with (go_at_call 86; refine (must_no _).mono ?_; rintro e w' ⟨rfl, rfl⟩)
            exact ⟨rfl, rfl, mv7⟩
      · have e60 : (((nextB ((bs s).drop j)).toNat : Int) == 60) = false := byte_ne (n := 60) (by decide) h60
        have hr2 := Hrr1.out
        rw [if_neg h34, if_neg h60] at hr2
        clear Hrr1 h34 h60
        go_wp2_with fail
        refine (run_keep s b j w2 w2 hs h2 (Mv.refl _ _) hj).mono ?_
        rintro e w4 ⟨rfl, j4, hj4, hjj4, hd4, h4, m4⟩
        have hab4 := hab2.mv m4 hcb
        have hmm4 := m4.cell hmm2 hg
        have mv4 := mv2.trans m4
        clear h2 hab2 hmm2 mv2 m4
        rw [← hd4] at hr2
        have hlen : ((bs s).drop j4).length = s.size - j4 := by rw [List.length_drop, bs_len]
        have hne4 : ((bs s).drop j).takeWhile runB ≠ [] → j < j4 := by
          intro hne
          by_cases hjj : j < j4
          · exact hjj
          · obtain rfl : j4 = j := by omega
            exfalso
            cases hL : (bs s).drop j4 with
            | nil => rw [hL] at hne; exact hne rfl
            | cons c l =>
              rw [hL] at hd4 hne
              by_cases hc : runB c = true
              · rw [List.dropWhile_cons_of_pos hc] at hd4
                have := congrArg List.length hd4
                have h2 := (List.dropWhile_sublist runB (l := l)).length_le
                simp at this
                omega
              · exact hne (List.takeWhile_cons_of_neg hc)
        obtain ⟨loc, hloc⟩ : ∃ loc, ((bs s).drop j).takeWhile runB = loc := ⟨_, rfl⟩
        have hll : loc.length ≤ 100000 := by
          rw [← hloc]
          have := (List.takeWhile_sublist runB (l := (bs s).drop j)).length_le
          rw [List.length_drop, bs_len] at this
          omega
        rw [hloc] at hr2 hne4 ⊢
        have Hr4 := Lib.hid hr2
        clear hr2 hd4 hlen hloc
        go_wp2_with fail
        refine (next_keepB s b j4 w4 w4 hs h4 (Mv.refl _ _) hj4).mono ?_
        rintro e w5 ⟨rfl, h5, m5⟩
        have hab5 := hab4.mv m5 hcb
        have hmm5 := m5.cell hmm4 hg
        have mv5 := mv4.trans m5
        clear h4 hab4 hmm4 mv4 m5
        by_cases h64 : nextB ((bs s).drop j4) = 64 ∧ first = true
        · obtain ⟨h64, rfl⟩ := h64
          have hr6 := Hr4.out
          rw [if_pos ⟨h64, rfl⟩] at hr6
          rw [h64]
          have Hb := Lib.hid (bare_calls s (mkS loc) b j4 m w5 hs (by rw [mkS_size]; exact hll) h5 hj4 hmm5 hg R hr6)
          clear hr6 Hr4
          go_wp2_with fail
          cases R with
          | none =>
            refine Hb.out.mono ?_
            rintro e w6 ⟨rfl, m6⟩
            exact ⟨rfl, rfl, mv5.trans m6⟩
          | some x =>
            obtain ⟨⟨al, ad⟩, l6⟩ := x
            refine Hb.out.mono ?_
            rintro e w6 ⟨rfl, j6, hj6, hjj6, hd6, h6, m6⟩
            have hab6 := hab5.mv m6 hcb
            have mv6 := mv5.trans m6
            have r0 := hab6.c0
            have r1 := hab6.c1
            have g0 := hab6.f0
            have g1 := hab6.f1
            have hrl := hab6.lt
            clear hab5 hmm5 mv5 m6
            dsimp only [adrVal]
            go_wp2
            exact bodyPost_ret (v := adrVal ⟨al, ad⟩) (by simp [results, Tryd.results84, go_sem, adrVal, r0, r1]) rfl ⟨rfl, j6, hj6, by omega, hd6, (h6.other hcb 0 _).other hcb 1 _, (mv6.setNew (Nat.le_refl _) 0 _).setNew (Nat.le_refl _) 1 _⟩
        · have hr6 := Hr4.out
          rw [if_neg h64] at hr6
          have hcond : (((nextB ((bs s).drop j4)).toNat : Int) == 64) = false ∨ ((((nextB ((bs s).drop j4)).toNat : Int) == 64) = true ∧ ((wd : Int) == 0) = false) := by
            by_cases hb : nextB ((bs s).drop j4) = 64
            · right
              exact ⟨by rw [hb]; rfl, by rw [hfirst]; cases first; rfl; exact absurd ⟨hb, rfl⟩ h64⟩
            · left; exact byte_ne (n := 64) (by decide) hb
          by_cases hw : loc = []
          · rw [if_pos hw] at hr6
            obtain rfl : R = none := hr6.symm
            subst hw
            rw [show mkS [] = (⟨#[]⟩ : ByteArray) from rfl]
            clear h64 Hr4 hfirst hne4
            obtain hc | ⟨hc1, hc2⟩ := hcond
            all_goals
              go_wp2_with (go_at_call 86; refine (must_no _).mono ?_; rintro e w' ⟨rfl, rfl⟩)
              exact ⟨rfl, rfl, mv5⟩
          · rw [if_neg hw] at hr6
            have hjj := hne4 hw
            have q1 : ((mkS loc).toList == []) = false := by
              rw [beq_eq_false_iff_ne]
              intro h
              exact hw (by have := toList_bs (mkS loc); rw [h, bs_mkS] at this; exact this.symm)
            have Hr6 := Lib.hid hr6
            clear h64 Hr4 hfirst hne4 hr6
            obtain hc | ⟨hc1, hc2⟩ := hcond
            all_goals
              go_wp2_with fail
              refine (must_yes _).mono ?_
              rintro e w' ⟨rfl, rfl⟩
              go_wp2_with fail
              go_roundg kq
              case measure => omega
              case rel => exact ⟨j4, wd + 1, false, hj4, by omega, by have := Hsum.out; omega, by go_num, by omega, by rw [beq_eq_false_iff_ne]; omega, Hr6, h5, mv5, hab5, hmm5⟩
end Go.Proofs.YtgmnoemkdigafaaDoor
namespace Go.Proofs.YtgmnoemkdigafaaDoor
open Go.RowKit

theorem catch_idle (p q : Addr) (w : World) :
    CallsD Tryd.prog 83 #[.pointer (some p), .pointer (some q)] .returning w fun e u' w' => e = .returned (.tuple #[]) ∧ u' = .returning ∧ w' = w := by
  refine callsD_of_wpS Tryd.func83 rfl fun c₀ cs hu => ?_
  apply wpS_seq
  apply wpS_region
  simp [wpOpsS, go_sem, recoverD, hu, Tryd.ntmps83, Exit.thenS]
  apply wpS_seq
  apply wpS_region
  simp [wpOpsS, go_sem, Exit.thenS]
  refine wpS_cond (t := false) (by simp [Act.eval, Array.replicate]) ?_
  simp only [Bool.false_eq_true, if_false]
  refine wpS_of_wp (wp_skip ?_)
  cases c₀
  simp_all [bodyPostS, results, Tryd.results83]
theorem catch_panicking (p q : Addr) (x y : Value) (w : World) (hp : w.cell? p = some x) (hpz : w.frozen? p = false) (hq : w.cell? q = some y) (hqz : w.frozen? q = false) (hpq : p ≠ q) :
    CallsD Tryd.prog 83 #[.pointer (some p), .pointer (some q)] (.panicking formPanic) w fun e u' w' =>
      e = .returned (.tuple #[]) ∧ u' = .panicking [{ v := .iface 25 (.int .i64 3), recovered := true }] ∧ w' = ((w.setCell p (.slice none 0 0)).setCell q (.int .i64 3)).drew := by
  refine callsD_of_wpS Tryd.func83 rfl fun c₀ cs hu => ?_
  apply wpS_seq
  apply wpS_region
  simp [wpOpsS, go_sem, recoverD, hu, Tryd.ntmps83, Exit.thenS, formPanic]
  apply wpS_seq
  apply wpS_region
  simp [wpOpsS, go_sem, Exit.thenS]
  refine wpS_cond (t := true) (by simp [Act.eval, Array.replicate]) ?_
  simp only [if_true]
  refine wpS_of_wp ?_
  obtain ⟨I, hI⟩ : ∃ I, I = Value.iface 25 (.int .i64 3) := ⟨_, rfl⟩
  change Code.wp _ _ _ { tmps := #[Value.pointer (some p), Value.pointer (some q), Value.iface 25 (.int .i64 3), Value.iface 25 (.int .i64 3), Value.iface 25 (.int .i64 3), Value.bool true, undef, undef], defers := [] } w
  clear hI I
  have hta : ∀ w' : World, (Instr.typeAssert (.iface 25 (.int .i64 3)) 20 25 false).run Tryd.prog w' = .ok (.int .i64 3) w' := fun w' => by kernel_rfl
  have hq2 := World.cell?_setCell_other w p q (.slice none 0 0) hpq
  go_region
  simp [bodyPostS, results, Tryd.results83]
end Go.Proofs.YtgmnoemkdigafaaDoor
