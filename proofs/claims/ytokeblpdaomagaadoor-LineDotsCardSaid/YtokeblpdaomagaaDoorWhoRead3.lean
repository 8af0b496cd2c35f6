/- The reader of package who: bare, address. -/
import Derived.Test.YtokeblpdaomagaaDoorWhoRead2
namespace Go.Proofs.YtokeblpdaomagaaDoor
open Go.RowKit

/-- A bare address whose local part was read: the address, and what stands behind it. -/
def bareL (loc : ByteArray) (l : List UInt8) : Option (Adr × List UInt8) :=
  if nextB l = 64 then if checkA ⟨loc, mkS (l.tail.takeWhile runB)⟩ = 0 then some (⟨loc, mkS (l.tail.takeWhile runB)⟩, l.tail.dropWhile runB) else none else none
/-- What a reading of an address ends in. -/
def OkA (w : World) (s : ByteArray) (b i : Nat) (R : Option (Adr × List UInt8)) (e : Ending) (w' : World) : Prop := match R with
  | some (a, l) => e = .returned (adrVal a) ∧ ∃ j, j ≤ s.size ∧ i < j ∧ (bs s).drop j = l ∧ RB w' b s j ∧ Mv b w w'
  | none => e = .panicked formPanic ∧ Mv b w w'
theorem run_keep (s : ByteArray) (b i : Nat) (w0 w : World) (hs : s.size ≤ 100000) (h : RB w b s i) (hm : Mv b w0 w) (hi : i ≤ s.size) :
    Calls Tryd.prog 81 #[.pointer (some ⟨b, 0, none⟩)] w fun e w' => e = .returned (.string (mkS (((bs s).drop i).takeWhile runB))) ∧ ∃ j, j ≤ s.size ∧ i ≤ j ∧ (bs s).drop j = ((bs s).drop i).dropWhile runB ∧ RB w' b s j ∧ Mv b w0 w' :=
  (run_calls s b i w hs h hi).mono fun _ _ ⟨he, j, h1, h2, h3, h4, h5⟩ => ⟨he, j, h1, h2, h3, h4, hm.trans h5⟩
theorem nextB_in {s : ByteArray} {i : Nat} (hi : i < s.size) : nextB ((bs s).drop i) = s[i] := by rw [drop_step hi]; rfl
theorem nextB_end {s : ByteArray} {i : Nat} (hi : ¬ i < s.size) : nextB ((bs s).drop i) = 0 := by rw [List.drop_of_length_le (by rw [bs_len]; omega)]; rfl
theorem next_keepB (s : ByteArray) (b k : Nat) (w0 w : World) (hs : s.size ≤ 100000) (h : RB w b s k) (hm : Mv b w0 w) (hk : k ≤ s.size) :
    Calls Tryd.prog 69 #[.pointer (some ⟨b, 0, none⟩)] w fun e w' => e = .returned (.int .u8 (nextB ((bs s).drop k)).toNat) ∧ RB w' b s k ∧ Mv b w0 w' :=
  (next_calls s b k w hs h hk).mono fun _ _ ⟨he, n, hw⟩ => ⟨he, by rw [hw]; exact h.drewN n, by rw [hw]; exact hm.drewN n⟩

/-- The box of an address. -/
def AB (W : World) (c : Nat) (l d : ByteArray) : Prop := W.heap[c]? = some (.cells #[.string l, .string d] 28 (0, 0))
theorem AB.c0 {W : World} {c : Nat} {l d : ByteArray} (h : AB W c l d) : W.cell? ⟨c, 0, none⟩ = some (.string l) := by simp [World.cell?, show W.heap[c]? = _ from h]
theorem AB.c1 {W : World} {c : Nat} {l d : ByteArray} (h : AB W c l d) : W.cell? ⟨c, 1, none⟩ = some (.string d) := by simp [World.cell?, show W.heap[c]? = _ from h]
theorem AB.f0 {W : World} {c : Nat} {l d : ByteArray} (h : AB W c l d) : W.frozen? ⟨c, 0, none⟩ = false := by simp [World.frozen?, show W.heap[c]? = _ from h]
theorem AB.f1 {W : World} {c : Nat} {l d : ByteArray} (h : AB W c l d) : W.frozen? ⟨c, 1, none⟩ = false := by simp [World.frozen?, show W.heap[c]? = _ from h]
theorem AB.lt {W : World} {c : Nat} {l d : ByteArray} (h : AB W c l d) : c < W.heap.size := (Array.getElem?_eq_some_iff.1 h).1
theorem AB.mv {W W' : World} {b c : Nat} {l d : ByteArray} (h : AB W c l d) (hm : Mv b W W') (hne : c ≠ b) : AB W' c l d := (hm.block c h.lt hne).trans h
theorem AB.new (W : World) (l d : ByteArray) : AB (W.alloc (.cells #[.string l, .string d] 28)) W.heap.size l d := World.alloc_heap_new W _
theorem AB.set0 {W : World} {c : Nat} {l d : ByteArray} (h : AB W c l d) (l' : ByteArray) : AB (W.setCell ⟨c, 0, none⟩ (.string l')) c l' d := heap_setCell_at h 0 _
theorem AB.set1 {W : World} {c : Nat} {l d : ByteArray} (h : AB W c l d) (d' : ByteArray) : AB (W.setCell ⟨c, 1, none⟩ (.string d')) c l d' := heap_setCell_at h 1 _
theorem RB.other {W : World} {b c : Nat} {s : ByteArray} {i : Nat} (h : RB W b s i) (hne : c ≠ b) (j : Nat) (v : Value) : RB (W.setCell ⟨c, j, none⟩ v) b s i :=
  (Below.heap_setCell _ _ _ b (fun e => by first | exact hne e | exact hne e.symm)).trans h
theorem AB.other {W : World} {b c : Nat} {l d : ByteArray} (h : AB W c l d) (hne : c ≠ b) (j : Nat) (v : Value) : AB (W.setCell ⟨b, j, none⟩ v) c l d :=
  (Below.heap_setCell _ _ _ c (fun e => by first | exact hne e | exact hne e.symm)).trans h
theorem Mv.setNew {b c : Nat} {x y : World} (h : Mv b x y) (hc : x.heap.size ≤ c) (j : Nat) (v : Value) : Mv b x (y.setCell ⟨c, j, none⟩ v) := by
  refine ⟨h.os, h.tape, h.output, Nat.le_trans h.size (KeepsWalks.setCell y _ v).size, fun k h1 h2 => ?_⟩
  have hne : k ≠ c := by omega
  exact (Below.heap_setCell _ _ _ k hne).trans (h.block k h1 h2)
set_option maxRecDepth 100000 in
set_option maxHeartbeats 4000000 in
theorem bare_calls (s loc : ByteArray) (b i : Nat) (m : Int) (w : World) (hs : s.size ≤ 100000) (hl : loc.size ≤ 100000) (h : RB w b s i) (hi : i ≤ s.size) (hm : w.cell? ⟨0, 0, none⟩ = some (.int .i64 m)) (hg : 0 ≠ b) (R : Option (Adr × List UInt8)) (hR : bareL loc ((bs s).drop i) = R) :
    Calls Tryd.prog 80 #[.pointer (some ⟨b, 0, none⟩), .string loc] w fun e w' => OkA w s b i R e w' := by
  go_enter Tryd.func80, Tryd.ntmps80
  go_wp2_with fail
  have ha := AB.new w ⟨#[]⟩ ⟨#[]⟩
  have h0 := h.alloc (.cells #[.string ⟨#[]⟩, .string ⟨#[]⟩] 28)
  have m0 := (Mv.refl b w).alloc (.cells #[.string ⟨#[]⟩, .string ⟨#[]⟩] 28)
  have hcb : w.heap.size ≠ b := by have := h.lt; omega
  generalize w.alloc (.cells #[.string ⟨#[]⟩, .string ⟨#[]⟩] 28) = A0 at *
  have hmA := m0.cell hm hg
  clear hm h
  refine (next_keepB s b i A0 A0 hs h0 (Mv.refl _ _) hi).mono ?_
  rintro e w1 ⟨rfl, h1, m1⟩
  have ha1 := ha.mv m1 hcb
  have hm1 := m1.cell hmA hg
  have mw1 := m0.trans m1
  clear ha h0 m0 m1 hmA
  by_cases hlt : i < s.size
  · rw [drop_step hlt] at hR
    rw [nextB_in hlt]
    by_cases h64 : s[i] = 64
    · have e1 : ((s[i].toNat : Int) == 64) = true := by rw [h64]; rfl
      have c0 := h1.c0
      have c1 := h1.c1
      have f1 := h1.f1
      have hbl := h1.lt
      go_wp2_with (go_at_call 68; refine (must_yes _).mono ?_; rintro e w' ⟨rfl, rfl⟩)
      have h2 := h1.step i
      have ha2 := ha1.other hcb 1 (.int .i64 ((i : Int) + 1))
      have m2 := (Mv.refl b w1).set 1 (.int .i64 ((i : Int) + 1))
      have hm2 := m2.cell hm1 hg
      have mw2 := mw1.trans m2
      generalize w1.setCell ⟨b, 1, none⟩ (.int .i64 ((i : Int) + 1)) = w2 at *
      clear h1 ha1 m2 hm1 mw1 c0 c1 f1 hbl
      refine (run_keep s b (i + 1) w2 w2 hs h2 (Mv.refl _ _) (by omega)).mono ?_
      rintro e w3 ⟨rfl, j, hj, hij, hdj, h3, m3⟩
      have ha3 := ha2.mv m3 hcb
      have hm3 := m3.cell hm2 hg
      have mw3 := mw2.trans m3
      clear h2 ha2 m3 hm2 mw2
      obtain ⟨d, hd⟩ : ∃ d, mkS (((bs s).drop (i + 1)).takeWhile runB) = d := ⟨_, rfl⟩
      have hdl : d.size ≤ 100000 := by
        rw [← hd, mkS_size]
        have := (List.takeWhile_sublist runB (l := (bs s).drop (i + 1))).length_le
        rw [List.length_drop, bs_len] at this
        omega
      have hR2 : (if checkA ⟨loc, d⟩ = 0 then some (⟨loc, d⟩, (bs s).drop j) else none) = R := by
        rw [← hR, bareL, if_pos (show nextB (s[i] :: _) = 64 from h64), List.tail_cons, hd, hdj]
      rw [hd]
      have b0 := ha3.c0
      have b1 := ha3.c1
      have g0 := ha3.f0
      have g1 := ha3.f1
      have hbl := h3.lt
      have hcl := ha3.lt
      have Hd := Lib.hid hd
      have HR := Lib.hid hR2
      have Hdj := Lib.hid hdj
      clear hd hR2 hR hdj
      go_wp2_with fail
      have hb4 : Below w3.heap.size w3 (w3.alloc (.cells #[.string loc, .string d] 28)) := (Below.refl _ w3).alloc (Nat.le_refl _) _
      have ha4 := AB.new w3 loc d
      have hm4 := cell_later hb4 hm3
      have h4 := h3.below hb4
      have hr4 : AB (w3.alloc (.cells #[.string loc, .string d] 28)) w.heap.size ⟨#[]⟩ ⟨#[]⟩ := (hb4.block _ hcl).trans ha3
      have mw4 := mw3.trans (Mv.of_below hb4)
      have hne : w3.heap.size ≠ b := by omega
      generalize w3.alloc (.cells #[.string loc, .string d] 28) = w4 at *
      clear h3 ha3 hm3 mw3 b0 b1 g0 g1
      refine (check_calls ⟨loc, d⟩ m w4 hl hdl hm4).mono ?_
      rintro e w5 ⟨rfl, hb5⟩
      have h5 := h4.below hb5
      have ha5 : AB w5 w3.heap.size loc d := (hb5.block _ ha4.lt).trans ha4
      have hr5 : AB w5 w.heap.size ⟨#[]⟩ ⟨#[]⟩ := (hb5.block _ hr4.lt).trans hr4
      have mw5 := mw4.trans (Mv.of_below hb5)
      clear h4 ha4 hr4 mw4 hm4 hb4 hb5
      by_cases hck : checkA ⟨loc, d⟩ = 0
      · have hr : R = some (⟨loc, d⟩, (bs s).drop j) := by rw [← HR.out, if_pos hck]
        subst hr
        rw [hck]
        have b0 := ha5.c0
        have b1 := ha5.c1
        have r0 := hr5.c0
        have r1 := hr5.c1
        have g0 := hr5.f0
        have g1 := hr5.f1
        have hrl := hr5.lt
        go_wp2_with (go_at_call 68; refine (must_yes _).mono ?_; rintro e w' ⟨rfl, rfl⟩)
        exact bodyPost_ret (v := adrVal ⟨loc, d⟩) (by simp [results, Tryd.results80, go_sem, adrVal, r0, r1]) rfl ⟨rfl, j, hj, by omega, rfl, (h5.other hcb 0 _).other hcb 1 _, (mw5.setNew (Nat.le_refl _) 0 _).setNew (Nat.le_refl _) 1 _⟩
      · have hr : R = none := by rw [← HR.out, if_neg hck]
        subst hr
        have e1 : (checkA ⟨loc, d⟩ == 0) = false := by simpa using hck
        go_wp2_with (go_at_call 68; refine (must_no _).mono ?_; rintro e w' ⟨rfl, rfl⟩)
        exact ⟨rfl, rfl, mw5⟩
    · have hr : R = none := by
        rw [← hR]; unfold bareL; rw [if_neg (show ¬ nextB (s[i] :: _) = 64 from h64)]
      subst hr
      have e1 : ((s[i].toNat : Int) == 64) = false := by rw [show (64 : Int) = ((64 : Nat) : Int) from rfl, byte_eq (by decide)]; simpa using h64
      go_wp2_with (go_at_call 68; refine (must_no _).mono ?_; rintro e w' ⟨rfl, rfl⟩)
      exact ⟨rfl, rfl, mw1⟩
  · have hr : R = none := by
      rw [← hR]; unfold bareL; rw [if_neg (by rw [nextB_end hlt]; decide)]
    subst hr
    rw [nextB_end hlt]
    go_wp2_with (go_at_call 68; refine (must_no _).mono ?_; rintro e w' ⟨rfl, rfl⟩)
    exact ⟨rfl, rfl, mw1⟩
end Go.Proofs.YtokeblpdaomagaaDoor
