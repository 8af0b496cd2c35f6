/- The reader of package who: skip, next, run: what they return, where they panic, and how far they read. -/
import Derived.Test.YtokeblpdaomagaaDoorWho
import Derived.Test.YtokeblpdaomagaaDoorFrozen
import Derived.Deep.QuietTactic
import Derived.BigQuiet
import Derived.WalkSmall
namespace Go.Proofs.YtokeblpdaomagaaDoor
open Go.RowKit

/-- Nothing but block b has been turned. -/
structure Mv (b : Nat) (w w' : World) : Prop where
  os : w'.os = w.os
  tape : w'.tape = w.tape
  output : w'.output = w.output
  size : w.heap.size ≤ w'.heap.size
  block : ∀ k, k < w.heap.size → k ≠ b → w'.heap[k]? = w.heap[k]?
theorem Mv.refl (b : Nat) (w : World) : Mv b w w := ⟨rfl, rfl, rfl, Nat.le_refl _, fun _ _ _ => rfl⟩
theorem Mv.trans {b : Nat} {x y z : World} (h : Mv b x y) (k : Mv b y z) : Mv b x z :=
  ⟨k.os.trans h.os, k.tape.trans h.tape, k.output.trans h.output, Nat.le_trans h.size k.size, fun i h1 h2 => (k.block i (Nat.lt_of_lt_of_le h1 h.size) h2).trans (h.block i h1 h2)⟩
theorem Mv.drewN {b : Nat} {x y : World} (h : Mv b x y) (n : Nat) : Mv b x (y.drewN n) := ⟨h.os, h.tape, h.output, h.size, h.block⟩
theorem Mv.drew {b : Nat} {x y : World} (h : Mv b x y) : Mv b x y.drew := ⟨h.os, h.tape, h.output, h.size, h.block⟩
theorem Mv.set {b : Nat} {x y : World} (h : Mv b x y) (j : Nat) (v : Value) : Mv b x (y.setCell ⟨b, j, none⟩ v) :=
  h.trans ⟨rfl, rfl, rfl, (KeepsWalks.setCell y _ v).size, fun k _ hk => Below.heap_setCell _ _ _ k (fun e => hk (by rw [e]))⟩
theorem Mv.of_below {b : Nat} {x y : World} (h : Below x.heap.size x y) : Mv b x y := ⟨h.os, h.tape, h.output, h.size, fun k h1 _ => h.block k h1⟩
theorem Mv.alloc {b : Nat} {x y : World} (h : Mv b x y) (o : Obj) : Mv b x (y.alloc o) := h.trans (Mv.of_below ((Below.refl _ y).alloc (Nat.le_refl _) o))
theorem Mv.below {b B : Nat} {x y : World} (h : Mv b x y) (hb : B ≤ b) (hB : B ≤ x.heap.size) : Below B x y := ⟨h.os, h.tape, h.output, h.size, fun k hk => h.block k (Nat.lt_of_lt_of_le hk hB) (by omega)⟩
theorem Mv.cell {b : Nat} {x y : World} (h : Mv b x y) {a : Addr} {v : Value} (hc : x.cell? a = some v) (hne : a.block ≠ b) : y.cell? a = some v := by
  obtain ⟨o, ho, _⟩ := cells_of_cell hc
  exact (World.cell?_of_block (h.block a.block (Array.getElem?_eq_some_iff.1 ho).1 hne)).trans hc

/-- The reader's block. -/
def RB (W : World) (b : Nat) (s : ByteArray) (at' : Nat) : Prop := W.heap[b]? = some (.cells #[.string s, .int .i64 at'] 121 (0, 0))
theorem RB.c0 {W : World} {b : Nat} {s : ByteArray} {i : Nat} (h : RB W b s i) : W.cell? ⟨b, 0, none⟩ = some (.string s) := by simp [World.cell?, show W.heap[b]? = _ from h]
theorem RB.c1 {W : World} {b : Nat} {s : ByteArray} {i : Nat} (h : RB W b s i) : W.cell? ⟨b, 1, none⟩ = some (.int .i64 i) := by simp [World.cell?, show W.heap[b]? = _ from h]
theorem RB.f1 {W : World} {b : Nat} {s : ByteArray} {i : Nat} (h : RB W b s i) : W.frozen? ⟨b, 1, none⟩ = false := by simp [World.frozen?, show W.heap[b]? = _ from h]
theorem RB.lt {W : World} {b : Nat} {s : ByteArray} {i : Nat} (h : RB W b s i) : b < W.heap.size := (Array.getElem?_eq_some_iff.1 h).1
theorem RB.drewN {W : World} {b : Nat} {s : ByteArray} {i : Nat} (h : RB W b s i) (n : Nat) : RB (W.drewN n) b s i := h
theorem RB.below {W W' : World} {b : Nat} {s : ByteArray} {i : Nat} (h : RB W b s i) (hb : Below W.heap.size W W') : RB W' b s i := (hb.block b h.lt).trans h
theorem RB.alloc {W : World} {b : Nat} {s : ByteArray} {i : Nat} (h : RB W b s i) (o : Obj) : RB (W.alloc o) b s i := h.below ((Below.refl _ W).alloc (Nat.le_refl _) o)
theorem heap_setCell_at {w : World} {b : Nat} {cs : Array Value} {t : TypeId} {f : Nat × Nat} (h : w.heap[b]? = some (.cells cs t f)) (j : Nat) (v : Value) :
    (w.setCell ⟨b, j, none⟩ v).heap[b]? = some (.cells (cs.setIfInBounds j v) t f) := by
  obtain ⟨hlt, hk⟩ := Array.getElem?_eq_some_iff.1 h
  show (w.heap.modify b _)[b]? = _
  rw [Array.getElem?_eq_getElem (by rw [Array.size_modify]; exact hlt), Array.getElem_modify_self, hk]
  rfl
theorem RB.set {W : World} {b : Nat} {s : ByteArray} {i : Nat} (h : RB W b s i) (j : Nat) : RB (W.setCell ⟨b, 1, none⟩ (.int .i64 j)) b s j := heap_setCell_at h 1 _

theorem RB.step {W : World} {b : Nat} {s : ByteArray} {i : Nat} (h : RB W b s i) (k : Nat) : RB (W.setCell ⟨b, 1, none⟩ (.int .i64 ((k : Int) + 1))) b s (k + 1) := h.set (k + 1)

theorem must_yes (w : World) : Calls Tryd.prog 68 #[.bool true] w fun e w' => e = .returned (.tuple #[]) ∧ w = w' := by
  go_enter Tryd.func68, Tryd.ntmps68
  go_wp2
  go_end0
  exact ⟨rfl, rfl⟩
/-- What a panic with ErrForm hands on. -/
def formPanic : List PanicEntry := [{ v := .iface 35 (.int .i64 3), recovered := false }]
theorem must_no (w : World) : Calls Tryd.prog 68 #[.bool false] w fun e w' => e = .panicked formPanic ∧ w = w' := by
  go_enter Tryd.func68, Tryd.ntmps68
  go_wp2
  exact ⟨rfl, rfl, rfl⟩

theorem must_quiet (w : World) (n : Nat) : Calls Tryd.prog 68 #[.bool true] (w.drewN n) fun e w'' => e = .returned (.tuple #[]) ∧ ∃ m, w'' = w.drewN m :=
  (must_yes _).mono fun _ _ ⟨he, hw⟩ => ⟨he, n, hw.symm⟩
set_option maxHeartbeats 1000000 in
theorem next_end (s : ByteArray) (b : Nat) (w : World) (h : RB w b s s.size) :
    Calls Tryd.prog 69 #[.pointer (some ⟨b, 0, none⟩)] w fun e w' => e = .returned (.int .u8 0) ∧ ∃ n, w' = w.drewN n := by
  have c0 := h.c0
  have c1 := h.c1
  clear h
  go_enter Tryd.func69, Tryd.ntmps69
  go_wp2
  go_quiet (fail)
  go_wp2
  go_ret
  exact ⟨rfl, _, rfl⟩
set_option maxHeartbeats 1000000 in
theorem next_in (s : ByteArray) (b i : Nat) (w : World) (_hs : s.size ≤ 100000) (h : RB w b s i) (hi : i < s.size) :
    Calls Tryd.prog 69 #[.pointer (some ⟨b, 0, none⟩)] w fun e w' => e = .returned (.int .u8 s[i].toNat) ∧ ∃ n, w' = w.drewN n := by
  have c0 := h.c0
  have c1 := h.c1
  clear h
  go_enter Tryd.func69, Tryd.ntmps69
  go_wp2
  go_quiet (fail)
  go_wp2
  go_quiet (fail)
  go_wp2
  go_ret
  exact ⟨rfl, _, World.drewN_drewN _ _ _⟩
/-- The next byte; 0: there is none. -/
def nextB (l : List UInt8) : UInt8 := l.headD 0
theorem next_calls (s : ByteArray) (b i : Nat) (w : World) (hs : s.size ≤ 100000) (h : RB w b s i) (hi : i ≤ s.size) :
    Calls Tryd.prog 69 #[.pointer (some ⟨b, 0, none⟩)] w fun e w' => e = .returned (.int .u8 (nextB ((bs s).drop i)).toNat) ∧ ∃ n, w' = w.drewN n := by
  by_cases hlt : i < s.size
  · have e : nextB ((bs s).drop i) = s[i] := by
      rw [List.drop_eq_getElem_cons (by exact hlt)]; rfl
    rw [e]
    exact next_in s b i w hs h hlt
  · obtain rfl : i = s.size := by omega
    have e : nextB ((bs s).drop s.size) = 0 := by
      rw [List.drop_of_length_le (Nat.le_of_eq (bs_len s))]; rfl
    rw [e]
    exact next_end s b w h

def blankB (c : UInt8) : Bool := c == 32 || c == 9
theorem drop_step {s : ByteArray} {k : Nat} (h : k < s.size) : (bs s).drop k = s[k] :: (bs s).drop (k + 1) := by
  rw [List.drop_eq_getElem_cons (by exact h)]; rfl
theorem byte_eq {c : UInt8} {n : Nat} (hn : n < 256) : ((c.toNat : Int) == (n : Int)) = (c == UInt8.ofNat n) := by
  rw [Bool.eq_iff_iff, beq_iff_eq, beq_iff_eq]
  constructor
  · intro h
    apply UInt8.toNat_inj.1
    have : (UInt8.ofNat n).toNat = n := by rw [UInt8.toNat_ofNat']; omega
    omega
  · rintro rfl
    rw [UInt8.toNat_ofNat']; omega

set_option maxRecDepth 100000 in
set_option maxHeartbeats 4000000 in
theorem skip_calls (s : ByteArray) (b i : Nat) (w : World) (hs : s.size ≤ 100000) (h : RB w b s i) (hi : i ≤ s.size) :
    Calls Tryd.prog 67 #[.pointer (some ⟨b, 0, none⟩)] w fun e w' => e = .returned (.tuple #[]) ∧ ∃ j, j ≤ s.size ∧ i ≤ j ∧ (bs s).drop j = ((bs s).drop i).dropWhile blankB ∧ RB w' b s j ∧ Mv b w w' := by
  go_enter Tryd.func67, Tryd.ntmps67
  go_wp2
  go_loopg [] s.size (fun kq wr => ∃ k, k ≤ s.size ∧ i ≤ k ∧ k + kq = s.size + i ∧ Hid (((bs s).drop k).dropWhile blankB = ((bs s).drop i).dropWhile blankB) ∧ RB wr b s k ∧ Mv b w wr)
  case atStart => exact ⟨i, hi, Nat.le_refl _, by omega, Lib.hid rfl, h, Mv.refl _ _⟩
  case round =>
    obtain ⟨k, hk, hik, hsum, hdw, hrb, hmv⟩ := hrel
    have Hsum := Lib.hid hsum
    have c0 := hrb.c0
    have c1 := hrb.c1
    have f1 := hrb.f1
    have hbl := hrb.lt
    clear hsum h
    have Hrb := Lib.hid hrb
    clear hrb
    by_cases hlt : k < s.size
    · by_cases h32 : s[k] = 32
      · have e1 : ((s[k].toNat : Int) == 32) = true := by rw [h32]; rfl
        have hd : Hid (((bs s).drop (k + 1)).dropWhile blankB = ((bs s).drop i).dropWhile blankB) := by
          rw [← hdw.out, drop_step hlt, List.dropWhile_cons_of_pos (by rw [h32]; rfl)]; exact Lib.hid rfl
        clear h32
        go_wp2
        go_quiet (fail)
        go_wp2
        go_roundg (gk - 1)
        case measure => have := Hsum.out; omega
        case rel => exact ⟨k + 1, by omega, by omega, by have := Hsum.out; omega, hd, (Hrb.out.drewN _).step k, ((hmv.drewN _).set 1 _)⟩
      · have e1 : ((s[k].toNat : Int) == 32) = false := by rw [show (32 : Int) = ((32 : Nat) : Int) from rfl, byte_eq (by decide)]; simpa using h32
        by_cases h9 : s[k] = 9
        · have e2 : ((s[k].toNat : Int) == 9) = true := by rw [h9]; rfl
          have hd : Hid (((bs s).drop (k + 1)).dropWhile blankB = ((bs s).drop i).dropWhile blankB) := by
            rw [← hdw.out, drop_step hlt, List.dropWhile_cons_of_pos (by rw [h9]; rfl)]; exact Lib.hid rfl
          clear h32 h9
          go_wp2
          go_quiet (fail)
          go_wp2
          go_roundg (gk - 1)
          case measure => have := Hsum.out; omega
          case rel => exact ⟨k + 1, by omega, by omega, by have := Hsum.out; omega, hd, (Hrb.out.drewN _).step k, ((hmv.drewN _).set 1 _)⟩
        · have e2 : ((s[k].toNat : Int) == 9) = false := by rw [show (9 : Int) = ((9 : Nat) : Int) from rfl, byte_eq (by decide)]; simpa using h9
          have hd : Hid ((bs s).drop k = ((bs s).drop i).dropWhile blankB) := by
            rw [← hdw.out, drop_step hlt, List.dropWhile_cons_of_neg (by simp [blankB, h32, h9])]; exact Lib.hid rfl
          clear h32 h9
          go_wp2
          go_quiet (fail)
          go_wp2
          go_end0
          exact ⟨rfl, k, hk, hik, hd.out, Hrb.out.drewN _, hmv.drewN _⟩
    · have hd : Hid ((bs s).drop k = ((bs s).drop i).dropWhile blankB) := by
        rw [← hdw.out, List.drop_of_length_le (by rw [bs_len]; omega)]; exact Lib.hid rfl
      go_wp2
      go_quiet (fail)
      go_wp2
      go_end0
      exact ⟨rfl, k, hk, hik, hd.out, Hrb.out.drewN _, hmv.drewN _⟩

theorem atom_quiet (c : UInt8) (v : Bool) (hv : atomB c = v) (w : World) (n : Nat) :
    Calls Tryd.prog 40 #[.int .u8 c.toNat] (w.drewN n) fun e w'' => e = .returned (.bool v) ∧ ∃ m, w'' = w.drewN m :=
  (atom_calls c _).mono fun _ _ ⟨he, hw⟩ => ⟨by rw [he, hv], n, hw.symm⟩
def runB (c : UInt8) : Bool := atomB c || c == 46
set_option maxRecDepth 100000 in
set_option maxHeartbeats 4000000 in
theorem run_calls (s : ByteArray) (b i : Nat) (w : World) (hs : s.size ≤ 100000) (h : RB w b s i) (hi : i ≤ s.size) :
    Calls Tryd.prog 81 #[.pointer (some ⟨b, 0, none⟩)] w fun e w' => e = .returned (.string (mkS (((bs s).drop i).takeWhile runB))) ∧ ∃ j, j ≤ s.size ∧ i ≤ j ∧ (bs s).drop j = ((bs s).drop i).dropWhile runB ∧ RB w' b s j ∧ Mv b w w' := by
  have c0 := h.c0
  have c1 := h.c1
  go_enter Tryd.func81, Tryd.ntmps81
  go_wp2
  clear c0 c1
  go_loopg [] s.size (fun kq wr => ∃ k, k ≤ s.size ∧ i ≤ k ∧ k + kq = s.size + i ∧ Hid (((bs s).drop k).dropWhile runB = ((bs s).drop i).dropWhile runB) ∧ Hid (((bs s).take k).drop i ++ ((bs s).drop k).takeWhile runB = ((bs s).drop i).takeWhile runB) ∧ RB wr b s k ∧ Mv b w wr)
  case atStart => exact ⟨i, hi, Nat.le_refl _, by omega, Lib.hid rfl, Lib.hid (by rw [List.drop_of_length_le (by rw [List.length_take]; omega)]; rfl), h, Mv.refl _ _⟩
  case round =>
    obtain ⟨k, hk, hik, hsum, hdw, htw, hrb, hmv⟩ := hrel
    have Hsum := Lib.hid hsum
    have c0 := hrb.c0
    have c1 := hrb.c1
    have f1 := hrb.f1
    have hbl := hrb.lt
    clear hsum h
    have Hrb := Lib.hid hrb
    clear hrb
    by_cases hlt : k < s.size
    · have hsnoc : ((bs s).take (k + 1)).drop i = ((bs s).take k).drop i ++ [s[k]] := by
        rw [take_snoc s k hlt, List.drop_append_of_le_length (by rw [List.length_take, bs_len]; omega)]
      have hgo : runB s[k] = true → Hid (((bs s).drop (k + 1)).dropWhile runB = ((bs s).drop i).dropWhile runB) ∧ Hid (((bs s).take (k + 1)).drop i ++ ((bs s).drop (k + 1)).takeWhile runB = ((bs s).drop i).takeWhile runB) := fun hr =>
        ⟨Lib.hid (by rw [← hdw.out, drop_step hlt, List.dropWhile_cons_of_pos hr]), Lib.hid (by rw [← htw.out, drop_step hlt, List.takeWhile_cons_of_pos hr, hsnoc, List.append_assoc]; rfl)⟩
      have hno : ¬ runB s[k] = true → Hid ((bs s).drop k = ((bs s).drop i).dropWhile runB) ∧ Hid (((bs s).take k).drop i = ((bs s).drop i).takeWhile runB) := fun hr =>
        ⟨Lib.hid (by rw [← hdw.out, drop_step hlt, List.dropWhile_cons_of_neg hr]), Lib.hid (by rw [← htw.out, drop_step hlt, List.takeWhile_cons_of_neg hr, List.append_nil])⟩
      clear hsnoc
      by_cases ha : atomB s[k] = true
      · have hd := hgo (by simp [runB, ha])
        clear hgo hno
        go_wp2
        go_quiet (exact atom_quiet _ true ha _ _)
        go_wp2
        go_roundg (gk - 1)
        case measure => have := Hsum.out; omega
        case rel => exact ⟨k + 1, by omega, by omega, by have := Hsum.out; omega, hd.1, hd.2, (Hrb.out.drewN _).step k, ((hmv.drewN _).set 1 _)⟩
      · have ha2 : atomB s[k] = false := by simpa using ha
        by_cases h46 : s[k] = 46
        · have hd := hgo (by simp [runB, h46])
          have e1 : ((s[k].toNat : Int) == 46) = true := by rw [h46]; rfl
          clear hgo hno h46
          go_wp2
          go_quiet (exact atom_quiet _ false ha2 _ _)
          go_wp2
          go_roundg (gk - 1)
          case measure => have := Hsum.out; omega
          case rel => exact ⟨k + 1, by omega, by omega, by have := Hsum.out; omega, hd.1, hd.2, (Hrb.out.drewN _).step k, ((hmv.drewN _).set 1 _)⟩
        · have hd := hno (by simp [runB, ha2, h46])
          have e1 : ((s[k].toNat : Int) == 46) = false := by rw [show (46 : Int) = ((46 : Nat) : Int) from rfl, byte_eq (by decide)]; simpa using h46
          clear hgo hno h46
          go_wp2
          go_quiet (exact atom_quiet _ false ha2 _ _)
          go_wp2
          go_quiet (fail)
          go_wp2
          go_ret
          exact ⟨show Ending.returned (.string (s.extract i k)) = _ by rw [extract_mkS, hd.2.out], k, hk, hik, hd.1.out, (Hrb.out.drewN _).drewN _, (hmv.drewN _).drewN _⟩
    · have hd : Hid ((bs s).drop k = ((bs s).drop i).dropWhile runB) := by
        rw [← hdw.out, List.drop_of_length_le (by rw [bs_len]; omega)]; exact Lib.hid rfl
      have ht : Hid (((bs s).take k).drop i = ((bs s).drop i).takeWhile runB) := by
        rw [← htw.out, List.drop_of_length_le (l := bs s) (i := k) (by rw [bs_len]; omega), List.takeWhile_nil, List.append_nil]; exact Lib.hid rfl
      go_wp2
      go_quiet (fail)
      go_wp2
      go_quiet (fail)
      go_wp2
      go_ret
      exact ⟨show Ending.returned (.string (s.extract i k)) = _ by rw [extract_mkS, ht.out], k, hk, hik, hd.out, (Hrb.out.drewN _).drewN _, (hmv.drewN _).drewN _⟩
end Go.Proofs.YtokeblpdaomagaaDoor
