/- The reader of package book: take, number, text. -/
import Derived.Test.YtpncahklapfoaaaDoorEncode
namespace Go.Proofs.YtpncahklapfoaaaDoor
open Go.RowKit
set_option linter.unusedVariables false

/-- A slice of bytes, in a block below B. -/
def BS (W : World) (B : Nat) (A : Option Addr) (cap : Nat) (l : List UInt8) : Prop :=
  l.length ≤ cap ∧ ((A = none ∧ cap = 0) ∨ ∃ b off, A = some ⟨b, off, none⟩ ∧ b < B ∧ ∀ i, (h : i < l.length) → W.cell? ⟨b, off + i, none⟩ = some (.int .u8 (l[i].toNat : Int)))
/-- The block of a reader. -/
def RE (W : World) (c : Nat) (v : Value) (sh : Bool) : Prop := W.heap[c]? = some (.cells #[v, .bool sh] 68 (0, 0))
theorem RE.c0 {W : World} {c : Nat} {v : Value} {sh : Bool} (h : RE W c v sh) : W.cell? ⟨c, 0, none⟩ = some v := by simp [World.cell?, show W.heap[c]? = _ from h]
theorem RE.c1 {W : World} {c : Nat} {v : Value} {sh : Bool} (h : RE W c v sh) : W.cell? ⟨c, 1, none⟩ = some (.bool sh) := by simp [World.cell?, show W.heap[c]? = _ from h]
theorem RE.f0 {W : World} {c : Nat} {v : Value} {sh : Bool} (h : RE W c v sh) : W.frozen? ⟨c, 0, none⟩ = false := by simp [World.frozen?, show W.heap[c]? = _ from h]
theorem RE.f1 {W : World} {c : Nat} {v : Value} {sh : Bool} (h : RE W c v sh) : W.frozen? ⟨c, 1, none⟩ = false := by simp [World.frozen?, show W.heap[c]? = _ from h]

set_option maxRecDepth 100000 in
set_option maxHeartbeats 2000000 in
theorem take_short (c n : Nat) (A : Option Addr) (m cap : Nat) (sh : Bool) (w : World) (h : RE w c (.slice A m cap) sh) (hn : sh = true ∨ m < n) :
    Calls Tryd.prog 33 #[.pointer (some ⟨c, 0, none⟩), .int .i64 n] w fun e w' => e = .returned (.slice none 0 0) ∧ w' = w.setCell ⟨c, 1, none⟩ (.bool true) := by
  have c0 := h.c0
  have c1 := h.c1
  have f1 := h.f1
  cases sh with
  | true =>
    go_enter Tryd.func33, Tryd.ntmps33
    go_wp2
    go_ret
    exact ⟨rfl, rfl⟩
  | false =>
    have hlt : m < n := by simpa using hn
    clear hn h
    go_enter Tryd.func33, Tryd.ntmps33
    go_wp2
    go_ret
    exact ⟨rfl, rfl⟩
set_option maxRecDepth 100000 in
set_option maxHeartbeats 2000000 in
theorem take_ok (c n g off m cap : Nat) (w : World) (h : RE w c (.slice (some ⟨g, off, none⟩) m cap) false) (hn : n ≤ m) (hm : m ≤ cap) (hm2 : m ≤ 1000000) :
    Calls Tryd.prog 33 #[.pointer (some ⟨c, 0, none⟩), .int .i64 n] w fun e w' => e = .returned (.slice (some ⟨g, off, none⟩) n cap) ∧ ∃ off' cap', w' = w.setCell ⟨c, 0, none⟩ (.slice (some ⟨g, off', none⟩) (m - n) cap') ∧ m - n ≤ cap' ∧ (n < m → off' = off + n) := by
  have c0 := h.c0
  have c1 := h.c1
  have f0 := h.f0
  clear h
  by_cases hcn : cap = n
  · obtain rfl := hcn
    obtain rfl : m = cap := by omega
    go_enter Tryd.func33, Tryd.ntmps33
    go_wp2
    all_goals
      go_ret
      exact ⟨rfl, off, 0, by rw [Nat.sub_self], by omega, by omega⟩
  · go_enter Tryd.func33, Tryd.ntmps33
    go_wp2
    all_goals
      go_ret
      exact ⟨rfl, off + n, cap - n, rfl, by omega, fun _ => rfl⟩
set_option maxRecDepth 100000 in
set_option maxHeartbeats 2000000 in
theorem take_nil (c : Nat) (w : World) (h : RE w c (.slice none 0 0) false) :
    Calls Tryd.prog 33 #[.pointer (some ⟨c, 0, none⟩), .int .i64 (0 : Nat)] w fun e w' => e = .returned (.slice none 0 0) ∧ w' = w.setCell ⟨c, 0, none⟩ (.slice none 0 0) := by
  have c0 := h.c0
  have c1 := h.c1
  have f0 := h.f0
  clear h
  go_enter Tryd.func33, Tryd.ntmps33
  go_wp2
  all_goals
    go_ret
    exact ⟨rfl, rfl⟩

/-- A reader that stands ahead of so many bytes. -/
def RS (W : World) (c B : Nat) (l : List UInt8) (sh : Bool) : Prop := ∃ A cap, RE W c (.slice A l.length cap) sh ∧ BS W B A cap l
theorem BS.mv {W W' : World} {b B cap : Nat} {A : Option Addr} {l : List UInt8} (h : BS W B A cap l) (hm : Mv b W W') (hB : B ≤ b) : BS W' B A cap l := by
  obtain ⟨h0, h | ⟨g, off, hA, hg, h⟩⟩ := h
  · exact ⟨h0, .inl h⟩
  · exact ⟨h0, .inr ⟨g, off, hA, hg, fun i hi => hm.cell (h i hi) (by show g ≠ b; omega)⟩⟩
theorem BS.below {W W' : World} {n B cap : Nat} {A : Option Addr} {l : List UInt8} (h : BS W B A cap l) (hb : Below n W W') (hB : B ≤ n) : BS W' B A cap l := by
  obtain ⟨h0, h | ⟨g, off, hA, hg, h⟩⟩ := h
  · exact ⟨h0, .inl h⟩
  · exact ⟨h0, .inr ⟨g, off, hA, hg, fun i hi => (World.cell?_of_block (hb.block g (by omega))).trans (h i hi)⟩⟩
theorem RE.set0 {W : World} {c : Nat} {v : Value} {sh : Bool} (h : RE W c v sh) (u : Value) : RE (W.setCell ⟨c, 0, none⟩ u) c u sh := heap_setCell_at h 0 _
theorem RE.set1 {W : World} {c : Nat} {v : Value} {sh : Bool} (h : RE W c v sh) (u : Bool) : RE (W.setCell ⟨c, 1, none⟩ (.bool u)) c v u := heap_setCell_at h 1 _
theorem take_bad (c n B : Nat) (l : List UInt8) (sh : Bool) (w : World) (hB : B ≤ c) (h : RS w c B l sh) (hn : sh = true ∨ l.length < n) :
    Calls Tryd.prog 33 #[.pointer (some ⟨c, 0, none⟩), .int .i64 n] w fun e w' => e = .returned (.slice none 0 0) ∧ RS w' c B l true ∧ Mv c w w' := by
  obtain ⟨A, cap, h1, h2⟩ := h
  refine (take_short c n A l.length cap sh w h1 hn).mono ?_
  rintro e w' ⟨rfl, rfl⟩
  have hm := (Mv.refl c w).set 1 (.bool true)
  exact ⟨rfl, ⟨A, cap, h1.set1 true, h2.mv hm hB⟩, hm⟩
theorem take_good (c n B : Nat) (l : List UInt8) (w : World) (hB : B ≤ c) (h : RS w c B l false) (hn : n ≤ l.length) (hl : l.length ≤ 1000000) :
    Calls Tryd.prog 33 #[.pointer (some ⟨c, 0, none⟩), .int .i64 n] w fun e w' => ∃ A cap, e = .returned (.slice A n cap) ∧ BS w' B A cap (l.take n) ∧ RS w' c B (l.drop n) false ∧ Mv c w w' := by
  obtain ⟨A, cap, h1, h3, h2 | ⟨g, off, rfl, hg, hc⟩⟩ := h
  · obtain ⟨rfl, rfl⟩ := h2
    obtain rfl : l = [] := List.length_eq_zero_iff.1 (by omega)
    obtain rfl : n = 0 := by simpa using hn
    refine (take_nil c w h1).mono ?_
    rintro e w' ⟨rfl, rfl⟩
    exact ⟨none, 0, rfl, ⟨by simp, .inl ⟨rfl, rfl⟩⟩, ⟨none, 0, h1.set0 _, by simp, .inl ⟨rfl, rfl⟩⟩, (Mv.refl c w).set 0 (.slice none 0 0)⟩
  · refine (take_ok c n g off l.length cap w h1 hn h3 hl).mono ?_
    rintro e w' ⟨rfl, off', cap', rfl, h5, h6⟩
    have hm := (Mv.refl c w).set 0 (.slice (some ⟨g, off', none⟩) (l.length - n) cap')
    refine ⟨_, _, rfl, ⟨by rw [List.length_take]; omega, .inr ⟨g, off, rfl, hg, fun i hi => ?_⟩⟩, ⟨some ⟨g, off', none⟩, cap', ?_, by rw [List.length_drop]; exact h5, .inr ⟨g, off', rfl, hg, fun i hi => ?_⟩⟩, hm⟩
    · rw [List.getElem_take]
      exact hm.cell (hc i (by rw [List.length_take] at hi; omega)) (by show g ≠ c; omega)
    · rw [List.length_drop]; exact h1.set0 _
    · have hi2 : n + i < l.length := by rw [List.length_drop] at hi; omega
      obtain rfl := h6 (by omega)
      have := hm.cell (hc (n + i) hi2) (by show g ≠ c; omega)
      rw [List.getElem_drop, Nat.add_assoc]
      exact this
theorem or_byte (n c : Nat) (hn : n < 65536) (hc : c < 256) : bits BinOp.or IntKind.i64 (wrap64 ((n : Int) * 256)) (wrap64 (c : Int)) = ((n * 256 + c : Nat) : Int) := by
  have e1 : wrap64 ((n : Int) * 256) = ((n * 256 : Nat) : Int) := by unfold wrap64; omega
  have e2 : wrap64 (c : Int) = (c : Int) := by unfold wrap64; omega
  rw [e1, e2]
  show IntKind.i64.wrap ((BitVec.ofInt 64 ((n * 256 : Nat) : Int) ||| BitVec.ofInt 64 (c : Int)).toNat : Int) = _
  have h1 : (BitVec.ofInt 64 ((n * 256 : Nat) : Int)).toNat = n * 256 := by rw [BitVec.ofInt_natCast, BitVec.toNat_ofNat]; omega
  have h2 : (BitVec.ofInt 64 (c : Int)).toNat = c := by rw [BitVec.ofInt_natCast, BitVec.toNat_ofNat]; omega
  have h3 : n * 256 ||| c = n * 256 + c := by
    rw [show n * 256 = 2 ^ 8 * n by omega]
    exact (Nat.two_pow_add_eq_or_of_lt (by omega) n).symm
  rw [BitVec.toNat_or, h1, h2, h3]
  simp only [IntKind.wrap, IntKind.signed, IntKind.bits]
  simp
  omega
theorem numL_lt (l : List UInt8) : numL l < 256 ^ l.length := by
  have h : ∀ (l : List UInt8) (a : Nat), l.foldl (fun n c => n * 256 + c.toNat) a < (a + 1) * 256 ^ l.length := by
    intro l
    induction l with
    | nil => intro a; simp
    | cons c r ih =>
      intro a
      have := ih (a * 256 + c.toNat)
      have hc := c.toNat_lt
      have h2 : (a * 256 + c.toNat + 1) * 256 ^ r.length ≤ (a + 1) * 256 * 256 ^ r.length := Nat.mul_le_mul_right _ (by omega)
      rw [List.foldl_cons, List.length_cons, Nat.pow_succ, Nat.mul_comm (256 ^ r.length) 256, ← Nat.mul_assoc]
      omega
  have := h l 0
  simpa [numL] using this
theorem numL_snoc (l : List UInt8) (c : UInt8) : numL (l ++ [c]) = numL l * 256 + c.toNat := by unfold numL; rw [List.foldl_append]; rfl
set_option maxRecDepth 100000 in
set_option maxHeartbeats 2000000 in
theorem number_bad (c n B : Nat) (l : List UInt8) (sh : Bool) (w : World) (hB : B ≤ c) (h : RS w c B l sh) (hn : sh = true ∨ l.length < n) :
    Calls Tryd.prog 29 #[.pointer (some ⟨c, 0, none⟩), .int .i64 n] w fun e w' => e = .returned (.int .i64 0) ∧ RS w' c B l true ∧ Mv c w w' := by
  have ht := take_bad c n B l sh w hB h hn
  go_enter Tryd.func29, Tryd.ntmps29
  go_wp2_with fail
  refine ht.mono ?_
  rintro e w1 ⟨rfl, hr1, hm1⟩
  go_wp2_with fail
  go_loopw [5, 12] (fun v i wr => v = .int .i64 0 ∧ i = .int .i64 0 ∧ wr = w1) (fun _ _ _ => 0)
  case atStart => exact ⟨rfl, rfl, rfl⟩
  case round =>
    obtain ⟨rfl, rfl, rfl⟩ := hrel
    go_wp2
    go_ret
    exact ⟨rfl, hr1, hm1⟩
set_option maxRecDepth 100000 in
set_option maxHeartbeats 2000000 in
theorem number_good (c n B : Nat) (l : List UInt8) (w : World) (hB : B ≤ c) (h : RS w c B l false) (hn : n ≤ l.length) (hl : l.length ≤ 1000000) (h3 : n ≤ 3) :
    Calls Tryd.prog 29 #[.pointer (some ⟨c, 0, none⟩), .int .i64 n] w fun e w' => e = .returned (.int .i64 (numL (l.take n))) ∧ RS w' c B (l.drop n) false ∧ Mv c w w' := by
  have ht := take_good c n B l w hB h hn hl
  have hlt : (l.take n).length = n := by rw [List.length_take]; omega
  go_enter Tryd.func29, Tryd.ntmps29
  go_wp2_with fail
  refine ht.mono ?_
  rintro e w1 ⟨A, cap, rfl, hb1, hr1, hm1⟩
  obtain ⟨p, hpe⟩ : ∃ p, l.take n = p := ⟨_, rfl⟩
  rw [hpe] at hb1 hlt
  have Hpe := Lib.hid hpe
  clear hpe ht h
  go_wp2_with fail
  go_loopw [5, 12] (fun v i wr => ∃ k : Nat, k ≤ n ∧ v = .int .i64 (numL (p.take k)) ∧ i = .int .i64 k ∧ wr = w1) (fun _ i _ => n - (intOf i).toNat)
  case atStart => exact ⟨0, Nat.zero_le _, rfl, rfl, rfl⟩
  case round =>
    obtain ⟨k, hk, rfl, rfl, rfl⟩ := hrel
    by_cases hlt2 : k < n
    · obtain ⟨g, off, rfl, hg, hc⟩ := hb1.2.resolve_left (by rintro ⟨_, h0⟩; have := hb1.1; omega)
      have hck := hc k (by omega)
      have hsn : numL (p.take (k + 1)) = numL (p.take k) * 256 + p[k].toNat := by
        rw [List.take_add_one, List.getElem?_eq_getElem (by omega)]
        exact numL_snoc _ _
      have hnl := numL_lt (p.take k)
      have hpw : 256 ^ (p.take k).length ≤ 256 ^ 2 := Nat.pow_le_pow_right (by decide) (by rw [List.length_take]; omega)
      have hob := or_byte (numL (p.take k)) p[k].toNat (by omega) p[k].toNat_lt
      rw [← hsn] at hob
      have Hob := Lib.hid hob
      clear hsn hob hpw
      go_wp2_with fail
      go_roundw
      case rel => exact ⟨k + 1, by omega, by rw [Hob.out], by go_num, trivial⟩
      case measure => simp [intOf]; omega
    · obtain rfl : k = n := by omega
      have hp : p.take k = p := List.take_of_length_le (by omega)
      rw [hp, ← Hpe.out]
      go_wp2
      go_ret
      exact ⟨rfl, hr1, hm1⟩
end Go.Proofs.YtpncahklapfoaaaDoor
