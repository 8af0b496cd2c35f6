/- The function Flags of package rule: what it returns for every list. -/
import Derived.Test.YtnkfgdgjjigabaaDoorTab
import Derived.Test.YtnkfgdgjjigabaaDoorPick
import Derived.Test.YtnkfgdgjjigabaaDoorShelf
import Derived.Shelf.Slices.Turned
namespace Go.Proofs.YtnkfgdgjjigabaaDoor
open Go.RowKit

/-- The names of flags, by their bits. -/
def namesL : List (List UInt8) := [[92, 83, 101, 101, 110], [92, 65, 110, 115, 119, 101, 114, 101, 100], [92, 70, 108, 97, 103, 103, 101, 100], [92, 68, 101, 108, 101, 116, 101, 100], [92, 68, 114, 97, 102, 116]]
def namesB : List ByteArray := namesL.map fun l => ⟨l.toArray⟩
/-- What Flags returns. -/
def flagsF : Nat → List ByteArray → Nat × Nat
  | a, [] => (a, 0)
  | a, s :: l => if Lib.idxOfS namesB s < 0 then (0, 7) else flagsF (a ||| 2 ^ (Lib.idxOfS namesB s).toNat) l
theorem idxOfS_ge (s : ByteArray) (h : ¬ Lib.idxOfS namesB s < 0) : ∃ k : Nat, k < 5 ∧ Lib.idxOfS namesB s = k := by
  have h1 : s ∈ namesB := (Lib.idxOfS_nonneg_iff _ _).1 (by omega)
  simp only [namesB, namesL, List.map_cons, List.map_nil, List.mem_cons, List.mem_nil_iff, or_false] at h1
  rcases h1 with rfl | rfl | rfl | rfl | rfl
  · exact ⟨0, by decide, by decide⟩
  · exact ⟨1, by decide, by decide⟩
  · exact ⟨2, by decide, by decide⟩
  · exact ⟨3, by decide, by decide⟩
  · exact ⟨4, by decide, by decide⟩
theorem or_lt32 (a k : Nat) (ha : a < 32) (hk : k < 5) : a ||| 2 ^ k < 32 :=
  Nat.or_lt_two_pow (n := 5) ha (Nat.pow_lt_pow_right (by decide) hk)
theorem or_bits (a q : Nat) (ha : a < 32) (hq : q < 5) : bits BinOp.or IntKind.i64 (a : Int) (wrap64 (2 ^ q)) = ((a ||| 2 ^ q : Nat) : Int) := by
  have h : ∀ x : Fin 32, ∀ y : Fin 5, bits BinOp.or IntKind.i64 ((x.val : Nat) : Int) (wrap64 (2 ^ y.val)) = ((x.val ||| 2 ^ y.val : Nat) : Int) := by decide +kernel
  exact h ⟨a, ha⟩ ⟨q, hq⟩
/-- The cells of the table of names. -/
def NamesAt (w : World) : Prop := ∀ i, i < namesB.length → w.cell? ⟨0, 0 + i, none⟩ = some (.string (namesB.getD i ByteArray.empty))
theorem cell_after {w w' : World} {a : Addr} {v : Value} (hb : Below w.heap.size w w') (h : w.cell? a = some v) : w'.cell? a = some v := by
  obtain ⟨o, ho, _⟩ := cells_of_cell h
  exact (hb.cell (p := a) (Array.getElem?_eq_some_iff.1 ho).1).trans h
theorem NamesAt.later {w w' : World} (hb : Below w.heap.size w w') (h : NamesAt w) : NamesAt w' := fun i hi => cell_after hb (h i hi)

set_option maxRecDepth 100000 in
set_option maxHeartbeats 1000000 in
theorem flags_calls (b off c : Nat) (zs : List ByteArray) (w : World) (hbig : zs.length ≤ 9223372036854775807) (hN : NamesAt w) (hc : ∀ j, j < zs.length → w.cell? ⟨b, off + j, none⟩ = some (.string (zs.getD j ByteArray.empty))) :
    Calls Tryd.prog 8 #[.slice (some ⟨b, off, none⟩) zs.length c] w fun e w' => e = .returned (.tuple #[.int .i64 (flagsF 0 zs).1, .int .i64 (flagsF 0 zs).2]) ∧ w' = w := by
  go_enter Tryd.func8, Tryd.ntmps8
  go_wp2_with fail
  go_loopw [2, 3, 4, 10] (fun r s v i wr => ∃ k a : Nat, k ≤ zs.length ∧ r = .int .i64 0 ∧ s = .int .i64 0 ∧ i = .int .i64 k ∧ v = .int .i64 a ∧ a < 32 ∧ flagsF a (zs.drop k) = flagsF 0 zs ∧ wr = w) (fun _ _ _ i _ => zs.length - (intOf i).toNat)
  case atStart => exact ⟨0, 0, Nat.zero_le _, rfl, rfl, rfl, rfl, by decide, rfl, rfl⟩
  case round =>
    obtain ⟨k, a, hk, rfl, rfl, rfl, rfl, ha, hf, rfl⟩ := hrel
    by_cases hlt : k < zs.length
    · have ck := hc k hlt
      generalize hy : zs.getD k ByteArray.empty = y at ck
      have hd : zs.drop k = y :: zs.drop (k + 1) := by
        rw [List.drop_eq_getElem_cons hlt, ← hy, List.getD_eq_getElem?_getD, List.getElem?_eq_getElem hlt, Option.getD_some]
      rw [hd] at hf
      clear hd hy hc
      by_cases hneg : Lib.idxOfS namesB y < 0
      · have hf2 : flagsF 0 zs = (0, 7) := by rw [← hf, flagsF, if_pos hneg]
        have Hf := Lib.hid hf2
        clear hf hf2
        go_wp2_with fail
        refine (Tryd.slices_Index_string 0 0 5 5 namesB y _ (by decide) (by decide) hN).mono ?_
        rintro e w' ⟨rfl, rfl⟩
        rw [show namesB.take 5 = namesB from rfl]
        go_wp2
        go_ret2
        exact ⟨by rw [Hf.out]; rfl, rfl⟩
      · obtain ⟨q, hq5, hq⟩ := idxOfS_ge y hneg
        have hf2 : flagsF (a ||| 2 ^ q) (zs.drop (k + 1)) = flagsF 0 zs := by
          rw [← hf, flagsF, if_neg hneg, hq]; rfl
        have hlt2 := or_lt32 a q ha hq5
        have Hf := Lib.hid hf2
        have Hl := Lib.hid hlt2
        clear hf hf2 hlt2 hneg
        go_wp2_with fail
        refine (Tryd.slices_Index_string 0 0 5 5 namesB y _ (by decide) (by decide) hN).mono ?_
        rintro e w' ⟨rfl, rfl⟩
        rw [show namesB.take 5 = namesB from rfl, hq]
        go_wp2
        go_roundw
        case rel => exact ⟨k + 1, a ||| 2 ^ q, by omega, rfl, rfl, by go_num, by rw [or_bits a q ha hq5], Hl.out, Hf.out, trivial⟩
        case measure => simp [intOf]; omega
    · have hf2 : flagsF a [] = flagsF 0 zs := by rw [← hf, List.drop_of_length_le (by omega)]
      have Hf := Lib.hid hf2
      clear hf hf2 hc
      go_wp2
      go_ret2
      exact ⟨by rw [← Hf.out]; rfl, rfl⟩

set_option maxHeartbeats 1000000 in
theorem flags_calls0 (A : Option Addr) (c : Nat) (w : World) :
    Calls Tryd.prog 8 #[.slice A 0 c] w fun e w' => e = .returned (.tuple #[.int .i64 0, .int .i64 0]) ∧ w' = w := by
  go_enter Tryd.func8, Tryd.ntmps8
  go_wp2_with fail
  go_loopw [2, 3, 4, 10] (fun r s v i wr => r = .int .i64 0 ∧ s = .int .i64 0 ∧ v = .int .i64 0 ∧ i = .int .i64 0 ∧ wr = w) (fun _ _ _ _ _ => 0)
  case atStart => exact ⟨rfl, rfl, rfl, rfl, rfl⟩
  case round =>
    obtain ⟨rfl, rfl, rfl, rfl, rfl⟩ := hrel
    go_wp2
    go_ret2
    exact ⟨rfl, rfl⟩
/-- A list of strings in memory. -/
def StrsAt (w : World) (A : Option Addr) (zs : List ByteArray) : Prop := zs = [] ∨ ∃ b off, A = some ⟨b, off, none⟩ ∧ ∀ j, j < zs.length → w.cell? ⟨b, off + j, none⟩ = some (.string (zs.getD j ByteArray.empty))
theorem StrsAt.later {w w' : World} {A : Option Addr} {zs : List ByteArray} (hb : Below w.heap.size w w') (h : StrsAt w A zs) : StrsAt w' A zs := by
  rcases h with h | ⟨b, off, e, h⟩
  · exact .inl h
  · exact .inr ⟨b, off, e, fun j hj => cell_after hb (h j hj)⟩
theorem flags_any (A : Option Addr) (c : Nat) (zs : List ByteArray) (w : World) (hbig : zs.length ≤ 9223372036854775807) (hN : NamesAt w) (hA : StrsAt w A zs) :
    Calls Tryd.prog 8 #[.slice A zs.length c] w fun e w' => e = .returned (.tuple #[.int .i64 (flagsF 0 zs).1, .int .i64 (flagsF 0 zs).2]) ∧ w' = w := by
  rcases hA with rfl | ⟨b, off, rfl, hc⟩
  · exact flags_calls0 A c w
  · exact flags_calls b off c zs w hbig hN hc
end Go.Proofs.YtnkfgdgjjigabaaDoor
