/- The helper entriesOf of the statements: what it returns. -/
import Derived.Test.YtpncahklapfoaaaDoorEntr
import Derived.Test.YtpncahklapfoaaaDoorStMem
import Derived.Maps.AppendAt
import Derived.Deep.QuietTactic
import Derived.BigQuiet
namespace Go.Proofs.YtpncahklapfoaaaDoor
open Go.RowKit
set_option linter.unusedVariables false

set_option maxRecDepth 100000 in
set_option maxHeartbeats 2000000 in
theorem entriesOf_calls (x : List Chr) (A : Option Addr) (c m : Nat) (w : World) (hx : x.length ≤ 9223372036854775807) (hA : kChr.Row w A x) (hm : m ≤ 1000) :
    Calls Tryd.prog 27 #[.slice A x.length c, .int .i64 m] w fun e w' => ∃ v, e = .returned v ∧ w'.ownsRow w.heap.size 63 6 v (entsC x m).length (entsCells (entsC x m)) ∧ Below w.heap.size w w' := by
  obtain ⟨i0, hi, hz0, hz1, hz2⟩ := info_parts info_ent
  go_enter Tryd.func27, Tryd.ntmps27
  go_wp2_with fail
  go_loopw [5, 6] (fun v i wr => ∃ k : Nat, k ≤ x.length ∧ k ≤ m ∧ i = .int .i64 k ∧ wr.ownsRow w.heap.size 63 6 v (entsC x k).length (entsCells (entsC x k)) ∧ Below w.heap.size w wr) (fun _ i _ => m - (intOf i).toNat)
  case atStart => exact ⟨0, Nat.zero_le _, Nat.zero_le _, rfl, World.ownsRow_nil _ _ _ _, Below.refl _ _⟩
  case round =>
    obtain ⟨k, hk, hkm, rfl, hrow, hb⟩ := hrel
    by_cases hlt : k < x.length ∧ k < m
    · obtain ⟨hlt1, hlt2⟩ := hlt
      obtain ⟨lb, lo, rfl, cs, hkk, hcs⟩ := (hA.later (w' := wr) hb).get k hlt1
      obtain ⟨rfl, q0, q1, q2, q3, q4, q5⟩ := kChr_cells hkk
      unfold maxLen at q0
      have c0 := hcs 0 _ rfl
      have c1 := hcs 1 _ rfl
      have c2 := hcs 2 _ rfl
      have c3 := hcs 3 _ rfl
      have c4 := hcs 4 _ rfl
      have c5 := hcs 5 _ rfl
      rw [show lo + (k * kChr.sz + 0) = lo + k * 6 from rfl] at c0
      rw [show lo + (k * kChr.sz + 1) = lo + k * 6 + 1 from rfl] at c1
      rw [show lo + (k * kChr.sz + 2) = lo + k * 6 + 2 from rfl] at c2
      rw [show lo + (k * kChr.sz + 3) = lo + k * 6 + 3 from rfl] at c3
      rw [show lo + (k * kChr.sz + 4) = lo + k * 6 + 4 from rfl] at c4
      rw [show lo + (k * kChr.sz + 5) = lo + k * 6 + 5 from rfl] at c5
      have hnew : entsC x (k + 1) = entsC x k ++ [entC x[k]] := by
        unfold entsC
        rw [List.take_succ_eq_append_getElem hlt1, List.map_append]; rfl
      have hfl := entsC_len x k
      generalize x[k] = z at *
      generalize entsC x k = fs at *
      have hec := entry_calls z wr q1 q2 q3 q4 q5 (by omega)
      have Hec := Lib.hid hec
      have Hnew := Lib.hid hnew
      clear hnew hec hcs hkk q1 q2 q3 q4 q5
      generalize entC z = en at *
      obtain ⟨k', b', u', f', d', t'⟩ := en
      have hk0 : (0 : Int) ≤ (k : Int) := by omega
      have hkn : (k : Int) < (x.length : Int) := by omega
      have hkm2 : (k : Int) < (m : Int) := by omega
      go_wp2_with fail
      refine Hec.out.mono ?_
      rintro e w1 ⟨rfl, hb1⟩
      have hrow1 := row_later hb1 hrow
      have hb2 := hb.trans (hb1.mono hb.size)
      clear hrow hb1 Hec c0 c1 c2 c3 c4 c5
      unfold entVal
      have hrow2 := hrow1.alloc (.cells #[.int .i64 k', .string b', .int .i64 u', .int .i64 f', .string d', .string t'] 63)
      have hb3 := hb2.alloc hb2.size (.cells #[.int .i64 k', .string b', .int .i64 u', .int .i64 f', .string d', .string t'] 63)
      have hX : Bk (w1.alloc (.cells #[.int .i64 k', .string b', .int .i64 u', .int .i64 f', .string d', .string t'] 63)) w1.heap.size [.int .i64 k', .string b', .int .i64 u', .int .i64 f', .string d', .string t'] 63 := Bk.new _ _ _
      have x0 := hX.cell 0 _ rfl
      have x1 := hX.cell 1 _ rfl
      have x2 := hX.cell 2 _ rfl
      have x3 := hX.cell 3 _ rfl
      have x4 := hX.cell 4 _ rfl
      have x5 := hX.cell 5 _ rfl
      go_upto_region 6 with fail
      generalize w1.alloc (.cells #[.int .i64 k', .string b', .int .i64 u', .int .i64 f', .string d', .string t'] 63) = w2 at *
      have hnw := new_cells w2 [.int .i64 k', .string b', .int .i64 u', .int .i64 f', .string d', .string t'] 63
      have hs2 := hb3.size
      go_wp2_with (at_builtin; refine wpList_append_own _ rfl _ _ 23 rfl w.heap.size 63 i0 (.agg #[.int .i64 0, .string ⟨#[]⟩, .int .i64 0, .int .i64 0, .string ⟨#[]⟩, .string ⟨#[]⟩]) 6 72 Tryd.underlying23 hi hz0 hz1 hz2 rfl (by decide) _ _ _ rfl (hrow2.alloc _) ⟨w2.heap.size, 0, none⟩ 1 1 [.int .i64 k', .string b', .int .i64 u', .int .i64 f', .string d', .string t'] rfl rfl hnw (by simp [Value.oneCell']) (by unfold maxLen; omega) (by omega) (by simp; omega) ?_; intro v' w3 hown' hgrow _; have hb4 := below_append hb3 hs2 hrow2 hgrow; clear hgrow hnw)
      go_roundw
      case rel => exact ⟨k + 1, by omega, by omega, by go_num, by rw [Hnew.out, entsCells_append, List.length_append]; exact hown', hb4⟩
      case measure => simp [intOf]; omega
    · have he : entsC x k = entsC x m := by
        unfold entsC
        by_cases h8 : k = m
        · rw [h8]
        · rw [List.take_of_length_le (show x.length ≤ k by omega), List.take_of_length_le (show x.length ≤ m by omega)]
      have hcase : x.length ≤ k ∨ m ≤ k := by omega
      rw [he] at hrow
      clear hlt he
      by_cases h1 : k < x.length
      · have hkn : (k : Int) < (x.length : Int) := by omega
        obtain rfl : k = m := by omega
        clear hcase
        go_wp2
        go_ret
        exact ⟨_, rfl, hrow, hb⟩
      · obtain rfl : k = x.length := by omega
        clear hcase
        go_wp2
        go_ret
        exact ⟨_, rfl, hrow, hb⟩
end Go.Proofs.YtpncahklapfoaaaDoor
