/- What is folded is folded once, and a text is the same as its folding: for every string. -/
import Derived.Test.YtnkfgdgjjigabaaGlobVal
namespace Go.Proofs.Ytnkfgdgjjigabaa
open Go.RowKit

set_option maxHeartbeats 1000000 in
theorem Fold_calls (s : ByteArray) (w : World) (hs : s.size ≤ 2000) :
    Calls Try.prog 16 #[.string s] w fun e w' => e = .returned (.tuple #[.string (foldB s), .int .i64 0]) ∧ Below w.heap.size w w' := by
  go_enter Try.func16, Try.ntmps16
  go_wp2_with fail
  refine (fold_calls s _ (by omega)).mono ?_
  rintro e w1 ⟨rfl, hb1⟩
  go_wp2
  go_ret2
  exact ⟨rfl, hb1⟩

set_option maxRecDepth 100000 in
set_option maxHeartbeats 2000000 in
theorem foldTwice_walk (s : ByteArray) (w : World) (hs : s.size ≤ 9223372036854775807) :
    Calls Try.prog 10 #[.string s] w fun e w' => e = .returned (.bool true) ∧ Below w.heap.size w w' := by
  have hb0 := Below.refl w.heap.size w
  go_enter Try.func10, Try.ntmps10
  go_wp2_with fail
  refine (cut_calls s 90 (by omega) hs _).mono ?_
  rintro e w9 ⟨rfl, rfl⟩
  have ht : (cutS s 90).size ≤ 90 := cutS_size s 90
  rw [show (90 : Int).toNat = 90 from rfl]
  generalize cutS s 90 = t at *
  have hf : (foldB t).size = t.size := foldB_size t
  have hff : foldB (foldB t) = foldB t := by rw [foldB_eq (foldB t), bs_foldB, foldL_twice]; rfl
  go_wp2_with fail
  refine (Fold_calls t _ (by omega)).mono ?_
  rintro e w9 ⟨rfl, hb9⟩
  have hb := hb0.trans (hb9.mono hb0.size)
  clear hb0 hb9
  have hb0 := hb
  clear hb
  go_wp2_with fail
  refine (Fold_calls (foldB t) _ (by omega)).mono ?_
  rw [hff]
  rintro e w9 ⟨rfl, hb9⟩
  have hb := hb0.trans (hb9.mono hb0.size)
  clear hb0 hb9
  have hb0 := hb
  clear hb
  go_wp2_with fail
  refine (match_is_val t (foldB t) _ (by omega) (by omega) (by rw [bs_foldB, foldL_twice])).mono ?_
  rintro e w9 ⟨rfl, hb9⟩
  have hb := hb0.trans (hb9.mono hb0.size)
  clear hb0 hb9
  have hb0 := hb
  clear hb
  have hl : ((foldB t).size : Int) = (t.size : Int) := by rw [hf]
  clear hf hff
  go_wp2
  go_ret
  exact ⟨rfl, hb0⟩
end Go.Proofs.Ytnkfgdgjjigabaa
