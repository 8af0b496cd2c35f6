/- A text matches itself, with each byte behind a backslash, and no longer one does: for every string and every byte. -/
import Derived.Test.YtnkfgdgjjigabaaGlobVal
namespace Go.Proofs.Ytnkfgdgjjigabaa
open Go.RowKit

set_option maxRecDepth 100000 in
set_option maxHeartbeats 2000000 in
theorem matchSelf_walk (s : ByteArray) (c : UInt8) (w : World) (hs : s.size ≤ 9223372036854775807) :
    Calls Try.prog 4 #[.string s, .int .u8 c.toNat] w fun e w' => e = .returned (.bool true) ∧ Below w.heap.size w w' := by
  have hc := fun W => conv_one (P := Try.prog) Try.underlying23 Try.underlying5 Try.underlying9 W c
  have hb0 := Below.refl w.heap.size w
  go_enter Try.func4, Try.ntmps4
  go_wp2_with fail
  refine (cut_calls s 45 (by omega) hs _).mono ?_
  rintro e w9 ⟨rfl, rfl⟩
  have ht : (cutS s 45).size ≤ 45 := cutS_size s 45
  rw [show (45 : Int).toNat = 45 from rfl]
  generalize cutS s 45 = t at *
  go_wp2_with fail
  refine (masked_calls t (by omega) _).mono ?_
  rintro e w9 ⟨rfl, hb9⟩
  have hb := hb0.trans (hb9.mono hb0.size)
  clear hb0 hb9
  have hb0 := hb
  clear hb
  go_wp2_with fail
  refine (match_glob_val t (mkS (maskL (bs t))) _ (by omega) (by rw [mask_size]; omega) true (by rw [bs_mkS, foldL_mask, pieces_mask0, mt_self])).mono ?_
  rintro e w9 ⟨rfl, hb9⟩
  have hb := hb0.trans (hb9.mono hb0.size)
  clear hb0 hb9
  have hb0 := hb
  clear hb
  have hsz : t.size + (mkS [c]).size ≤ 46 := by rw [mkS_size]; simp; omega
  have hal := hb0.alloc hb0.size (.cells #[.int .u8 c.toNat] 5)
  go_wp2_with fail
  refine (match_glob_val (t ++ mkS [c]) (mkS (maskL (bs t))) _ (by rw [append_size]; omega) (by rw [mask_size]; omega) false (by rw [bs_append, bs_mkS, bs_mkS, foldL_append, foldL_mask, pieces_mask0]; exact mt_longer _ _)).mono ?_
  rintro e w9 ⟨rfl, hb9⟩
  have hb := hal.trans (hb9.mono hal.size)
  clear hb0 hb9 hal
  go_wp2
  go_ret
  exact ⟨rfl, hb⟩
end Go.Proofs.Ytnkfgdgjjigabaa
