/- A star stands for anything, alone, and ahead of, behind, and between what is said: for every three strings. -/
import Derived.Test.YtnkfgdgjjigabaaGlobVal
namespace Go.Proofs.Ytnkfgdgjjigabaa
open Go.RowKit

set_option maxRecDepth 100000 in
set_option maxHeartbeats 2000000 in
theorem matchStar_walk (s t u : ByteArray) (w : World) (hs : s.size ≤ 9223372036854775807) (ht : t.size ≤ 9223372036854775807) (hu : u.size ≤ 9223372036854775807) :
    Calls Try.prog 5 #[.string s, .string t, .string u] w fun e w' => e = .returned (.bool true) ∧ Below w.heap.size w w' := by
  have hb0 := Below.refl w.heap.size w
  go_enter Try.func5, Try.ntmps5
  go_wp2_with fail
  refine (cut_calls s 20 (by omega) hs _).mono ?_
  rintro e w9 ⟨rfl, rfl⟩
  have ha : (cutS s 20).size ≤ 20 := cutS_size s 20
  rw [show (20 : Int).toNat = 20 from rfl]
  generalize cutS s 20 = a at *
  go_wp2_with fail
  refine (cut_calls t 20 (by omega) ht _).mono ?_
  rintro e w9 ⟨rfl, rfl⟩
  have hb : (cutS t 20).size ≤ 20 := cutS_size t 20
  rw [show (20 : Int).toNat = 20 from rfl]
  generalize cutS t 20 = b at *
  go_wp2_with fail
  refine (cut_calls u 20 (by omega) hu _).mono ?_
  rintro e w9 ⟨rfl, rfl⟩
  have hc : (cutS u 20).size ≤ 20 := cutS_size u 20
  rw [show (20 : Int).toNat = 20 from rfl]
  generalize cutS u 20 = c at *
  go_wp2_with fail
  refine (match_glob_val a (mkS [42]) _ (by omega) (by rw [mkS_size]; decide) true (by show mt _ (piecesL [42]) = true; exact mt_star_all _)).mono ?_
  rintro e w9 ⟨rfl, hb9⟩
  have hb := hb0.trans (hb9.mono hb0.size)
  clear hb0 hb9
  have hb0 := hb
  clear hb
  have h1 : a.size + b.size ≤ 40 := by omega
  have h2 : (mkS (maskL (bs a))).size + 1 ≤ 41 := by rw [mask_size]; omega
  go_wp2_with fail
  refine (masked_calls a (by omega) _).mono ?_
  rintro e w9 ⟨rfl, hb9⟩
  have hb := hb0.trans (hb9.mono hb0.size)
  clear hb0 hb9
  have hb0 := hb
  clear hb
  go_wp2_with fail
  refine (match_glob_val (a ++ b) (mkS (maskL (bs a)) ++ mkS [42]) _ (by rw [append_size]; omega) (by rw [append_size, mask_size, mkS_size]; simp; omega) true (by rw [bs_append, bs_append, bs_mkS, bs_mkS, foldL_append, foldL_append, foldL_mask, pieces_mask]; exact (mt_lits _ _ _).trans (mt_star_all _))).mono ?_
  rintro e w9 ⟨rfl, hb9⟩
  have hb := hb0.trans (hb9.mono hb0.size)
  clear hb0 hb9
  have hb0 := hb
  clear hb
  have h3 : 1 + (mkS (maskL (bs b))).size ≤ 41 := by rw [mask_size]; omega
  go_wp2_with fail
  refine (masked_calls b (by omega) _).mono ?_
  rintro e w9 ⟨rfl, hb9⟩
  have hb := hb0.trans (hb9.mono hb0.size)
  clear hb0 hb9
  have hb0 := hb
  clear hb
  go_wp2_with fail
  refine (match_glob_val (a ++ b) (mkS [42] ++ mkS (maskL (bs b))) _ (by rw [append_size]; omega) (by rw [append_size, mask_size, mkS_size]; simp; omega) true (by rw [bs_append, bs_append, bs_mkS, bs_mkS, foldL_append, foldL_append, foldL_mask]; show mt _ (piecesL (42 :: maskL (foldL (bs b)))) = true; rw [pieces_star, pieces_mask0]; exact mt_star_back _ _ _ (mt_self _))).mono ?_
  rintro e w9 ⟨rfl, hb9⟩
  have hb := hb0.trans (hb9.mono hb0.size)
  clear hb0 hb9
  have hb0 := hb
  clear hb
  have h4 : (a ++ b).size + c.size ≤ 60 := by rw [append_size]; omega
  go_wp2_with fail
  refine (masked_calls a (by omega) _).mono ?_
  rintro e w9 ⟨rfl, hb9⟩
  have hb := hb0.trans (hb9.mono hb0.size)
  clear hb0 hb9
  have hb0 := hb
  clear hb
  go_wp2_with fail
  refine (masked_calls c (by omega) _).mono ?_
  rintro e w9 ⟨rfl, hb9⟩
  have hb := hb0.trans (hb9.mono hb0.size)
  clear hb0 hb9
  have hb0 := hb
  clear hb
  have h5 : (mkS (maskL (bs a)) ++ mkS [42]).size + (mkS (maskL (bs c))).size ≤ 81 := by rw [append_size, mask_size, mask_size, mkS_size]; simp; omega
  go_wp2_with fail
  refine (match_glob_val (a ++ b ++ c) (mkS (maskL (bs a)) ++ mkS [42] ++ mkS (maskL (bs c))) _ (by rw [append_size, append_size]; omega) (by rw [append_size]; omega) true (by rw [bs_append, bs_append, bs_append, bs_append, bs_mkS, bs_mkS, bs_mkS, foldL_append, foldL_append, foldL_append, foldL_append, foldL_mask, foldL_mask, List.append_assoc, List.append_assoc, pieces_mask, mt_lits]; show mt _ (piecesL (42 :: maskL (foldL (bs c)))) = true; rw [pieces_star, pieces_mask0]; exact mt_star_back _ _ _ (mt_self _))).mono ?_
  rintro e w9 ⟨rfl, hb9⟩
  have hb := hb0.trans (hb9.mono hb0.size)
  clear hb0 hb9
  have hb0 := hb
  clear hb
  go_wp2_with fail
  refine (match_glob_val (mkS []) (mkS [63]) _ (by rw [mkS_size]; decide) (by rw [mkS_size]; decide) false (by show mt [] (piecesL [63]) = false; decide +kernel)).mono ?_
  rintro e w9 ⟨rfl, hb9⟩
  have hb := hb0.trans (hb9.mono hb0.size)
  clear hb0 hb9
  have hb0 := hb
  clear hb
  go_wp2
  go_ret
  exact ⟨rfl, hb0⟩
end Go.Proofs.Ytnkfgdgjjigabaa
