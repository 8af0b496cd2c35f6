/- Two stars are one, and great letters are small ones: for every three strings. -/
import Derived.Test.YtnkfgdgjjigabaaGlobVal
namespace Go.Proofs.Ytnkfgdgjjigabaa
open Go.RowKit

set_option maxRecDepth 100000 in
set_option maxHeartbeats 2000000 in
theorem matchStars_walk (s p q : ByteArray) (w : World) (hs : s.size ≤ 9223372036854775807) (hp : p.size ≤ 9223372036854775807) (hq : q.size ≤ 9223372036854775807) :
    Calls Try.prog 9 #[.string s, .string p, .string q] w fun e w' => e = .returned (.bool true) ∧ Below w.heap.size w w' := by
  have hb0 := Below.refl w.heap.size w
  go_enter Try.func9, Try.ntmps9
  go_wp2_with fail
  refine (cut_calls s 60 (by omega) hs _).mono ?_
  rintro e w9 ⟨rfl, rfl⟩
  have ht : (cutS s 60).size ≤ 60 := cutS_size s 60
  rw [show (60 : Int).toNat = 60 from rfl]
  generalize cutS s 60 = t at *
  go_wp2_with fail
  refine (cut_calls p 15 (by omega) hp _).mono ?_
  rintro e w9 ⟨rfl, rfl⟩
  have hx : (cutS p 15).size ≤ 15 := cutS_size p 15
  rw [show (15 : Int).toNat = 15 from rfl]
  generalize cutS p 15 = x at *
  go_wp2_with fail
  refine (masked_calls x (by omega) _).mono ?_
  rintro e w9 ⟨rfl, hb9⟩
  have hb := hb0.trans (hb9.mono hb0.size)
  clear hb0 hb9
  have hb0 := hb
  clear hb
  go_wp2_with fail
  refine (cut_calls q 15 (by omega) hq _).mono ?_
  rintro e w9 ⟨rfl, rfl⟩
  have hy : (cutS q 15).size ≤ 15 := cutS_size q 15
  rw [show (15 : Int).toNat = 15 from rfl]
  generalize cutS q 15 = y at *
  go_wp2_with fail
  refine (masked_calls y (by omega) _).mono ?_
  rintro e w9 ⟨rfl, hb9⟩
  have hb := hb0.trans (hb9.mono hb0.size)
  clear hb0 hb9
  have hb0 := hb
  clear hb
  have h1 : (mkS (maskL (bs x))).size + 1 ≤ 31 := by rw [mask_size]; omega
  have h2 : (mkS (maskL (bs x)) ++ mkS [42]).size + (mkS (maskL (bs y))).size ≤ 61 := by rw [append_size, mask_size, mask_size, mkS_size]; simp; omega
  have h3 : (mkS (maskL (bs x))).size + 2 ≤ 32 := by rw [mask_size]; omega
  have h4 : (mkS (maskL (bs x)) ++ mkS [42, 42]).size + (mkS (maskL (bs y))).size ≤ 62 := by rw [append_size, mask_size, mask_size, mkS_size]; simp; omega
  have e1 : mt (foldL (bs t)) (piecesL (foldL (bs (mkS (maskL (bs x)) ++ mkS [42] ++ mkS (maskL (bs y)))))) = mt (foldL (bs t)) ((foldL (bs x)).map lit ++ (star :: (foldL (bs y)).map lit)) := by
    rw [bs_append, bs_append, bs_mkS, bs_mkS, bs_mkS, foldL_append, foldL_append, foldL_mask, foldL_mask, List.append_assoc, pieces_mask]
    show mt _ (_ ++ piecesL (42 :: maskL (foldL (bs y)))) = _
    rw [pieces_star, pieces_mask0]
  have e2 : mt (foldL (bs t)) (piecesL (foldL (bs (mkS (maskL (bs x)) ++ mkS [42, 42] ++ mkS (maskL (bs y)))))) = mt (foldL (bs t)) ((foldL (bs x)).map lit ++ (star :: (foldL (bs y)).map lit)) := by
    rw [bs_append, bs_append, bs_mkS, bs_mkS, bs_mkS, foldL_append, foldL_append, foldL_mask, foldL_mask, List.append_assoc, pieces_mask]
    show mt _ (_ ++ piecesL (42 :: 42 :: maskL (foldL (bs y)))) = _
    rw [pieces_star, pieces_star, pieces_mask0]
    exact mt_lits_congr _ _ _ (fun s => mt_stars s _) _
  generalize mt (foldL (bs t)) ((foldL (bs x)).map lit ++ (star :: (foldL (bs y)).map lit)) = v at *
  have E1 := Lib.hid e1
  have E2 := Lib.hid e2
  clear e1 e2
  have h5 : 3 + t.size ≤ 63 := by omega
  have h6 : (decide ((90 : Int) < (t.size : Int))) = false := by simp; omega
  go_wp2_with fail
  refine (match_glob_val t (mkS (maskL (bs x)) ++ mkS [42] ++ mkS (maskL (bs y))) _ (by omega) (by rw [append_size]; omega) v E1.out).mono ?_
  rintro e w9 ⟨rfl, hb9⟩
  have hb := hb0.trans (hb9.mono hb0.size)
  clear hb0 hb9
  have hb0 := hb
  clear hb
  go_wp2_with fail
  refine (match_glob_val t (mkS (maskL (bs x)) ++ mkS [42, 42] ++ mkS (maskL (bs y))) _ (by omega) (by rw [append_size]; omega) v E2.out).mono ?_
  rintro e w9 ⟨rfl, hb9⟩
  have hb := hb0.trans (hb9.mono hb0.size)
  clear hb0 hb9
  have hb0 := hb
  clear hb
  go_wp2_with fail
  refine (match_is_val (mkS [97, 66, 99] ++ t) (mkS [65, 98, 67] ++ t) _ (by rw [append_size, mkS_size]; simp; omega) (by rw [append_size, mkS_size]; simp; omega) (by rw [bs_append, bs_append, foldL_append, foldL_append]; rfl)).mono ?_
  rintro e w9 ⟨rfl, hb9⟩
  have hb := hb0.trans (hb9.mono hb0.size)
  clear hb0 hb9
  have hb0 := hb
  clear hb
  cases v <;> (go_wp2; go_ret; exact ⟨rfl, hb0⟩)
end Go.Proofs.Ytnkfgdgjjigabaa
