/- A question mark stands for just one byte: for every string and every byte. -/
import Derived.Test.YtnkfgdgjjigabaaGlobVal
import Derived.Deep.RegionWith
namespace Go.Proofs.Ytnkfgdgjjigabaa
open Go.RowKit

set_option maxRecDepth 100000 in
set_option maxHeartbeats 2000000 in
theorem matchOne_walk (s : ByteArray) (c : UInt8) (w : World) (hs : s.size ≤ 9223372036854775807) :
    Calls Try.prog 8 #[.string s, .int .u8 c.toNat] w fun e w' => e = .returned (.bool true) ∧ Below w.heap.size w w' := by
  have hc := fun W => conv_one (P := Try.prog) Try.underlying23 Try.underlying5 Try.underlying9 W c
  have hcd := fun W => conv_one_drew (P := Try.prog) Try.underlying23 Try.underlying5 Try.underlying9 W c
  have hb0 := Below.refl w.heap.size w
  go_enter Try.func8, Try.ntmps8
  go_wp2_with fail
  refine (cut_calls s 30 (by omega) hs _).mono ?_
  rintro e w9 ⟨rfl, rfl⟩
  have ht : (cutS s 30).size ≤ 30 := cutS_size s 30
  rw [show (30 : Int).toNat = 30 from rfl]
  generalize cutS s 30 = t at *
  have h1 : t.size + (mkS [c]).size ≤ 31 := by rw [mkS_size]; simp; omega
  have h2 : (mkS (maskL (bs t))).size + 1 ≤ 61 := by rw [mask_size]; omega
  have e1 : mt (foldL (bs (t ++ mkS [c]))) (piecesL (foldL (bs (mkS (maskL (bs t)) ++ mkS [63])))) = true := by
    rw [bs_append, bs_append, bs_mkS, bs_mkS, bs_mkS, foldL_append, foldL_append, foldL_mask, pieces_mask]
    exact mt_any _ _
  have e2 : mt (foldL (bs t)) (piecesL (foldL (bs (mkS (maskL (bs t)) ++ mkS [63])))) = false := by
    rw [bs_append, bs_mkS, bs_mkS, foldL_append, foldL_mask, pieces_mask]
    exact mt_any_no _
  have z1 : (t ++ mkS [c]).size ≤ 2000 := by rw [append_size]; omega
  have z2 : (mkS (maskL (bs t)) ++ mkS [63]).size ≤ 100 := by rw [append_size, mkS_size [63]]; simp; omega
  have E1 := Lib.hid e1
  have E2 := Lib.hid e2
  clear e1 e2
  go_wp2_with fail
  go_region_with (first
    | (go_at_call 14; refine (masked_calls t (by omega) _).mono ?_; rintro e w9 ⟨rfl, hb9⟩; (try (have hcv := conv_after Try.underlying23 Try.underlying5 Try.underlying9 hb9)); (first | have hm := ((Below.refl w.heap.size w).drew).trans (hb9.mono (by simp)) | have hm := (((Below.refl w.heap.size w).alloc (Nat.le_refl _) _).drew).trans (hb9.mono (by simp))); clear hb9)
    | (go_at_call 15; refine (match_glob_val (t ++ mkS [c]) (mkS (maskL (bs t)) ++ mkS [63]) _ z1 z2 true E1.out).mono ?_; rintro e w9 ⟨rfl, hb9⟩; (first | have hm2 := hm.trans (hb9.mono hm.size) | have hm2 := (hm.alloc hm.size _).trans (hb9.mono (by have := hm.size; simp; omega))); clear hb9))
  all_goals
    clear hb0
    have hb0 := hm2
    clear hm hm2 hc hcd
    go_wp2_with fail
    refine (masked_calls t (by omega) _).mono ?_
    rintro e w9 ⟨rfl, hb9⟩
    have hb := hb0.trans (hb9.mono hb0.size)
    clear hb0 hb9
    go_wp2_with fail
    refine (match_glob_val t (mkS (maskL (bs t)) ++ mkS [63]) _ (by omega) z2 false E2.out).mono ?_
    rintro e w9 ⟨rfl, hb9⟩
    have hb0 := hb.trans (hb9.mono hb.size)
    clear hb hb9
    go_wp2_with fail
    refine (match_kind 0 t t _ (.inl (by omega))).mono ?_
    rintro e w9 ⟨rfl, hb9⟩
    have hb := hb0.trans (hb9.mono hb0.size)
    clear hb0 hb9
    go_wp2
    go_ret
    exact ⟨rfl, hb⟩
end Go.Proofs.Ytnkfgdgjjigabaa
