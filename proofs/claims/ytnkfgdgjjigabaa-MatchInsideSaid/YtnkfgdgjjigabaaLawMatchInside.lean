/- Contains is a match with stars around: for every two strings. -/
import Derived.Test.YtnkfgdgjjigabaaGlobVal
import Derived.Test.YtnkfgdgjjigabaaShelf
import Derived.Lib.IndexMore
import Derived.RangeFuncOwn
namespace Go.Proofs.Ytnkfgdgjjigabaa
open Go.RowKit

theorem contains_iff (s q : List UInt8) : Lib.contains s q = true ↔ ∃ i, i ≤ s.length ∧ ∃ r, s.drop i = q ++ r := by
  have hp : ∀ i, Lib.occAt s q i = true ↔ ∃ r, s.drop i = q ++ r := by
    intro i
    unfold Lib.occAt
    rw [List.isPrefixOf_iff_prefix]
    exact ⟨fun ⟨r, h⟩ => ⟨r, h.symm⟩, fun ⟨r, h⟩ => ⟨r, h.symm⟩⟩
  unfold Lib.contains
  rw [decide_eq_true_iff]
  rcases Lib.index_spec s q with ⟨h1, h2⟩ | ⟨i, h1, h2, h3, _⟩
  · rw [h1]
    refine ⟨fun h => by omega, fun ⟨i, hi, hr⟩ => ?_⟩
    have := (hp i).2 hr
    rw [h2 i hi] at this
    cases this
  · rw [h1]
    exact ⟨fun _ => ⟨i, h2, (hp i).1 h3⟩, fun _ => by omega⟩
theorem inside_mt (s q : List UInt8) : mt s (star :: (q.map lit ++ piecesL [42])) = Lib.contains s q := by
  have e : piecesL [42] = [star] := rfl
  rw [Bool.eq_iff_iff, contains_iff, mt_star, e]
  constructor
  · rintro ⟨g, hg, h⟩
    obtain ⟨r, h1, _⟩ := (mt_lits_iff [star] q _).1 h
    exact ⟨g, hg, r, h1⟩
  · rintro ⟨g, hg, r, h⟩
    exact ⟨g, hg, (mt_lits_iff [star] q _).2 ⟨r, h, mt_star_all r⟩⟩
theorem cell_later {w w' : World} {a : Addr} {v : Value} (hb : Below w.heap.size w w') (h : w.cell? a = some v) : w'.cell? a = some v := by
  obtain ⟨o, ho, _⟩ := cells_of_cell h
  exact (hb.cell (p := a) (Array.getElem?_eq_some_iff.1 ho).1).trans h
set_option maxHeartbeats 1000000 in
theorem match_contains_val (s p : ByteArray) (m : Int) (w : World) (hs : s.size ≤ 2000) (hp : p.size ≤ 100) (hm : w.cell? ⟨0, 0, none⟩ = some (.int .i64 m)) (v : Bool) (h : Lib.contains (foldL (bs s)) (foldL (bs p)) = v) :
    Calls Try.prog 15 #[.int .i64 2, .string s, .string p] w fun e w' => e = .returned (.tuple #[.bool v, .int .i64 0]) ∧ Below w.heap.size w w' := by
  have hfs := foldB_size s
  have h' : Lib.contains (foldB s).data.toList (foldB p).data.toList = v := h
  have H := Lib.hid h'
  have Hm := Lib.hid hm
  clear h h' hm
  go_enter Try.func15, Try.ntmps15
  go_wp2_with fail
  refine (fold_calls s _ (by omega)).mono ?_
  rintro e w1 ⟨rfl, hb1⟩
  go_wp2_with fail
  refine (fold_calls p _ (by omega)).mono ?_
  rintro e w2 ⟨rfl, hb2⟩
  have hb := hb1.trans (hb2.mono hb1.size)
  go_wp2_with fail
  refine (Try.strings_Contains (foldB s) (foldB p) m _ (by omega) (cell_later hb Hm.out)).mono ?_
  rw [H.out]
  rintro e w' ⟨rfl, rfl⟩
  go_wp2
  go_ret2
  exact ⟨rfl, hb⟩

set_option maxRecDepth 100000 in
set_option maxHeartbeats 2000000 in
theorem matchInside_walk (s p : ByteArray) (m : Int) (w : World) (hs : s.size ≤ 9223372036854775807) (hp : p.size ≤ 9223372036854775807) (hm : w.cell? ⟨0, 0, none⟩ = some (.int .i64 m)) :
    Calls Try.prog 6 #[.string s, .string p] w fun e w' => e = .returned (.bool true) ∧ Below w.heap.size w w' := by
  have hb0 := Below.refl w.heap.size w
  have Hm := Lib.hid hm
  clear hm
  go_enter Try.func6, Try.ntmps6
  go_wp2_with fail
  refine (cut_calls s 200 (by omega) hs _).mono ?_
  rintro e w9 ⟨rfl, rfl⟩
  have ht : (cutS s 200).size ≤ 200 := cutS_size s 200
  rw [show (200 : Int).toNat = 200 from rfl]
  generalize cutS s 200 = t at *
  go_wp2_with fail
  refine (cut_calls p 40 (by omega) hp _).mono ?_
  rintro e w9 ⟨rfl, rfl⟩
  have hq : (cutS p 40).size ≤ 40 := cutS_size p 40
  rw [show (40 : Int).toNat = 40 from rfl]
  generalize cutS p 40 = q at *
  obtain ⟨v, f1⟩ : ∃ v, Lib.contains (foldL (bs t)) (foldL (bs q)) = v := ⟨_, rfl⟩
  have e1 : mt (foldL (bs t)) (piecesL (foldL (bs (mkS [42] ++ mkS (maskL (bs q)) ++ mkS [42])))) = v := by
    rw [bs_append, bs_append, bs_mkS, bs_mkS, foldL_append, foldL_append, foldL_mask, List.append_assoc]
    show mt _ (piecesL (42 :: (maskL (foldL (bs q)) ++ [42]))) = v
    rw [pieces_star, pieces_mask, ← f1]
    exact inside_mt _ _
  have e2 : Lib.contains (foldL (bs (t ++ q))) (foldL (bs q)) = true := by
    rw [bs_append, foldL_append]
    exact (contains_iff _ _).2 ⟨(foldL (bs t)).length, by simp, [], by simp⟩
  have F1 := Lib.hid f1
  have E1 := Lib.hid e1
  have E2 := Lib.hid e2
  clear f1 e1 e2
  have h1 : 1 + (mkS (maskL (bs q))).size ≤ 81 := by rw [mask_size]; omega
  have h2 : (mkS [42] ++ mkS (maskL (bs q))).size + 1 ≤ 82 := by rw [append_size, mask_size, mkS_size]; simp; omega
  have h3 : t.size + q.size ≤ 240 := by omega
  go_wp2_with fail
  refine (match_contains_val t q m _ (by omega) (by omega) Hm.out v F1.out).mono ?_
  rintro e w9 ⟨rfl, hb9⟩
  have hb := hb0.trans (hb9.mono hb0.size)
  clear hb0 hb9
  have hb0 := hb
  clear hb
  go_wp2_with fail
  refine (masked_calls q (by omega) _).mono ?_
  rintro e w9 ⟨rfl, hb9⟩
  have hb := hb0.trans (hb9.mono hb0.size)
  clear hb0 hb9
  have hb0 := hb
  clear hb
  go_wp2_with fail
  refine (match_glob_val t (mkS [42] ++ mkS (maskL (bs q)) ++ mkS [42]) _ (by omega) (by have h4 := mkS_size [42]; have h5 : ([42] : List UInt8).length = 1 := rfl; rw [append_size]; omega) v E1.out).mono ?_
  rintro e w9 ⟨rfl, hb9⟩
  have hb := hb0.trans (hb9.mono hb0.size)
  clear hb0 hb9
  have hb0 := hb
  clear hb
  go_wp2_with fail
  refine (match_contains_val (t ++ q) q m _ (by rw [append_size]; omega) (by omega) (cell_later hb0 Hm.out) true E2.out).mono ?_
  rintro e w9 ⟨rfl, hb9⟩
  have hb := hb0.trans (hb9.mono hb0.size)
  clear hb0 hb9
  have hb0 := hb
  clear hb
  cases v <;> (go_wp2; go_ret; exact ⟨rfl, hb0⟩)
end Go.Proofs.Ytnkfgdgjjigabaa
