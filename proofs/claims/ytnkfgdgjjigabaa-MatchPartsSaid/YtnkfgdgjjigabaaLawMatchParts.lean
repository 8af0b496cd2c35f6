/- Two matches, one behind the other, are one: for every four strings. -/
import Derived.Test.YtnkfgdgjjigabaaGlobVal
namespace Go.Proofs.Ytnkfgdgjjigabaa
open Go.RowKit

set_option maxRecDepth 100000 in
set_option maxHeartbeats 2000000 in
theorem matchParts_walk (s t p q : ByteArray) (w : World) (hs : s.size ≤ 9223372036854775807) (ht : t.size ≤ 9223372036854775807) (hp : p.size ≤ 9223372036854775807) (hq : q.size ≤ 9223372036854775807) :
    Calls Try.prog 7 #[.string s, .string t, .string p, .string q] w fun e w' => e = .returned (.bool true) ∧ Below w.heap.size w w' := by
  have hb0 := Below.refl w.heap.size w
  go_enter Try.func7, Try.ntmps7
  go_wp2_with fail
  refine (cut_calls s 40 (by omega) hs _).mono ?_
  rintro e w9 ⟨rfl, rfl⟩
  have ha : (cutS s 40).size ≤ 40 := cutS_size s 40
  rw [show (40 : Int).toNat = 40 from rfl]
  generalize cutS s 40 = a at *
  go_wp2_with fail
  refine (cut_calls t 40 (by omega) ht _).mono ?_
  rintro e w9 ⟨rfl, rfl⟩
  have hb : (cutS t 40).size ≤ 40 := cutS_size t 40
  rw [show (40 : Int).toNat = 40 from rfl]
  generalize cutS t 40 = b at *
  go_wp2_with fail
  refine (cut_calls p 40 (by omega) hp _).mono ?_
  rintro e w9 ⟨rfl, rfl⟩
  have hx : (cutS p 40).size ≤ 40 := cutS_size p 40
  rw [show (40 : Int).toNat = 40 from rfl]
  generalize cutS p 40 = x at *
  go_wp2_with fail
  refine (cut_calls q 40 (by omega) hq _).mono ?_
  rintro e w9 ⟨rfl, rfl⟩
  have hy : (cutS q 40).size ≤ 40 := cutS_size q 40
  rw [show (40 : Int).toNat = 40 from rfl]
  generalize cutS q 40 = y at *
  go_wp2
  go_loop [11] (fun v => ∃ x' : ByteArray, v = .string x' ∧ x'.size ≤ 40) (fun v => match v with | .string x' => x'.size | _ => 0)
  case atStart => exact ⟨x, rfl, hx⟩
  case round =>
    obtain ⟨x', rfl, hx'⟩ := hrel
    by_cases h0 : 0 < x'.size
    · by_cases h9 : x'[x'.size - 1] = 92
      · have h92 : ((x'[x'.size - 1].toNat : Int) == 92) = true := by rw [h9]; rfl
        clear h9
        go_wp2
        have hx2 : (x'.extract 0 (x'.size - 1)).size = x'.size - 1 := by rw [extract_mkS, mkS_size, List.drop_zero, List.length_take, bs_len]; omega
        exact ⟨⟨_, rfl, by omega⟩, by show (x'.extract 0 (x'.size - 1)).size < x'.size; omega⟩
      · have h92 : ((x'[x'.size - 1].toNat : Int) == 92) = false := by
          rw [beq_eq_false_iff_ne]
          intro h
          exact h9 (UInt8.toNat_inj.1 (by simpa using Int.ofNat.inj h))
        have hlast : ∀ c, (bs x').getLast? = some c → c ≠ 92 := by
          intro c hc h
          rw [List.getLast?_eq_getElem?, bs_len, List.getElem?_eq_getElem (by rw [bs_len]; omega)] at hc
          injection hc with hc
          exact h9 (by rw [h] at hc; exact hc)
        clear h9
        have e1 : mt (foldL (bs a)) (piecesL (foldL (bs x'))) = true → mt (foldL (bs b)) (piecesL (foldL (bs y))) = true → mt (foldL (bs (a ++ b))) (piecesL (foldL (bs (x' ++ y)))) = true := by
          intro h1 h2
          rw [bs_append, bs_append, foldL_append, foldL_append, pieces_append]
          · exact mt_append _ _ _ _ h1 h2
          · intro c hc h9
            rw [h9] at hc
            rw [foldL, List.getLast?_map] at hc
            cases h : (bs x').getLast? with
            | none => rw [h] at hc; cases hc
            | some d =>
              rw [h] at hc
              simp only [Option.map_some, Option.some.injEq] at hc
              exact hlast d h ((smallB_92 d).1 hc)
        obtain ⟨v1, f1⟩ : ∃ v, mt (foldL (bs a)) (piecesL (foldL (bs x'))) = v := ⟨_, rfl⟩
        obtain ⟨v2, f2⟩ : ∃ v, mt (foldL (bs b)) (piecesL (foldL (bs y))) = v := ⟨_, rfl⟩
        obtain ⟨v3, f3⟩ : ∃ v, mt (foldL (bs (a ++ b))) (piecesL (foldL (bs (x' ++ y)))) = v := ⟨_, rfl⟩
        rw [f1, f2, f3] at e1
        have F1 := Lib.hid f1
        have F2 := Lib.hid f2
        have F3 := Lib.hid f3
        have E := Lib.hid e1
        clear f1 f2 f3 e1 hlast
        have h1 : a.size + b.size ≤ 80 := by omega
        have h2 : x'.size + y.size ≤ 80 := by omega
        go_wp2_with fail
        refine (match_glob_val a x' _ (by omega) (by omega) v1 F1.out).mono ?_
        rintro e w9 ⟨rfl, hb9⟩
        have hb := hb0.trans (hb9.mono hb0.size)
        clear hb0 hb9
        have hb0 := hb
        clear hb
        go_wp2_with fail
        refine (match_glob_val b y _ (by omega) (by omega) v2 F2.out).mono ?_
        rintro e w9 ⟨rfl, hb9⟩
        have hb := hb0.trans (hb9.mono hb0.size)
        clear hb0 hb9
        have hb0 := hb
        clear hb
        go_wp2_with fail
        refine (match_glob_val (a ++ b) (x' ++ y) _ (by rw [append_size]; omega) (by rw [append_size]; omega) v3 F3.out).mono ?_
        rintro e w9 ⟨rfl, hb9⟩
        have hb := hb0.trans (hb9.mono hb0.size)
        clear hb0 hb9
        have hb0 := hb
        clear hb
        go_wp2_with fail
        refine (match_glob_val b (mkS [42]) _ (by omega) (by rw [mkS_size]; decide) true (by show mt _ (piecesL [42]) = true; exact mt_star_all _)).mono ?_
        rintro e w9 ⟨rfl, hb9⟩
        have hb := hb0.trans (hb9.mono hb0.size)
        clear hb0 hb9
        have hb0 := hb
        clear hb
        cases v1 <;> cases v2 <;> cases v3 <;> first | (exfalso; have h := E.out rfl rfl; cases h; done) | (clear E; go_wp2; go_ret; exact ⟨rfl, hb0⟩)
    · have hlast : ∀ c, (bs x').getLast? = some c → c ≠ 92 := by
        intro c hc
        rw [List.length_eq_zero_iff.1 (show (bs x').length = 0 by rw [bs_len]; omega)] at hc
        cases hc
      have e1 : mt (foldL (bs a)) (piecesL (foldL (bs x'))) = true → mt (foldL (bs b)) (piecesL (foldL (bs y))) = true → mt (foldL (bs (a ++ b))) (piecesL (foldL (bs (x' ++ y)))) = true := by
        intro h1 h2
        rw [bs_append, bs_append, foldL_append, foldL_append, pieces_append]
        · exact mt_append _ _ _ _ h1 h2
        · intro c hc h9
          rw [h9] at hc
          rw [foldL, List.getLast?_map] at hc
          cases h : (bs x').getLast? with
          | none => rw [h] at hc; cases hc
          | some d =>
            rw [h] at hc
            simp only [Option.map_some, Option.some.injEq] at hc
            exact hlast d h ((smallB_92 d).1 hc)
      obtain ⟨v1, f1⟩ : ∃ v, mt (foldL (bs a)) (piecesL (foldL (bs x'))) = v := ⟨_, rfl⟩
      obtain ⟨v2, f2⟩ : ∃ v, mt (foldL (bs b)) (piecesL (foldL (bs y))) = v := ⟨_, rfl⟩
      obtain ⟨v3, f3⟩ : ∃ v, mt (foldL (bs (a ++ b))) (piecesL (foldL (bs (x' ++ y)))) = v := ⟨_, rfl⟩
      rw [f1, f2, f3] at e1
      have F1 := Lib.hid f1
      have F2 := Lib.hid f2
      have F3 := Lib.hid f3
      have E := Lib.hid e1
      clear f1 f2 f3 e1 hlast
      have h1 : a.size + b.size ≤ 80 := by omega
      have h2 : x'.size + y.size ≤ 80 := by omega
      go_wp2_with fail
      refine (match_glob_val a x' _ (by omega) (by omega) v1 F1.out).mono ?_
      rintro e w9 ⟨rfl, hb9⟩
      have hb := hb0.trans (hb9.mono hb0.size)
      clear hb0 hb9
      have hb0 := hb
      clear hb
      go_wp2_with fail
      refine (match_glob_val b y _ (by omega) (by omega) v2 F2.out).mono ?_
      rintro e w9 ⟨rfl, hb9⟩
      have hb := hb0.trans (hb9.mono hb0.size)
      clear hb0 hb9
      have hb0 := hb
      clear hb
      go_wp2_with fail
      refine (match_glob_val (a ++ b) (x' ++ y) _ (by rw [append_size]; omega) (by rw [append_size]; omega) v3 F3.out).mono ?_
      rintro e w9 ⟨rfl, hb9⟩
      have hb := hb0.trans (hb9.mono hb0.size)
      clear hb0 hb9
      have hb0 := hb
      clear hb
      go_wp2_with fail
      refine (match_glob_val b (mkS [42]) _ (by omega) (by rw [mkS_size]; decide) true (by show mt _ (piecesL [42]) = true; exact mt_star_all _)).mono ?_
      rintro e w9 ⟨rfl, hb9⟩
      have hb := hb0.trans (hb9.mono hb0.size)
      clear hb0 hb9
      have hb0 := hb
      clear hb
      cases v1 <;> cases v2 <;> cases v3 <;> first | (exfalso; have h := E.out rfl rfl; cases h; done) | (clear E; go_wp2; go_ret; exact ⟨rfl, hb0⟩)
end Go.Proofs.Ytnkfgdgjjigabaa
