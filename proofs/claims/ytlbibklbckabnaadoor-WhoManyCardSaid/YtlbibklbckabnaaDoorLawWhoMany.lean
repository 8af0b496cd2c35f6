/- A list has its addresses in order, whatever words stand beside them: for every list of persons. -/
import Derived.Test.YtlbibklbckabnaaDoorWhoManyPlain
import Derived.Deep.RegionHeld3
import Derived.WalkArith
namespace Go.Proofs.YtlbibklbckabnaaDoor
open Go.RowKit

theorem own_pos2 {w : World} {base e size n : Nat} {v : Value} {xs : List Value} (h : w.ownsRow base e size v n xs) (h0 : 0 < n) : ∃ g c, v = .slice (some ⟨g, 0, none⟩) n c := by
  obtain ⟨k, rfl⟩ : ∃ k, n = k + 1 := ⟨n - 1, by omega⟩
  exact own_pos h
theorem adrCells_get : ∀ (l : List Adr) (q : Nat) (a : Adr), l[q]? = some a → (adrCells l)[q * 2]? = some (.string a.loc) ∧ (adrCells l)[q * 2 + 1]? = some (.string a.dom)
  | [], q, a, h => by simp at h
  | b :: l, 0, a, h => by
    simp at h
    subst h
    exact ⟨rfl, rfl⟩
  | b :: l, q + 1, a, h => by
    obtain ⟨h1, h2⟩ := adrCells_get l q a (by simpa using h)
    have e : ∀ k, (adrCells (b :: l))[k + 2]? = (adrCells l)[k]? := fun k => by simp [adrCells]
    rw [show (q + 1) * 2 = q * 2 + 2 by omega, show q * 2 + 2 + 1 = (q * 2 + 1) + 2 by omega, e, e]
    exact ⟨h1, h2⟩
theorem adrRow_get {w : World} {base n g c m q : Nat} {l : List Adr} {a : Adr} (h : w.ownsRow base 25 2 (.slice (some ⟨g, 0, none⟩) m c) n (adrCells l)) (hq : l[q]? = some a) :
    w.cell? ⟨g, q * 2, none⟩ = some (.string a.loc) ∧ w.cell? ⟨g, q * 2 + 1, none⟩ = some (.string a.dom) := by
  obtain ⟨h1, h2⟩ := adrCells_get l q a hq
  have k1 := h.cells rfl (q * 2) _ h1
  have k2 := h.cells rfl (q * 2 + 1) _ h2
  have hadd : ∀ k, (⟨g, 0, none⟩ : Addr).add k = ⟨g, k, none⟩ := fun k => by unfold Addr.add; split <;> simp_all
  rw [hadd] at k1 k2
  exact ⟨k1, k2⟩
theorem address_keep (l d x al ad : ByteArray) (b o g p : Nat) (w0 W : World) (hl : l.size ≤ 9223372036854775807) (hd : d.size ≤ 9223372036854775807) (hA : adrOf l d = ⟨al, ad⟩)
    (hS : W.cell? ⟨b, o, none⟩ = some (.string l) ∧ W.cell? ⟨b, o + 1, none⟩ = some (.string d) ∧ W.cell? ⟨b, o + 2, none⟩ = some (.string x) ∧ W.cell? ⟨g, p, none⟩ = some (.string al) ∧ W.cell? ⟨g, p + 1, none⟩ = some (.string ad) ∧ Below w0.heap.size w0 W) :
    Calls Tryd.prog 15 #[.agg #[.string l, .string d, .string x]] W fun e w' => e = .returned (.agg #[.string al, .string ad]) ∧ (w'.cell? ⟨b, o, none⟩ = some (.string l) ∧ w'.cell? ⟨b, o + 1, none⟩ = some (.string d) ∧ w'.cell? ⟨b, o + 2, none⟩ = some (.string x) ∧ w'.cell? ⟨g, p, none⟩ = some (.string al) ∧ w'.cell? ⟨g, p + 1, none⟩ = some (.string ad) ∧ Below w0.heap.size w0 w') := by
  obtain ⟨h0, h1, h2, h3, h4, h5⟩ := hS
  refine (address_calls l d x hl hd W).mono fun e w' ⟨he, hb⟩ => ?_
  rw [hA] at he
  exact ⟨he, cell_later hb h0, cell_later hb h1, cell_later hb h2, cell_later hb h3, cell_later hb h4, h5.trans (hb.mono h5.size)⟩

set_option maxRecDepth 100000 in
set_option maxHeartbeats 4000000 in
theorem whoMany_none (A : Option Addr) (c : Nat) (m : Int) (w : World) (hm : w.cell? ⟨0, 0, none⟩ = some (.int .i64 m)) :
    Calls Tryd.prog 6 #[.slice A 0 c] w fun e w' => e = .returned (.bool true) ∧ Below w.heap.size w w' := by
  have hl := list_calls (⟨#[]⟩ : ByteArray) m w (by decide) hm none (by rfl)
  have HL := Lib.hid hl
  clear hl
  go_enter Tryd.func6, Tryd.ntmps6
  go_wp2_with fail
  refine HL.out.mono ?_
  rintro e w1 ⟨v, err, rfl, hb, rfl, rfl⟩
  go_wp2
  go_ret
  exact ⟨rfl, hb⟩

set_option maxRecDepth 100000 in
set_option maxHeartbeats 4000000 in
theorem whoMany_some (x : List Per) (A : Option Addr) (c : Nat) (m : Int) (w : World) (hx : x.length ≤ 9223372036854775807) (h0 : 0 < x.length) (hA : kPer.Row w A x) (hm : w.cell? ⟨0, 0, none⟩ = some (.int .i64 m)) :
    Calls Tryd.prog 6 #[.slice A x.length c] w fun e w' => e = .returned (.bool true) ∧ Below w.heap.size w w' := by
  have hne : ((x.length : Int) == 0) = false := by rw [beq_eq_false_iff_ne]; omega
  go_enter Tryd.func6, Tryd.ntmps6
  go_wp2_with fail
  obtain ⟨n, hn, hn0, hn1, hn2⟩ : ∃ n : Nat, min (x.length : Int) 12 = n ∧ 0 < n ∧ n ≤ x.length ∧ n ≤ 12 := ⟨min x.length 12, by omega, by omega, by omega, by omega⟩
  rw [hn]
  clear hn hne
  go_loopw [5, 7] (fun s i wr => ∃ (j : Nat) (S : ByteArray), j ≤ n ∧ i = .int .i64 j ∧ s = .string S ∧ S.size ≤ 600 ∧ Hid (S = mkS (manyL (x.take j))) ∧ Below w.heap.size w wr) (fun _ i _ => n - (intOf i).toNat)
  case atStart => exact ⟨0, _, Nat.zero_le _, rfl, rfl, by decide, Lib.hid rfl, Below.refl _ _⟩
  case round =>
    obtain ⟨j, S, hj, rfl, rfl, hS, HS, hb⟩ := hrel
    have hmr := cell_later hb hm
    have hAr := hA.later hb
    by_cases hlt : j < n
    · obtain ⟨b, off, rfl, cs, hk, hcs⟩ := hAr.get j (by omega)
      obtain ⟨rfl, q1, q2, q3⟩ := kPer_cells hk
      unfold maxLen at q1 q2 q3
      have c0 := hcs 0 _ rfl
      have c1 := hcs 1 _ rfl
      have c2 := hcs 2 _ rfl
      rw [show off + (j * kPer.sz + 0) = off + j * 3 from rfl] at c0
      rw [show off + (j * kPer.sz + 1) = off + j * 3 + 1 from rfl] at c1
      rw [show off + (j * kPer.sz + 2) = off + j * 3 + 2 from rfl] at c2
      have HT := Lib.hid (manyL_take x j (by omega))
      clear hcs hk
      generalize x[j] = z at *
      have hsw : w.heap.size ≤ wr.heap.size := hb.size
      go_wp2_with fail
      refine (address_calls z.loc z.dom z.words (by omega) (by omega) wr).mono ?_
      rintro e w1 ⟨rfl, hb1⟩
      have hc := adrOf_check z.loc z.dom
      have hz := adrOf_size z.loc z.dom
      have hpl := z.a_len
      obtain ⟨A0, hA0⟩ : ∃ A0, adrOf z.loc z.dom = A0 := ⟨_, rfl⟩
      have hza : z.a = bs A0.loc ++ 64 :: bs A0.dom := by rw [← hA0]; rfl
      rw [hA0] at hc hz ⊢
      clear hA0
      obtain ⟨al, ad⟩ := A0
      dsimp only [adrVal]
      have hm1 := cell_later hb1 hmr
      have d0 := cell_later hb1 c0
      have d1 := cell_later hb1 c1
      have d2 := cell_later hb1 c2
      have hbw1 := hb.trans (hb1.mono hsw)
      have hs1 := hb1.size
      clear hb1 hmr c0 c1 c2 hb hAr
      go_wp2_with fail
      refine (part_calls 1 ⟨al, ad⟩ m w1 (by show al.size ≤ _; omega) (by show ad.size ≤ _; omega) hm1).mono ?_
      rintro e w2 ⟨rfl, hb2⟩
      have hp1 : partA 1 ⟨al, ad⟩ = (al ++ mkS [64] ++ ad, 0) := by unfold partA; rw [if_neg (by rw [hc]; simp), if_pos rfl]
      rw [hp1]
      clear hp1 hc
      have c0 := cell_later hb2 d0
      have c1 := cell_later hb2 d1
      have c2 := cell_later hb2 d2
      have hbw2 := hbw1.trans (hb2.mono (by omega))
      have hs2 := hb2.size
      clear hb2 hm1 d0 d1 d2 hbw1
      obtain ⟨p, hp⟩ : ∃ p, al ++ mkS [64] ++ ad = p := ⟨_, rfl⟩
      rw [hp]
      have hbp : bs p = z.a := by rw [hza, ← hp, bs_append, bs_append, List.append_assoc]; rfl
      have hps : p.size ≤ 21 := by rw [← bs_len, hbp]; omega
      have HBP := Lib.hid hbp
      clear hza hp hbp hpl hz
      have hp3 := pickN_lt z.words.size 3 (by omega)
      have hp4 := pickN_lt z.loc.size 4 (by omega)
      have w3f : (Lit.int .i64 (z.words.size : Int)).wf = true := WalkArith.wf_i64 (by omega)
      have w4f : (Lit.int .i64 (z.loc.size : Int)).wf = true := WalkArith.wf_i64 (by omega)
      obtain ⟨k4, hk4⟩ : ∃ k4 : Int, (pickN z.loc.size 4 : Int) = k4 := ⟨_, rfl⟩
      have hp5 : (0 : Int) ≤ (pickN z.loc.size 4 : Int) := by omega
      have HK4 := Lib.hid hk4
      rw [hk4] at hp4 hp5
      clear hk4
      by_cases hj0 : j = 0
      · have hF : ∀ T : ByteArray, bs T = formL z → S ++ T = mkS (manyL (x.take (j + 1))) := by
          intro T hT
          apply bs_inj
          have h := HT.out
          rw [if_pos hj0] at h
          rw [bs_append, hT, HS.out, bs_mkS, bs_mkS, h, hj0]; rfl
        have hF2 : (mkS (manyL (x.take (j + 1)))).size ≤ 600 := by rw [mkS_size]; exact manyL_take_len x (j + 1) (by omega)
        have HF := Lib.hid hF
        have hj1 : ¬ 0 < (j : Int) := by omega
        have Hbw3 := Lib.hid hbw2
        have Hj0 := Lib.hid hj0
        clear hF hbw2 HT hj0
        obtain ⟨w3, rfl⟩ : ∃ w3, w3 = w2 := ⟨_, rfl⟩
        obtain ⟨V, rfl⟩ : ∃ V, V = S := ⟨_, rfl⟩
        go_wp2_with fail
        refine (picked_calls z.loc.size 4 w3 w4f (by decide) (by decide)).mono ?_
        rintro e w' ⟨rfl, rfl⟩
        rw [HK4.out]
        rcases (show k4 = 0 ∨ k4 = 1 ∨ k4 = 2 ∨ k4 = 3 by omega) with rfl | rfl | rfl | rfl
        · have hT := Lib.hid (HF.out p (by rw [HBP.out, formL_0 z (by have := HK4.out; omega)]))
          go_wp2
          go_roundw
          case rel => exact ⟨j + 1, V ++ p, by omega, by go_num, rfl, by rw [hT.out]; exact hF2, hT, Hbw3.out⟩
          case measure => simp [intOf]; omega
        · have hT := Lib.hid (HF.out (⟨#[60]⟩ ++ p ++ ⟨#[62]⟩) (by rw [bs_append, bs_append, HBP.out, formL_1 z (by have := HK4.out; omega)]; show [60] ++ z.a ++ [62] = _; simp))
          go_wp2
          go_roundw
          case rel => exact ⟨j + 1, _, by omega, by go_num, rfl, by rw [hT.out]; exact hF2, hT, Hbw3.out⟩
          case measure => simp [intOf]; omega
        · go_wp2_with fail
          refine (word_calls z.words (by omega) w3).mono ?_
          rintro e w4 ⟨rfl, hb4⟩
          have hwd : (mkS (wordL (bs z.words))).size ≤ 8 := by rw [mkS_size]; exact (wordL_len _).2
          have hT := Lib.hid (HF.out (mkS (wordL (bs z.words)) ++ ⟨#[32, 98, 46, 32, 60]⟩ ++ p ++ ⟨#[62, 32]⟩) (by rw [bs_append, bs_append, bs_append, HBP.out, formL_2 z (by have := HK4.out; omega), bs_mkS]; show _ ++ [32, 98, 46, 32, 60] ++ z.a ++ [62, 32] = _; simp))
          have Hbw4 := Lib.hid (Hbw3.out.trans (hb4.mono (by omega)))
          clear hb4
          generalize mkS (wordL (bs z.words)) = wd at *
          go_wp2
          go_roundw
          case rel => exact ⟨j + 1, _, by omega, by go_num, rfl, by rw [hT.out]; exact hF2, hT, Hbw4.out⟩
          case measure => simp [intOf]; omega
        · go_wp2_with fail
          refine (word_calls z.words (by omega) w3).mono ?_
          rintro e w4 ⟨rfl, hb4⟩
          have hwd : (mkS (wordL (bs z.words))).size ≤ 8 := by rw [mkS_size]; exact (wordL_len _).2
          have hT := Lib.hid (HF.out (⟨#[34, 120, 44, 32, 92, 34, 32]⟩ ++ mkS (wordL (bs z.words)) ++ ⟨#[64, 34, 60]⟩ ++ p ++ ⟨#[62]⟩) (by rw [bs_append, bs_append, bs_append, bs_append, HBP.out, formL_3 z (by have := HK4.out; omega), bs_mkS]; show [34, 120, 44, 32, 92, 34, 32] ++ _ ++ [64, 34, 60] ++ z.a ++ [62] = _; simp))
          have Hbw4 := Lib.hid (Hbw3.out.trans (hb4.mono (by omega)))
          clear hb4
          generalize mkS (wordL (bs z.words)) = wd at *
          go_wp2
          go_roundw
          case rel => exact ⟨j + 1, _, by omega, by go_num, rfl, by rw [hT.out]; exact hF2, hT, Hbw4.out⟩
          case measure => simp [intOf]; omega
      · have hF : ∀ T : ByteArray, bs T = formL z → S ++ mkS (sepL z) ++ T = mkS (manyL (x.take (j + 1))) := by
          intro T hT
          apply bs_inj
          have h := HT.out
          rw [if_neg hj0] at h
          rw [bs_append, bs_append, hT, HS.out, bs_mkS, bs_mkS, bs_mkS, h, List.append_assoc]
        have hsl := sepL_len z
        have hsz : (mkS (sepL z)).size ≤ 3 := by rw [mkS_size]; omega
        have hF2 : (mkS (manyL (x.take (j + 1)))).size ≤ 600 := by rw [mkS_size]; exact manyL_take_len x (j + 1) (by omega)
        have HF := Lib.hid hF
        have hj1 : 0 < (j : Int) := by omega
        have hq := new_cells w2 (sepsL.map fun b => Value.string (mkS b)) 9 (pickN z.words.size 3) _ (sep_cell z)
        have hadd : (⟨w2.heap.size, 0, none⟩ : Addr).add (pickN z.words.size 3) = ⟨w2.heap.size, pickN z.words.size 3, none⟩ := by unfold Addr.add; split <;> simp_all
        rw [hadd] at hq
        change (w2.alloc (.cells #[.string ⟨#[44]⟩, .string ⟨#[44, 32]⟩, .string ⟨#[32, 44, 9]⟩] 9)).cell? _ = _ at hq
        have hb3 : Below w2.heap.size w2 (w2.alloc (.cells #[.string ⟨#[44]⟩, .string ⟨#[44, 32]⟩, .string ⟨#[32, 44, 9]⟩] 9)) := (Below.refl _ w2).alloc (Nat.le_refl _) _
        have d0 := cell_later hb3 c0
        have d1 := cell_later hb3 c1
        have d2 := cell_later hb3 c2
        have hbw3 := hbw2.trans (hb3.mono (by omega))
        have hs3 := hb3.size
        have Hbw3 := Lib.hid hbw3
        clear hF hb3 hadd hbw2 hbw3 HT hsl
        go_wp2_with fail
        generalize w2.alloc (.cells #[.string ⟨#[44]⟩, .string ⟨#[44, 32]⟩, .string ⟨#[32, 44, 9]⟩] 9) = w3 at *
        refine (picked_calls z.words.size 3 w3 w3f (by decide) (by decide)).mono ?_
        rintro e w' ⟨rfl, rfl⟩
        generalize pickN z.words.size 3 = k3 at *
        have hk3 : (0 : Int) ≤ (k3 : Int) := by omega
        generalize mkS (sepL z) = sp at *
        go_wp2_with fail
        obtain ⟨V, hV⟩ : ∃ V, S ++ sp = V := ⟨_, rfl⟩
        have hVs : V.size ≤ 603 := by rw [← hV, ByteArray.size_append]; omega
        rw [hV]
        have hF := HF.out
        rw [hV] at hF
        have HF := Lib.hid hF
        clear hF hV
        refine (picked_calls z.loc.size 4 w3 w4f (by decide) (by decide)).mono ?_
        rintro e w' ⟨rfl, rfl⟩
        rw [HK4.out]
        rcases (show k4 = 0 ∨ k4 = 1 ∨ k4 = 2 ∨ k4 = 3 by omega) with rfl | rfl | rfl | rfl
        · have hT := Lib.hid (HF.out p (by rw [HBP.out, formL_0 z (by have := HK4.out; omega)]))
          go_wp2
          go_roundw
          case rel => exact ⟨j + 1, V ++ p, by omega, by go_num, rfl, by rw [hT.out]; exact hF2, hT, Hbw3.out⟩
          case measure => simp [intOf]; omega
        · have hT := Lib.hid (HF.out (⟨#[60]⟩ ++ p ++ ⟨#[62]⟩) (by rw [bs_append, bs_append, HBP.out, formL_1 z (by have := HK4.out; omega)]; show [60] ++ z.a ++ [62] = _; simp))
          go_wp2
          go_roundw
          case rel => exact ⟨j + 1, _, by omega, by go_num, rfl, by rw [hT.out]; exact hF2, hT, Hbw3.out⟩
          case measure => simp [intOf]; omega
        · go_wp2_with fail
          refine (word_calls z.words (by omega) w3).mono ?_
          rintro e w4 ⟨rfl, hb4⟩
          have hwd : (mkS (wordL (bs z.words))).size ≤ 8 := by rw [mkS_size]; exact (wordL_len _).2
          have hT := Lib.hid (HF.out (mkS (wordL (bs z.words)) ++ ⟨#[32, 98, 46, 32, 60]⟩ ++ p ++ ⟨#[62, 32]⟩) (by rw [bs_append, bs_append, bs_append, HBP.out, formL_2 z (by have := HK4.out; omega), bs_mkS]; show _ ++ [32, 98, 46, 32, 60] ++ z.a ++ [62, 32] = _; simp))
          have Hbw4 := Lib.hid (Hbw3.out.trans (hb4.mono (by omega)))
          clear hb4
          generalize mkS (wordL (bs z.words)) = wd at *
          go_wp2
          go_roundw
          case rel => exact ⟨j + 1, _, by omega, by go_num, rfl, by rw [hT.out]; exact hF2, hT, Hbw4.out⟩
          case measure => simp [intOf]; omega
        · go_wp2_with fail
          refine (word_calls z.words (by omega) w3).mono ?_
          rintro e w4 ⟨rfl, hb4⟩
          have hwd : (mkS (wordL (bs z.words))).size ≤ 8 := by rw [mkS_size]; exact (wordL_len _).2
          have hT := Lib.hid (HF.out (⟨#[34, 120, 44, 32, 92, 34, 32]⟩ ++ mkS (wordL (bs z.words)) ++ ⟨#[64, 34, 60]⟩ ++ p ++ ⟨#[62]⟩) (by rw [bs_append, bs_append, bs_append, bs_append, HBP.out, formL_3 z (by have := HK4.out; omega), bs_mkS]; show [34, 120, 44, 32, 92, 34, 32] ++ _ ++ [64, 34, 60] ++ z.a ++ [62] = _; simp))
          have Hbw4 := Lib.hid (Hbw3.out.trans (hb4.mono (by omega)))
          clear hb4
          generalize mkS (wordL (bs z.words)) = wd at *
          go_wp2
          go_roundw
          case rel => exact ⟨j + 1, _, by omega, by go_num, rfl, by rw [hT.out]; exact hF2, hT, Hbw4.out⟩
          case measure => simp [intOf]; omega
    · obtain rfl : j = n := by omega
      have hxl : (x.take j).length = j := by rw [List.length_take]; omega
      have hne : x.take j ≠ [] := by intro h; rw [h] at hxl; simp at hxl; omega
      have hml := many_list (x.take j) (by omega) hne
      rw [HS.out] at hS
      have hll := list_calls (mkS (manyL (x.take j))) m wr (by omega) hmr (some ((x.take j).map Per.adr)) (by rw [mkS_size, bs_mkS]; exact hml)
      have HL := Lib.hid hll
      rw [HS.out]
      clear hml hll hne
      have hxl2 : ((x.take j).map Per.adr).length = j := by rw [List.length_map]; exact hxl
      have Hxl := Lib.hid hxl
      have Hxl2 := Lib.hid hxl2
      clear hxl hxl2
      generalize mkS (manyL (x.take j)) = s at *
      go_wp2_with fail
      refine HL.out.mono ?_
      rintro e w5 ⟨v, err, rfl, hb5, hok⟩
      try dsimp only at hok
      rw [Hxl2.out, if_neg (by omega)] at hok
      obtain ⟨rfl, hrow⟩ := hok
      obtain ⟨g, cc, rfl⟩ := own_pos2 hrow hn0
      have hA5 := hAr.later hb5
      have hbw5 := hb.trans (hb5.mono hb.size)
      have hs5 := hbw5.size
      have Hbw5 := Lib.hid hbw5
      clear HL hb5 hb hbw5 hmr hAr
      go_wp2_with fail
      go_loopw [12] (fun i w6 => ∃ q : Nat, q ≤ j ∧ i = .int .i64 q ∧ Below w5.heap.size w5 w6) (fun i _ => j - (intOf i).toNat)
      case atStart => exact ⟨0, Nat.zero_le _, rfl, Below.refl _ _⟩
      case round =>
        obtain ⟨q, hq, rfl, hb6⟩ := hrel
        by_cases hlt2 : q < j
        · obtain ⟨b, off, rfl, cs, hk, hcs⟩ := hA5.get q (by omega)
          obtain ⟨rfl, q1, q2, q3⟩ := kPer_cells hk
          unfold maxLen at q1 q2 q3
          have c0 := cell_later hb6 (hcs 0 _ rfl)
          have c1 := cell_later hb6 (hcs 1 _ rfl)
          have c2 := cell_later hb6 (hcs 2 _ rfl)
          rw [show off + (q * kPer.sz + 0) = off + q * 3 from rfl] at c0
          rw [show off + (q * kPer.sz + 1) = off + q * 3 + 1 from rfl] at c1
          rw [show off + (q * kPer.sz + 2) = off + q * 3 + 2 from rfl] at c2
          have hxq : ((x.take j).map Per.adr)[q]? = some x[q].adr := by
            rw [List.getElem?_map, List.getElem?_take_of_lt hlt2, List.getElem?_eq_getElem (by omega)]; rfl
          obtain ⟨r0, r1⟩ := adrRow_get hrow hxq
          have r0 := cell_later hb6 r0
          have r1 := cell_later hb6 r1
          clear hcs hk hxq
          generalize x[q] = z at *
          have hac : Per.adr z = adrOf z.loc z.dom := rfl
          rw [hac] at r0 r1
          obtain ⟨A0, hA0⟩ : ∃ A0, adrOf z.loc z.dom = A0 := ⟨_, rfl⟩
          rw [hA0] at r0 r1
          have HA0 := Lib.hid hA0
          clear hA0 hac
          obtain ⟨al, ad⟩ := A0
          dsimp only at r0 r1
          have hq0 : (0 : Int) ≤ (q : Int) := by omega
          have hqn : (q : Int) < (j : Int) := by omega
          have hqx : (q : Int) < (x.length : Int) := by omega
          go_wp2_with fail
          go_region_held3 (fun w' => w'.cell? ⟨b, off + q * 3, none⟩ = some (.string z.loc) ∧ w'.cell? ⟨b, off + q * 3 + 1, none⟩ = some (.string z.dom) ∧ w'.cell? ⟨b, off + q * 3 + 2, none⟩ = some (.string z.words) ∧ w'.cell? ⟨g, q * 2, none⟩ = some (.string al) ∧ w'.cell? ⟨g, q * 2 + 1, none⟩ = some (.string ad) ∧ Below w5.heap.size w5 w') (first | exact hKK | exact ⟨c0, c1, c2, r0, r1, hb6.drew⟩ | exact ⟨c0, c1, c2, r0, r1, hb6⟩)
            (first | (go_at_call 15; (with_reducible refine (address_keep z.loc z.dom z.words al ad b (off + q * 3) g (q * 2) w5 _ (by omega) (by omega) HA0.out ?_).mono ?_); (first | assumption | exact hS); rintro e w9 ⟨rfl, hKK⟩))
          go_wp2
          go_roundw
          case rel => exact ⟨q + 1, by omega, by go_num, hKK.2.2.2.2.2⟩
          case measure => simp [intOf]; omega
        · obtain rfl : q = j := by omega
          go_wp2
          go_ret
          exact ⟨rfl, Hbw5.out.trans (hb6.mono hs5)⟩
theorem whoMany_walk (x : List Per) (A : Option Addr) (c : Nat) (m : Int) (w : World) (hx : x.length ≤ 9223372036854775807) (hA : kPer.Row w A x) (hm : w.cell? ⟨0, 0, none⟩ = some (.int .i64 m)) :
    Calls Tryd.prog 6 #[.slice A x.length c] w fun e w' => e = .returned (.bool true) ∧ Below w.heap.size w w' := by
  cases x with
  | nil => exact whoMany_none A c m w hm
  | cons y x => exact whoMany_some (y :: x) A c m w hx (by simp) hA hm
end Go.Proofs.YtlbibklbckabnaaDoor
