/- book.Recover: what it returns of a tape of which so many bytes are there. -/
import Derived.Test.YtpncahklapfoaaaDoorBkOpen
namespace Go.Proofs.YtpncahklapfoaaaDoor
open Go.RowKit
set_option linter.unusedVariables false

theorem decE_of (u : Int) (es : List Ent) (h : checkB u es = 0) : (rdEnts (rdNum 1 (rdNum 1 (batN u es, false)).2).1 (rdNum 1 (rdNum 1 (batN u es, false)).2).2).1 = es := (dec_bat u es h).2.2
/-- What the reader finds at a place: nothing more, or a batch. -/
theorem rd_cases (bs : List BatS) (hg : ∀ b ∈ bs, GoodB b) (j n : Nat) (hj : j ≤ bs.length) :
    ((rdTake (rdNum 3 ((tapeN (bs.drop j)).take n, false)).1 (rdNum 3 ((tapeN (bs.drop j)).take n, false)).2).2.2 = true ∧ whole (bs.drop j) n = 0) ∨
    ∃ b q, bs[j]? = some b ∧ GoodB b ∧ (frameN b).length ≤ n ∧ rdTake (rdNum 3 ((tapeN (bs.drop j)).take n, false)).1 (rdNum 3 ((tapeN (bs.drop j)).take n, false)).2 = (batN b.user b.es, q, false) := by
  by_cases hlt : j < bs.length
  · have hd : bs.drop j = bs[j] :: bs.drop (j + 1) := List.drop_eq_getElem_cons hlt
    have hb := hg bs[j] (List.getElem_mem hlt)
    rw [hd]
    by_cases hf : (frameN bs[j]).length ≤ n
    · obtain ⟨q, h1, h2⟩ := rd_whole bs[j] (bs.drop (j + 1)) n hb hf
      exact .inr ⟨bs[j], q, by simp [hlt], hb, hf, h2⟩
    · exact .inl ⟨rd_torn bs[j] _ n hb (by omega), by unfold whole; rw [if_neg hf]⟩
  · have hd : bs.drop j = [] := List.drop_of_length_le (by omega)
    rw [hd]
    exact .inl ⟨rd_end n, rfl⟩
theorem far2 {W : World} {b g i : Nat} {u u' v : Value} (hc : W.cell? ⟨g, i, none⟩ = some v) (h : b ≠ g) : ((W.setCell ⟨b, 0, none⟩ u).setCell ⟨b, 1, none⟩ u').cell? ⟨g, i, none⟩ = some v :=
  (World.cell?_setCell_far _ _ _ _ h).trans ((World.cell?_setCell_far _ _ _ _ h).trans hc)
/-- What Recover ends in. -/
def RecOk (w : World) (bs : List BatS) (j sy : Nat) (e : Ending) (w' : World) : Prop :=
  ∃ v A c, e = .returned (.tuple #[v, .agg #[.slice A (tapeN (bs.take j)).length c, .int .i64 (min sy (tapeN (bs.take j)).length : Nat)], .int .i64 0]) ∧ RowB w' w.heap.size v (bs.take j) ∧ BS w' w'.heap.size A c (tapeN (bs.take j)) ∧ Below w.heap.size w w'
set_option maxRecDepth 100000 in
set_option maxHeartbeats 4000000 in
theorem recover_calls (bs : List BatS) (k sy : Nat) (A : Option Addr) (c : Nat) (m : Int) (w : World) (hA : BS w w.heap.size A c ((tapeN bs).take k)) (hg : ∀ b ∈ bs, GoodB b) (hl : bs.length ≤ 28) (hk : k ≤ (tapeN bs).length) (hs : sy ≤ k) (hm : w.cell? ⟨0, 0, none⟩ = some (.int .i64 m)) :
    Calls Tryd.prog 19 #[.agg #[.slice A k c, .int .i64 sy]] w fun e w' => RecOk w bs (whole bs k) sy e w' := by
  obtain ⟨i0, hi, hz0, hz1, hz2⟩ := info_parts info_bat
  have htl := tapeN_len bs hg
  have hkl : ((tapeN bs).take k).length = k := by rw [List.length_take]; omega
  obtain ⟨W, hW⟩ : ∃ W, W = (w.alloc (.cells #[.slice A k c, .int .i64 sy] 42)).alloc (.cells #[.slice none 0 0, .int .i64 0] 42) := ⟨_, rfl⟩
  have hX : Bk W w.heap.size [.slice A k c, .int .i64 sy] 42 := by rw [hW]; exact (Bk.new w [.slice A k c, .int .i64 sy] _).alloc _
  have hR : Bk W (w.heap.size + 1) [.slice none 0 0, .int .i64 0] 42 := by
    have h := Bk.new (w.alloc (.cells #[.slice A k c, .int .i64 sy] 42)) [.slice none 0 0, .int .i64 0] 42
    rw [show (w.alloc (.cells #[.slice A k c, .int .i64 sy] 42)).heap.size = w.heap.size + 1 by simp] at h
    rw [hW]; exact h
  have hb1 : Below w.heap.size w W := by rw [hW]; exact ((Below.refl _ w).alloc (Nat.le_refl _) _).alloc (by simp) _
  have hs1 : w.heap.size + 2 ≤ W.heap.size := by rw [hW]; simp
  have hop := open_calls A c ((tapeN bs).take k) sy W (hA.later hb1) (by omega) (by omega)
  have hm1 := cell_later hb1 hm
  unfold OpenOk at hop
  rw [hkl] at hop
  have Hop := Lib.hid hop
  have x0 := hX.cell 0 _ rfl
  have x1 := hX.cell 1 _ rfl
  clear hop hA hm
  go_enter Tryd.func19, Tryd.ntmps19
  go_wp2_with fail
  rw [← hW]
  clear hW
  refine Hop.out.mono ?_
  rintro e w2 ⟨A1, c1, rfl, hr2, hb2⟩
  have hR2 := hR.later hb2
  have hm2 := cell_later hb2 hm1
  have hb3 := btr hb1 hb2
  have hs2 := hb2.size
  have hq2 : w.heap.size + 2 ≤ w2.heap.size := by omega
  clear Hop hX hR x0 x1 hb1 hb2 hs2 hm1
  have hbA : Below w2.heap.size w2 (w2.alloc (.cells #[.slice A1 k c1, .int .i64 sy] 42)) := (Below.refl _ w2).alloc (Nat.le_refl _) _
  have hT := Bk.new w2 [.slice A1 k c1, .int .i64 sy] 42
  have hR3 := hR2.later hbA
  have hr3 := row_later hbA hr2
  have hm3 := cell_later hbA hm2
  have hb4 := btr hb3 hbA
  clear hR2 hb3 hbA hr2 hm2
  go_upto_region 4 with fail
  generalize w2.alloc (.cells #[.slice A1 k c1, .int .i64 sy] 42) = w3 at *
  have hr3' : w3.ownsRow W.heap.size 5 1 (.slice A1 k c1) ((tapeN bs).take k).length (u8s ((tapeN bs).take k)) := by rw [hkl]; exact hr3
  have hB3 := bs_of_own hr3' hkl.symm
  have Hr3 := Lib.hid hr3'
  have hT3 := Lib.hid hT
  have HR3 := Lib.hid hR3
  have HB3 := Lib.hid hB3
  have Hm3 := Lib.hid hm3
  have Hb4 := Lib.hid hb4
  have Hg := Lib.hid hg
  have Hkl := Lib.hid hkl
  have hcap := own_cap hr3
  have htq := hT.lt
  clear hT hR3 hB3 hm3 hb4 hr3 hr3' hg hkl
  go_upto_region 6 with fail
  go_loopw [7, 8] (fun v i wr => ∃ (j : Nat) (q : List (BatS × Value)), j ≤ bs.length ∧ Hid (q.map Prod.fst = bs.take j) ∧ i = .int .i64 (tapeN (bs.take j)).length ∧ (tapeN (bs.take j)).length ≤ k ∧ Hid (RowQ wr w3.heap.size v q) ∧ Hid (Below w3.heap.size w3 wr)) (fun _ i _ => k - (intOf i).toNat)
  case atStart => exact ⟨0, [], Nat.zero_le _, Lib.hid rfl, rfl, Nat.zero_le _, Lib.hid (RowQ.nil _ _), Lib.hid (Below.refl _ _)⟩
  case round =>
    obtain ⟨j, q, hj, Hq, rfl, hjk, HQ, HB⟩ := hrel
    have hdr := tape_drop bs j k
    have hwh := whole_at bs j hj k hjk
    have hct := tape_cut bs j k hjk
    generalize hat : (tapeN (bs.take j)).length = at' at *
    have t0 := (hT3.out.later HB.out).cell 0 _ rfl
    have a0 : (0 : Int) ≤ (at' : Int) := by omega
    have a1 : (at' : Int) ≤ (k : Int) := by omega
    have Hdr := Lib.hid hdr
    have Hwh := Lib.hid hwh
    have Hct := Lib.hid hct
    have Hat := Lib.hid hat
    clear hdr hwh hct hat
    go_upto_region 7 with fail
    have hsl : BS wr wr.heap.size (if c1 = at' then A1 else Option.map (fun x => x.add at') A1) (c1 - at') (((tapeN bs).take k).drop at') := bs_drop (HB3.out.later HB.out) at' (by rw [Hkl.out]; exact hjk)
    rw [Hdr.out] at hsl
    generalize (if c1 = at' then A1 else Option.map (fun x => x.add at') A1) = A2 at *
    have hcs := rd_cases bs Hg.out j (k - at') hj
    have hDl : ((tapeN (bs.drop j)).take (k - at')).length = k - at' := by rw [← Hdr.out, List.length_drop, Hkl.out]
    generalize (tapeN (bs.drop j)).take (k - at') = D at *
    have hbA : Below wr.heap.size wr (wr.alloc (.cells #[.slice A2 (k - at') (c1 - at'), .bool false] 68)) := (Below.refl _ wr).alloc (Nat.le_refl _) _
    have hrs : RS (wr.alloc (.cells #[.slice A2 (k - at') (c1 - at'), .bool false] 68)) wr.heap.size wr.heap.size D false := ⟨A2, c1 - at', by rw [hDl]; exact World.alloc_heap_new wr _, hsl.below hbA (Nat.le_refl _)⟩
    have hb5 := hbA
    have hsA : (wr.alloc (.cells #[.slice A2 (k - at') (c1 - at'), .bool false] 68)).heap.size = wr.heap.size + 1 := by simp
    have hws := HB.out.size
    generalize wr.alloc (.cells #[.slice A2 (k - at') (c1 - at'), .bool false] 68) = w5 at *
    have Hcs := Lib.hid hcs
    clear hbA hsl hcs t0
    have hnum := number_calls wr.heap.size 3 wr.heap.size (D, false) w5 (Nat.le_refl _) hrs (by show D.length ≤ _; omega) (by decide)
    have hln := rdNum_len 3 (D, false)
    simp only at hln
    have htk : ∀ W, RS W wr.heap.size wr.heap.size (rdNum 3 (D, false)).2.1 (rdNum 3 (D, false)).2.2 → _ := fun W h => take_calls wr.heap.size (rdNum 3 (D, false)).1 wr.heap.size (rdNum 3 (D, false)).2 W (Nat.le_refl _) h (by omega)
    have Hnum := Lib.hid hnum
    have Htk := Lib.hid htk
    clear hnum htk hrs hln
    go_wp2_with fail
    refine Hnum.out.mono ?_
    rintro e w6 ⟨rfl, hr6, hm6⟩
    have hb6 := hb5.trans (hm6.below (Nat.le_refl _) (by omega))
    have hs6 := hm6.size
    clear hm6 hb5 Hnum
    go_wp2_with fail
    refine (Htk.out w6 hr6).mono ?_
    rintro e w7 ⟨Af, cf, rfl, hBf, hr7, hm7⟩
    have hb7 := hb6.trans (hm7.below (Nat.le_refl _) (by omega))
    have hs7 := hm7.size
    clear hm7 hb6 Htk hr6
    have hc1 : w7.cell? ⟨wr.heap.size, 1, none⟩ = some (.bool (rdTake (rdNum 3 (D, false)).1 (rdNum 3 (D, false)).2).2.2) := by
      obtain ⟨A, cap, h1, _⟩ := hr7
      exact h1.c1
    have Hb7 := Lib.hid hb7
    clear hr7 hb7
    rcases Hcs.out with ⟨h1, h2⟩ | ⟨b, qq, hbj, hgb, hfr, h1⟩
    · rw [h1] at hc1
      have hjw : whole bs k = j := by rw [Hwh.out, h2]; rfl
      have Hjw := Lib.hid hjw
      have hb8 := HB.out.trans (Hb7.out.mono hws)
      have hT7 := hT3.out.later hb8
      have hR7 := HR3.out.later hb8
      have t0 := hT7.cell 0 _ rfl
      have t1 := hT7.cell 1 _ rfl
      have r0 := hR7.cell 0 _ rfl
      have r1 := hR7.cell 1 _ rfl
      have f0 := hR7.frozen 0
      have f1 := hR7.frozen 1
      have hne : w.heap.size + 1 ≠ w2.heap.size := by omega
      have a2 : (at' : Int) ≤ (c1 : Int) := by omega
      have hKK : w7.drew.cell? ⟨w2.heap.size, 0, none⟩ = some (.slice A1 k c1) ∧ w7.drew.cell? ⟨w2.heap.size, 1, none⟩ = some (.int .i64 sy) := ⟨t0, t1⟩
      have hZ := (hR7.set 0 (.slice A1 at' at')).set 1 (.int .i64 (min (sy : Int) (at' : Int)))
      have hR71 := hR7.set 0 (.slice A1 at' at')
      have hQz := ((HQ.out.later Hb7.out).set hR7 (by decide) (by decide) 0 (.slice A1 at' at')).set hR71 (by decide) (by decide) 1 (.int .i64 (min (sy : Int) (at' : Int)))
      have hrz := own_set (own_set (row_later hb8 Hr3.out) hR7 (by decide) 0 (.slice A1 at' at')) hR71 (by decide) 1 (.int .i64 (min (sy : Int) (at' : Int)))
      have hbz := ((btr Hb4.out hb8).setCell (p := ⟨w.heap.size + 1, 0, none⟩) (by show w.heap.size ≤ w.heap.size + 1; omega) (.slice A1 at' at')).setCell (p := ⟨w.heap.size + 1, 1, none⟩) (by show w.heap.size ≤ w.heap.size + 1; omega) (.int .i64 (min (sy : Int) (at' : Int)))
      have hbc := (bs_of_own hrz Hkl.out.symm).cut at' (by rw [Hkl.out]; exact hjk) at' (Nat.le_refl _) (fun h => by have := (bs_none (bs_of_own hrz Hkl.out.symm) h).1; rw [Hkl.out] at this; omega)
      rw [Hct.out] at hbc
      have HQz := Lib.hid hQz
      have Hbz := Lib.hid hbz
      have Hbc := Lib.hid hbc
      have HZ := Lib.hid hZ
      clear h1 h2 hjw hZ hR71 hQz hrz hbz hbc hR7 hT7 hb8
      go_wp2_with fail
      go_region_held3 (fun W => W.cell? ⟨w2.heap.size, 0, none⟩ = some (.slice A1 k c1) ∧ W.cell? ⟨w2.heap.size, 1, none⟩ = some (.int .i64 sy)) (first | exact hKK | exact ⟨far2 hKK.1 hne, far2 hKK.2 hne⟩)
        (fail)
      have z0 := HZ.out.cell 0 _ rfl
      have z1 := HZ.out.cell 1 _ rfl
      go_wp2_with fail
      exact bodyPost_ret (v := .tuple #[u7, .agg #[.slice A1 at' at', .int .i64 (min (sy : Int) (at' : Int))], .int .i64 0]) (by simp [results, Tryd.results19, go_sem, z0, z1]) rfl (by
        rw [Hjw.out]
        refine ⟨u7, A1, at', ?_, ⟨q, Hq.out, RowQ.base (by have := Hb4.out.size; omega) HQz.out⟩, Hbc.out, Hbz.out.trans ((bdr _).mono Hbz.out.size)⟩
        rw [Hat.out, show ((min sy at' : Nat) : Int) = min (sy : Int) (at' : Int) by omega])
    · have hd := dec_bat b.user b.es hgb.ok
      have hde := decE_of b.user b.es hgb.ok
      have hln := hgb.ln
      have h2 := batN_two b.user b.es
      have hem := hgb.em
      have hjl : j < bs.length := (List.getElem?_eq_some_iff.1 hbj).1
      have htj : bs.take (j + 1) = bs.take j ++ [b] := by rw [List.take_add_one, hbj]; rfl
      have hat2 : (tapeN (bs.take (j + 1))).length = at' + (3 + (batN b.user b.es).length) := by rw [htj, tapeN_snoc, List.length_append, Hat.out, frameN_len]
      rw [frameN_len] at hfr
      rw [h1] at hc1 hBf ⊢
      simp only at hc1 hBf ⊢
      have Htj := Lib.hid htj
      have Hat2 := Lib.hid hat2
      obtain ⟨bu, be⟩ := b
      simp only at hd hde hln h2 hBf hfr hem Htj Hat2 ⊢
      clear h1 hbj hgb htj hat2
      generalize batN bu be = F at *
      have hb8 := HB.out.trans (Hb7.out.mono hws)
      have hdec := decode_calls Af cf F m w7 (hBf.mono (by omega)) (by omega) (cell_later hb8 Hm3.out)
      have Hdec := Lib.hid hdec
      have Hd := Lib.hid hd
      have Hde := Lib.hid hde
      have Hb8 := Lib.hid hb8
      clear hdec hd hde hb8 hBf
      go_wp2_with fail
      refine Hdec.out.mono ?_
      intro e w8 h8
      unfold DecOk at h8
      rw [Hd.out.1] at h8
      obtain ⟨u, v, rfl, hb9, h8⟩ := h8
      rw [if_pos rfl, Hde.out] at h8
      obtain ⟨hu, hrow⟩ := h8
      obtain rfl : u = bu := hu.trans Hd.out.2.1
      obtain ⟨Av, cv, rfl⟩ := own_sliceE hrow
      have hbr := Hb7.out.trans (hb9.mono Hb7.out.size)
      have hs8 := hb9.size
      clear hb9 Hdec Hd Hde hu hc1
      have hbA : Below w8.heap.size w8 (w8.alloc (.cells #[.int .i64 u, .slice Av be.length cv] 25)) := (Below.refl _ w8).alloc (Nat.le_refl _) _
      have hY := Bk.new w8 [.int .i64 u, .slice Av be.length cv] 25
      have hrow9 := row_later hbA hrow
      have hbr9 := btr hbr hbA
      have hs9 := hbA.size
      clear hrow hbr hbA
      go_upto_region 11 with fail
      generalize w8.alloc (.cells #[.int .i64 u, .slice Av be.length cv] 25) = w9 at *
      have y0 := hY.cell 0 _ rfl
      have y1 := hY.cell 1 _ rfl
      have hbL : Below w9.heap.size w9 (w9.alloc (.cells #[.int .i64 u, .slice Av be.length cv] 25)) := (Below.refl _ w9).alloc (Nat.le_refl _) _
      have hnw := new_cells w9 [.int .i64 u, .slice Av be.length cv] 25
      have hQ9 := HQ.out.later (btr hbr9 hbL)
      have hrL := row_base (base2 := w3.heap.size) (by omega) (row_later hbL hrow9)
      have hbB := HB.out.trans ((btr hbr9 hbL).mono hws)
      have hql : q.length ≤ 28 := by
        have := congrArg List.length Hq.out
        rw [List.length_map, List.length_take] at this
        omega
      have hfin : ∀ (v' : Value) (w10 : World), w10.ownsRow w3.heap.size 25 2 v' (q.length + 1) (q.flatMap batCells ++ [.int .i64 u, .slice Av be.length cv]) → (w9.alloc (.cells #[.int .i64 u, .slice Av be.length cv] 25)).grownBy w10 u7.ownBlock →
          RowQ w10 w3.heap.size v' (q ++ [(⟨u, be⟩, .slice Av be.length cv)]) ∧ Below w3.heap.size w3 w10 := fun v' w10 hown hgrow =>
        ⟨RowQ.snoc (b := ⟨u, be⟩) hQ9 hrL hgrow hown, hbB.grown hgrow hbB.size (fun k e => own_base' hQ9.1 k e)⟩
      have Hfin := Lib.hid hfin
      have hq9 := hQ9.1
      clear hfin hbB hrL hQ9 hbr9 hrow9 hY hbL
      go_wp2_with (at_builtin; refine wpList_append_own_at _ rfl _ _ 39 rfl w3.heap.size 25 i0 (.agg #[.int .i64 0, .slice none 0 0]) 2 32 Tryd.underlying39 hi hz0 hz1 hz2 rfl (by decide) u7 q.length (q.flatMap batCells) rfl hq9 ⟨w9.heap.size, 0, none⟩ 1 1 [.int .i64 u, .slice Av be.length cv] rfl rfl hnw (by simp [Value.oneCell']) (by unfold maxLen; omega) (by omega) (by simp; omega) ?_; intro v' w10 hown' hgrow _ hat; obtain ⟨hQ10, hb10⟩ := Hfin.out v' w10 hown' hgrow; have HQ10 := Lib.hid hQ10; have Hb10 := Lib.hid hb10; obtain ⟨A10, c10, rfl⟩ := own_sliceE hown'; clear hown' hgrow hat hQ10 hb10)
      go_roundw
      case rel => exact ⟨j + 1, _, by omega, Lib.hid (by rw [List.map_append, Hq.out, Htj.out]; rfl), by rw [Hat2.out]; go_num, by rw [Hat2.out]; omega, HQ10, Hb10⟩
      case measure => simp [intOf]; omega
end Go.Proofs.YtpncahklapfoaaaDoor
