/- What was synced is recovered behind every crash, and perhaps some more of what was written, in its order: for every list of raw numbers and every two numbers. -/
import Derived.Test.YtpncahklapfoaaaDoorBkLaw
namespace Go.Proofs.YtpncahklapfoaaaDoor
open Go.RowKit
set_option linter.unusedVariables false

set_option maxRecDepth 100000 in
set_option maxHeartbeats 8000000 in
theorem bookKeeps_walk (x : List Chr) (A : Option Addr) (c : Nat) (at' keep m : Int) (w : World) (hx : x.length ≤ c ∧ c ≤ 9223372036854775807) (hA : kChr.Row w A x) (hat : (Lit.int .i64 at').wf = true) (hkw : (Lit.int .i64 keep).wf = true) (hm : w.cell? ⟨0, 0, none⟩ = some (.int .i64 m)) :
    Calls Tryd.prog 8 #[.slice A x.length c, .int .i64 at', .int .i64 keep] w fun e w' => e = .returned (.bool true) ∧ Below w.heap.size w w' := by
  go_enter Tryd.func8, Tryd.ntmps8
  go_wp2_with fail
  refine (batchesOf_calls x A c w (by omega) hx.1 hx.2 hA).mono ?_
  rintro e w1 ⟨bs, A1, c1, rfl, hl, hg, hR1, hb1⟩
  obtain ⟨hB1, _, hc1⟩ := hR1.bats
  have hm1 := cell_later hb1 hm
  have hp0 : (0 : Int) < (bs.length : Int) + 1 := by omega
  have hk := pickN_lt at' ((bs.length : Int) + 1) hp0
  have hpk := fun W => picked_calls at' ((bs.length : Int) + 1) W hat hp0 (by omega)
  have Hpk := Lib.hid hpk
  clear hA hR1 hpk
  go_wp2_with fail
  refine (Hpk.out _).mono ?_
  rintro e w1' ⟨rfl, rfl⟩
  generalize pickN at' ((bs.length : Int) + 1) = k at *
  have hkl : k ≤ bs.length := by omega
  have hlk : (bs.take k).length = k := by rw [List.length_take]; omega
  have htp := taped_calls (bs.take k) A1 k m w1 (hB1.take k) (good_take hg k) (by omega) hm1
  rw [hlk] at htp
  have Htp := Lib.hid htp
  have hk0 : (0 : Int) ≤ (k : Int) := by omega
  have hkc : (k : Int) ≤ (c1 : Int) := by omega
  have hkb : (k : Int) ≤ (bs.length : Int) := by omega
  clear htp Hpk hp0 hk
  go_wp2_with fail
  refine Htp.out.mono ?_
  rintro e w2 ⟨A2, c2, rfl, hr2, hb2⟩
  have htl := tapeN_len bs hg
  have hn0 := tape_mono bs hkl
  rw [List.take_length] at hn0
  have hpos : k = 0 ∨ 0 < (tapeN (bs.take k)).length := by
    by_cases h0 : k = 0
    · exact .inl h0
    · right
      apply tapeN_pos
      intro h
      rw [h] at hlk
      simp at hlk
      omega
  generalize hD0 : tapeN (bs.take k) = D0 at *
  generalize hn0' : D0.length = n0 at *
  have hbA : Below w2.heap.size w2 (w2.alloc (.cells #[.slice A2 n0 c2, .int .i64 0] 42)) := (Below.refl _ w2).alloc (Nat.le_refl _) _
  have hT := Bk.new w2 [.slice A2 n0 c2, .int .i64 0] 42
  have hbs := (bs_of_own (l := D0) (by rw [hn0']; exact hr2) hn0'.symm).later hbA
  have hsy := sync_zero A2 c2 D0 _ hbs (by omega)
  rw [hn0'] at hsy
  have Hsy := Lib.hid hsy
  have HT := Lib.hid hT
  have HbA := Lib.hid hbA
  have HB2 := Lib.hid (hB1.later hb2)
  have Hm2 := Lib.hid (cell_later hb2 hm1)
  have Hb2 := Lib.hid (btr hb1 hb2)
  have Hg := Lib.hid hg
  have HD0 := Lib.hid hD0
  have Hn0 := Lib.hid hn0'
  have hpos' := Lib.hid hpos
  clear hbA hT hbs hsy hm hm1 hr2 hb1 hb2 hB1 hg hD0 hn0' hpos Htp hlk hk0 hkc
  go_upto_region 4 with fail
  generalize w2.alloc (.cells #[.slice A2 n0 c2, .int .i64 0] 42) = w3 at *
  have t0 := HT.out.cell 0 _ rfl
  have t1 := HT.out.cell 1 _ rfl
  go_wp2_with fail
  refine Hsy.out.mono ?_
  rintro e w4 ⟨A3, c3, rfl, hr4, hb4⟩
  have hT4 := HT.out.later hb4
  have y0 := hT4.cell 0 _ rfl
  have y1 := hT4.cell 1 _ rfl
  have f0 := hT4.frozen 0
  have f1 := hT4.frozen 1
  have hT5 := (hT4.set 0 (.slice A3 n0 c3)).set 1 (.int .i64 n0)
  have hr5 := row_base (base2 := w2.heap.size) HbA.out.size (own_set (own_set hr4 hT4 (by decide) 0 (.slice A3 n0 c3)) (hT4.set 0 (.slice A3 n0 c3)) (by decide) 1 (.int .i64 n0))
  have hb5 := ((btr HbA.out hb4).setCell (p := ⟨w2.heap.size, 0, none⟩) (Nat.le_refl _) (.slice A3 n0 c3)).setCell (p := ⟨w2.heap.size, 1, none⟩) (Nat.le_refl _) (.int .i64 n0)
  clear hT4 hr4 hb4 t0 t1
  go_upto_region 5 with fail
  generalize (w4.setCell ⟨w2.heap.size, 0, none⟩ (.slice A3 n0 c3)).setCell ⟨w2.heap.size, 1, none⟩ (.int .i64 n0) = w5 at *
  have HT5 := Lib.hid hT5
  have HR5 := Lib.hid hr5
  have Hb5 := Lib.hid hb5
  have t0 := hT5.cell 0 _ rfl
  have t1 := hT5.cell 1 _ rfl
  clear hT5 hr5 hb5 y0 y1 f0 f1 Hsy HT HbA
  go_upto_region 7 with fail
  go_loopw [13] (fun i wr => ∃ (j : Nat) (v : Option Addr) (cv : Nat), k ≤ j ∧ j ≤ bs.length ∧ i = .int .i64 j ∧ Bk wr w2.heap.size [.slice v (tapeN (bs.take j)).length cv, .int .i64 n0] 42 ∧ Hid (wr.ownsRow w2.heap.size 5 1 (.slice v (tapeN (bs.take j)).length cv) (tapeN (bs.take j)).length (u8s (tapeN (bs.take j)))) ∧ Hid (Below w2.heap.size w2 wr)) (fun i _ => bs.length - (intOf i).toNat)
  case atStart => exact ⟨k, A3, c3, Nat.le_refl _, hkl, rfl, by rw [HD0.out, Hn0.out]; exact HT5.out, by rw [HD0.out, Hn0.out]; exact HR5, Hb5⟩
  case round =>
    obtain ⟨j, v, cv, hkj, hjl, rfl, hT, HO, Hb⟩ := hrel
    clear HT5 HR5 Hb5 t0 t1
    by_cases hlt : j < bs.length
    · have hd := bdr wr
      have hga : bs[j]? = some bs[j] := by simp [hlt]
      obtain ⟨g, off, Ae, ce, hA1, c0, c1', hea⟩ := (HB2.out.later Hb.out).later hd j bs[j] hga
      have hgb := Hg.out bs[j] (List.getElem_mem hlt)
      have htk : tapeN (bs.take (j + 1)) = tapeN (bs.take j) ++ frameN bs[j] := by rw [List.take_succ_eq_append_getElem hlt, tapeN_snoc]
      have hn0j := tape_mono bs hkj
      rw [HD0.out, Hn0.out] at hn0j
      have hlk : (tapeN (bs.take j)).length ≤ j * 3503 := by
        have := tapeN_len (bs.take j) fun b hb => Hg.out b (List.mem_of_mem_take hb)
        have h2 : (bs.take j).length ≤ j := by rw [List.length_take]; omega
        omega
      generalize bs[j] = b at *
      have hfr := frameN_pos b
      have hfl : (frameN b).length ≤ 3503 := by rw [frameN_len]; have := hgb.ln; omega
      generalize tapeN (bs.take j) = T at *
      have t0 := hT.cell 0 _ rfl
      have t1 := hT.cell 1 _ rfl
      have hbs := bs_of_own HO.out rfl
      have hap := fun W (hW : Below wr.drew.heap.size wr.drew W) => append_calls v Ae cv ce T n0 b m W ((hbs.later hd).later hW) (hea.later hW) hgb (by omega) hn0j (cell_later hW (cell_later hd (cell_later Hb.out Hm2.out)))
      unfold AppOk at hap
      have hT2m : (T ++ frameN b).length ≤ 100000 := by rw [List.length_append]; omega
      generalize T ++ frameN b = T2 at *
      have hmk := fun (W : World) (hW : Below wr.drew.heap.size wr.drew W) => And.intro (cell_later hW (cell_later hd t0)) (And.intro (cell_later hW (cell_later hd t1)) (And.intro (cell_later hW c0) (And.intro (cell_later hW c1') hW)))
      have Hmk := Lib.hid hmk
      have Hap := Lib.hid hap
      have Htk := Lib.hid htk
      have HT := Lib.hid hT
      have hj0 : (0 : Int) ≤ (j : Int) := by omega
      have hjn : (j : Int) < (bs.length : Int) := by omega
      have hKK := Hmk.out wr.drew (Below.refl _ _)
      have HA1 := Lib.hid hA1
      clear hmk hap htk hea c0 c1' t0 t1 hga hd hbs hT hgb
      subst hA1
      go_wp2_with fail
      go_region_held3 (fun W => W.cell? ⟨w2.heap.size, 0, none⟩ = some (.slice v T.length cv) ∧ W.cell? ⟨w2.heap.size, 1, none⟩ = some (.int .i64 n0) ∧ W.cell? ⟨g, off + j * 2, none⟩ = some (.int .i64 b.user) ∧ W.cell? ⟨g, off + j * 2 + 1, none⟩ = some (.slice Ae b.es.length ce) ∧ Below wr.drew.heap.size wr.drew W) (first | exact hKK | exact Hmk.out _ (bal (k4 (by first | assumption | exact hS)) _) | (refine Hmk.out _ (Below.setCell (Below.setCell (k4 (by first | assumption | exact hS)) ?_ _) ?_ _) <;> exact Nat.le_refl _))
        (first | (go_at_call 22; (with_reducible refine (Hap.out _ ?_).mono ?_); exact k4 (by first | assumption | exact hS); rintro e w9 ⟨A9, c9, rfl, ho9, hb9⟩; have hKK := Hmk.out w9 (btr (k4 (by first | assumption | exact hS)) hb9); try (have hB9 : Bk w9 wr.heap.size [.slice none 0 0, .int .i64 0] 42 := (Bk.new wr.drew [.slice none 0 0, .int .i64 0] 42).later hb9; have y0 := hB9.cell 0 _ rfl; have y1 := hB9.cell 1 _ rfl; have f0 := hB9.frozen 0; have f1 := hB9.frozen 1)))
      all_goals (
        first
          | (have hW := ts_set n0 (k4 hKK) hB9 (row_base (base2 := wr.drew.heap.size) (by simp) ho9) (Nat.le_refl _)
             clear hKK hb9 Hmk Hap ho9
             generalize (w9.setCell ⟨wr.heap.size, 0, none⟩ (.slice A9 T2.length c9)).setCell ⟨wr.heap.size, 1, none⟩ (.int .i64 n0) = W at *)
          | (have hW := ts_new n0 (k4 hKK) ho9
             clear hKK hb9 Hmk Hap ho9
             generalize w9.alloc (.cells #[.slice A9 T2.length c9, .int .i64 n0] 42) = W at *))
      all_goals (
        obtain ⟨hB6, hbl, hqq, hro⟩ := hW
        have hbw := btr (bdr wr) hbl
        have hT6 := HT.out.later hbw
        have y0 := hB6.cell 0 _ rfl
        have y1 := hB6.cell 1 _ rfl
        have t0 := hT6.cell 0 _ rfl
        have t1 := hT6.cell 1 _ rfl
        have f0 := hT6.frozen 0
        have f1 := hT6.frozen 1
        have hT8 := (hT6.set 0 (.slice A9 T2.length c9)).set 1 (.int .i64 n0)
        have hr8 := own_set (own_set hro hT6 (by decide) 0 (.slice A9 T2.length c9)) (hT6.set 0 (.slice A9 T2.length c9)) (by decide) 1 (.int .i64 n0)
        have hb8 := ((btr Hb.out hbw).setCell (p := ⟨w2.heap.size, 0, none⟩) (Nat.le_refl _) (.slice A9 T2.length c9)).setCell (p := ⟨w2.heap.size, 1, none⟩) (Nat.le_refl _) (.int .i64 n0)
        have HT8 := Lib.hid hT8
        have HR8 := Lib.hid (row_base (base2 := w2.heap.size) Hb.out.size hr8)
        have Hb8 := Lib.hid hb8
        clear hT8 hr8 hb8 hbw hT6 hB6 hbl hqq hro
        go_wp2_with fail
        go_roundw
        case rel => exact ⟨j + 1, A9, c9, by omega, by omega, by go_num, by rw [Htk.out]; exact HT8.out, by rw [Htk.out]; exact HR8, Hb8⟩
        case measure => simp [intOf]; omega)
    · obtain rfl : j = bs.length := by omega
      rw [List.take_length] at hT HO
      have hk := pickN_lt keep 600 (by decide)
      obtain ⟨kp, hkp⟩ : ∃ kp, kp = pickN keep 600 := ⟨_, rfl⟩
      have hpk := fun W => picked_calls keep 600 W hkw (by decide) (by decide)
      rw [← hkp] at hk hpk
      obtain ⟨k2, hk2⟩ : ∃ k2, k2 = n0 + min kp ((tapeN bs).length - n0) := ⟨_, rfl⟩
      have hk2n : k2 ≤ (tapeN bs).length := by omega
      have hkk2 : (tapeN (bs.take k)).length ≤ k2 := by rw [HD0.out, Hn0.out]; omega
      have hkw := whole_ge bs k k2 hkl hkk2
      have hwl := whole_le bs k2
      have hrec := fun A c W hA hm => recover_cut bs k2 A c m W hA Hg.out (by omega) hk2n hm
      have hcr := crash_part v cv (tapeN bs) n0 kp k2 wr.drew ((bs_of_own HO.out rfl).later (bdr wr)) (by omega) hn0 (by omega) hk2
      obtain ⟨j, hj⟩ : ∃ j, j = whole bs k2 := ⟨_, rfl⟩
      rw [← hj] at hrec hkw hwl
      have hdm := tape_mono bs hkw
      rw [HD0.out, Hn0.out] at hdm
      have hgk : (bs.take j).length = j := by rw [List.length_take]; omega
      have hpre := take_pre bs j
      have hem : ∀ b ∈ bs.take j, b.es.length ≤ 1000 := fun b hb => by have := (Hg.out b (List.mem_of_mem_take hb)).em; omega
      generalize hgs : bs.take j = gs at *
      generalize tapeN gs = G at *
      generalize hdn : G.length = dn at *
      generalize tapeN bs = D at *
      generalize hn : D.length = n at *
      have Hrec := Lib.hid hrec
      have Hcr := Lib.hid hcr
      have Hpk := Lib.hid hpk
      have Hn := Lib.hid hn
      have HT := Lib.hid hT
      have Hpre := Lib.hid hpre
      have Hem := Lib.hid hem
      have Hgk := Lib.hid hgk
      have hjk : ¬ (j : Int) < (k : Int) := by omega
      have hjk2 : (k : Int) ≤ (j : Int) := by omega
      have hdm2 : (n0 : Int) ≤ (dn : Int) := by omega
      have hwt := hT.lt
      have t0 := hT.cell 0 _ rfl
      have t1 := hT.cell 1 _ rfl
      have hbn : ¬ (bs.length : Int) < (bs.length : Int) := by omega
      clear hrec hcr hpk hk hn hkp hk2 hj hgs hdn hT hpre hem hgk HD0 Hn0 HO
      go_upto_region 13 with fail
      go_wp2_with fail
      go_region_with (first
          | (go_at_call 16; (with_reducible refine (Hpk.out _).mono ?_); rintro e w' ⟨rfl, rfl⟩)
          | (go_at_call 21; (with_reducible refine Hcr.out.mono ?_); rintro e w9 ⟨A9, c9, rfl, ho9, hb9⟩; have hB9 := HT.out.later (btr (bdr wr) hb9); have y0 := hB9.cell 0 _ rfl; have y1 := hB9.cell 1 _ rfl; have f0 := hB9.frozen 0; have f1 := hB9.frozen 1))
      all_goals (
        have hbs9 := ((ho9.setT hB9 (by simp) 0 (.slice A9 k2 c9)).setT (hB9.set 0 (.slice A9 k2 c9)) (by simp) 1 (.int .i64 k2)).mono (B2 := ((w9.setCell ⟨w2.heap.size, 0, none⟩ (.slice A9 k2 c9)).setCell ⟨w2.heap.size, 1, none⟩ (.int .i64 k2)).heap.size) (by simp)
        have hT9 := (hB9.set 0 (.slice A9 k2 c9)).set 1 (.int .i64 k2)
        have hb9' := ((btr Hb.out (btr (bdr wr) hb9)).setCell (p := ⟨w2.heap.size, 0, none⟩) (Nat.le_refl _) (.slice A9 k2 c9)).setCell (p := ⟨w2.heap.size, 1, none⟩) (Nat.le_refl _) (.int .i64 k2)
        clear hB9 y0 y1 f0 f1 ho9 hb9 t0 t1
        go_upto_region 14 with fail
        generalize (w9.setCell ⟨w2.heap.size, 0, none⟩ (.slice A9 k2 c9)).setCell ⟨w2.heap.size, 1, none⟩ (.int .i64 k2) = W at *
        have t0 := hT9.cell 0 _ rfl
        have t1 := hT9.cell 1 _ rfl
        have Hb9 := Lib.hid hb9'
        have hcall := Hrec.out _ _ W hbs9 (cell_later hb9' Hm2.out)
        have Hcall := Lib.hid hcall
        clear hcall hb9' hbs9 hT9
        go_wp2_with fail
        refine Hcall.out.mono ?_
        rintro e w10 ⟨v10, A10, c10, rfl, hR10, hB10, hb10⟩
        obtain ⟨Av, cv, rfl⟩ := hR10.len
        obtain ⟨hG10, _, _⟩ := hR10.bats
        have hal : Below w10.heap.size w10 (w10.alloc (.cells #[.slice A10 dn c10, .int .i64 dn] 42)) := (Below.refl _ w10).alloc (Nat.le_refl _) _
        have hU := Bk.new w10 [.slice A10 dn c10, .int .i64 dn] 42
        have HU := Lib.hid hU
        have HG11 := Lib.hid (hG10.later hal)
        have hb11 := btr Hb9.out (btr hb10 hal)
        have Hb11 := Lib.hid hb11
        have hbg := fun h1 h2 => begins_calls gs bs Av A1 cv c1 (w10.alloc (.cells #[.slice A10 dn c10, .int .i64 dn] 42)) (hG10.later hal) (HB2.out.later hb11) Hpre.out h1 h2 Hem.out
        have hbg := hbg (by rw [Hgk.out]; omega) (by omega)
        rw [Hgk.out] at hbg ⊢
        have Hbg := Lib.hid hbg
        clear hal hU hG10 hB10 hR10 hb10 hb11 hbg t0 t1
        go_upto_region 15 with fail
        generalize w10.alloc (.cells #[.slice A10 dn c10, .int .i64 dn] 42) = w11 at *
        go_wp2_with fail
        refine Hbg.out.mono ?_
        rintro e w12 ⟨rfl, hb12⟩
        have u0 := (HU.out.later hb12).cell 0 _ rfl
        have u1 := (HU.out.later hb12).cell 1 _ rfl
        have Hbz := Lib.hid (btr Hb2.out (btr Hb11.out hb12))
        clear hb12 Hbg
        rcases hpos'.out with h0 | h0
        · subst h0
          go_wp2_with fail
          go_ret
          exact ⟨rfl, Hbz.out⟩
        · have hn00 : (0 : Int) < (n0 : Int) := by omega
          by_cases hkz : k = 0
          · subst hkz
            go_wp2_with fail
            go_ret
            exact ⟨rfl, Hbz.out⟩
          · have hkz' : ((k : Int) == 0) = false := by rw [beq_eq_false_iff_ne]; omega
            go_wp2_with fail
            go_ret
            exact ⟨rfl, Hbz.out⟩)
end Go.Proofs.YtpncahklapfoaaaDoor
