/- Behind a crash one goes on: what is written then is recovered, too: for every two lists of raw numbers and every number. -/
import Derived.Test.YtpncahklapfoaaaDoorBkLaw
namespace Go.Proofs.YtpncahklapfoaaaDoor
open Go.RowKit
set_option linter.unusedVariables false

set_option maxRecDepth 100000 in
set_option maxHeartbeats 4000000 in
theorem bookOn_walk (x : List Chr) (A : Option Addr) (c : Nat) (keep : Int) (y : List Chr) (A' : Option Addr) (c' : Nat) (m : Int) (w : World) (hx : x.length ≤ c ∧ c ≤ 9223372036854775807) (hA : kChr.Row w A x) (hat : (Lit.int .i64 keep).wf = true) (hy : y.length ≤ 9223372036854775807) (hA' : kChr.Row w A' y) (hm : w.cell? ⟨0, 0, none⟩ = some (.int .i64 m)) :
    Calls Tryd.prog 7 #[.slice A x.length c, .int .i64 keep, .slice A' y.length c'] w fun e w' => e = .returned (.bool true) ∧ Below w.heap.size w w' := by
  go_enter Tryd.func7, Tryd.ntmps7
  go_wp2_with fail
  refine (batchesOf_calls x A c w (by omega) hx.1 hx.2 hA).mono ?_
  rintro e w1 ⟨bs, A1, c1, rfl, hl, hg, hR1, hb1⟩
  obtain ⟨hB1, _, _⟩ := hR1.bats
  have hm1 := cell_later hb1 hm
  clear hA hR1
  go_wp2_with fail
  refine (taped_calls bs A1 c1 m w1 hB1 hg (by omega) hm1).mono ?_
  rintro e w2 ⟨A2, c2, rfl, hr2, hb2⟩
  have htl := tapeN_len bs hg
  have hk := pickN_lt keep 600 (by decide)
  obtain ⟨kp, hkp⟩ : ∃ kp, kp = pickN keep 600 := ⟨_, rfl⟩
  rw [← hkp] at hk
  obtain ⟨k, hkk⟩ : ∃ k, k = min kp (tapeN bs).length := ⟨_, rfl⟩
  have hkn : k ≤ (tapeN bs).length := by omega
  have hrec := fun A c W hA hm => recover_cut bs k A c m W hA hg (by omega) hkn hm
  have hbA : Below w2.heap.size w2 (w2.alloc (.cells #[.slice A2 (tapeN bs).length c2, .int .i64 0] 42)) := (Below.refl _ w2).alloc (Nat.le_refl _) _
  have hT := Bk.new w2 [.slice A2 (tapeN bs).length c2, .int .i64 0] 42
  have hbs := (bs_of_own hr2 rfl).later hbA
  have hb3 := btr hb2 hbA
  have hm3 := cell_later hb3 hm1
  have hb3 := btr hb1 hb3
  have hcr := crash_zero A2 c2 (tapeN bs) kp k (w2.alloc (.cells #[.slice A2 (tapeN bs).length c2, .int .i64 0] 42)).drew hbs (by omega) (by omega) hkk
  have hpk := fun W => picked_calls keep 600 W hat (by decide) (by decide)
  rw [← hkp] at hpk
  have hwj := whole_le bs k
  obtain ⟨j, hj⟩ : ∃ j, j = whole bs k := ⟨_, rfl⟩
  rw [← hj] at hrec hwj
  have hgj := good_take hg j
  have hlj : (bs.take j).length ≤ bs.length := by rw [List.length_take]; omega
  generalize bs.take j = gs at *
  have hgl := tapeN_len gs hgj
  have hE := batchOf_calls y A' c' 1
  have hgd := batE_good y 1
  unfold BatOf at hE
  generalize batE y = E at *
  generalize hU : (pickN 1 3 : Int) = U at *
  have hsn := tapeN_snoc gs ⟨U, E⟩
  have hrec2 := fun A c W hA hm => recover_all (gs ++ [⟨U, E⟩]) (tapeN gs).length A c m W hA (fun b hb => by
    rcases List.mem_append.1 hb with hb | hb
    · exact hgj b hb
    · simp only [List.mem_singleton] at hb
      subst hb
      exact hgd) (by rw [List.length_append, List.length_singleton]; omega) (by rw [hsn, List.length_append]; omega) hm
  rw [hsn] at hrec2
  generalize tapeN gs = G at *
  have hap := fun A Ae c ce W hA hE hm => append_calls A Ae c ce G G.length ⟨U, E⟩ m W hA hE hgd (by have := hgd.ln; rw [frameN_len]; omega) (Nat.le_refl _) hm
  unfold AppOk at hap
  generalize hF : G ++ frameN ⟨U, E⟩ = F at *
  generalize hdn : G.length = dn at *
  generalize hfn : F.length = fn at *
  have HE := Lib.hid hE
  have Hrec2 := Lib.hid hrec2
  have Hap := Lib.hid hap
  have Hdn := Lib.hid hdn
  have Hfn := Lib.hid hfn
  have hEm := hgd.em
  clear hE hrec2 hap hdn hfn hF hsn hgd hU
  generalize tapeN bs = D at *
  generalize hn : D.length = n at *
  have Hg := Lib.hid hgj
  have Hrec := Lib.hid hrec
  have Hcr := Lib.hid hcr
  have Hpk := Lib.hid hpk
  have Hn := Lib.hid hn
  have HT := Lib.hid hT
  have Hm3 := Lib.hid hm3
  have Hb3 := Lib.hid hb3
  have HA' := Lib.hid hA'
  have Hm := Lib.hid hm
  have hw2 := (btr hb1 hb2).size
  have ht2 := hT.lt
  clear hB1 hm1 hr2 hb1 hb2 hbA hg hn hrec hpk hk hcr hbs hm3 hb3 hgj hkp hkk hj hwj hA' hm
  go_upto_region 2 with fail
  generalize w2.alloc (.cells #[.slice A2 n c2, .int .i64 0] 42) = w3 at *
  have t0 := hT.cell 0 _ rfl
  have t1 := hT.cell 1 _ rfl
  have hKK : Below w2.heap.size w3.drew w3.drew := Below.refl _ _
  clear hT
  go_wp2_with fail
  go_region_with (first
      | (go_at_call 16; (with_reducible refine (Hpk.out _).mono ?_); rintro e w' ⟨rfl, rfl⟩)
      | (go_at_call 21; (with_reducible refine Hcr.out.mono ?_); rintro e w9 ⟨A9, c9, rfl, ho9, hb9⟩; have hB9 := HT.out.later (btr (bdr w3) hb9); have y0 := hB9.cell 0 _ rfl; have y1 := hB9.cell 1 _ rfl; have f0 := hB9.frozen 0; have f1 := hB9.frozen 1))
  all_goals (
    have hbs9 := ((ho9.setT hB9 (by simp) 0 (.slice A9 k c9)).setT (hB9.set 0 (.slice A9 k c9)) (by simp) 1 (.int .i64 k)).mono (B2 := ((w9.setCell ⟨w2.heap.size, 0, none⟩ (.slice A9 k c9)).setCell ⟨w2.heap.size, 1, none⟩ (.int .i64 k)).heap.size) (by simp)
    have hT9 := (hB9.set 0 (.slice A9 k c9)).set 1 (.int .i64 k)
    have hb9' := ((btr Hb3.out (btr (bdr w3) hb9)).setCell (p := ⟨w2.heap.size, 0, none⟩) hw2 (.slice A9 k c9)).setCell (p := ⟨w2.heap.size, 1, none⟩) hw2 (.int .i64 k)
    clear hB9 y0 y1 f0 f1 ho9 hb9 t0 t1
    go_upto_region 3 with fail
    generalize (w9.setCell ⟨w2.heap.size, 0, none⟩ (.slice A9 k c9)).setCell ⟨w2.heap.size, 1, none⟩ (.int .i64 k) = W at *
    have t0 := hT9.cell 0 _ rfl
    have t1 := hT9.cell 1 _ rfl
    have Hb9 := Lib.hid hb9'
    have hcall := Hrec.out _ _ W hbs9 (cell_later hb9' Hm.out)
    have Hcall := Lib.hid hcall
    clear hcall hb9' hbs9 hT9
    go_wp2_with fail
    refine Hcall.out.mono ?_
    rintro e w10 ⟨v10, A10, c10, rfl, hR10, hB10, hb10⟩
    obtain ⟨Av, cv, rfl⟩ := hR10.len
    obtain ⟨hG10, _, _⟩ := hR10.bats
    have hal : Below w10.heap.size w10 (w10.alloc (.cells #[.slice A10 dn c10, .int .i64 dn] 42)) := (Below.refl _ w10).alloc (Nat.le_refl _) _
    have hU := Bk.new w10 [.slice A10 dn c10, .int .i64 dn] 42
    have HU := Lib.hid hU
    have HG11 := Lib.hid (hG10.later hal)
    have HB11 := Lib.hid (hB10.later hal)
    have hb11 := btr Hb9.out (btr hb10 hal)
    have Hb11 := Lib.hid hb11
    have hcall := HE.out _ hy (HA'.out.later hb11) (by decide)
    have Hcall := Lib.hid hcall
    clear hal hU hG10 hB10 hR10 hb10 hb11 hcall t0 t1
    go_upto_region 4 with fail
    generalize w10.alloc (.cells #[.slice A10 dn c10, .int .i64 dn] 42) = w11 at *
    go_wp2_with fail
    refine Hcall.out.mono ?_
    rintro e w12 ⟨v12, rfl, hr12, hb12⟩
    obtain ⟨A12, c12, rfl⟩ := own_sliceE hr12
    have hal : Below w12.heap.size w12 (w12.alloc (.cells #[.int .i64 U, .slice A12 E.length c12] 25)) := (Below.refl _ w12).alloc (Nat.le_refl _) _
    have hP := Bk.new w12 [.int .i64 U, .slice A12 E.length c12] 25
    have hE13 := (ownsRow_ents hr12 rfl).later hal
    have hb13 := btr hb12 hal
    have HP := Lib.hid hP
    have HE13 := Lib.hid hE13
    have HU13 := Lib.hid (HU.out.later hb13)
    have HG13 := Lib.hid (HG11.out.later hb13)
    have HB13 := Lib.hid (HB11.out.later hb13)
    have Hb13 := Lib.hid (btr Hb11.out hb13)
    clear hal hP hE13 hb13 hr12 hb12
    go_upto_region 5 with fail
    generalize w12.alloc (.cells #[.int .i64 U, .slice A12 E.length c12] 25) = w13 at *
    have u0 := HU13.out.cell 0 _ rfl
    have u1 := HU13.out.cell 1 _ rfl
    have p0 := HP.out.cell 0 _ rfl
    have p1 := HP.out.cell 1 _ rfl
    have hcall := Hap.out A10 A12 c10 c12 w13 HB13.out HE13.out (cell_later Hb13.out Hm.out)
    have Hcall := Lib.hid hcall
    clear hcall
    go_wp2_with fail
    refine Hcall.out.mono ?_
    rintro e w14 ⟨A14, c14, rfl, hr14, hb14⟩
    have hal : Below w14.heap.size w14 (w14.alloc (.cells #[.slice A14 fn c14, .int .i64 dn] 42)) := (Below.refl _ w14).alloc (Nat.le_refl _) _
    have hT14 := Bk.new w14 [.slice A14 fn c14, .int .i64 dn] 42
    have hbs15 := (bs_of_own (l := F) (by rw [Hfn.out]; exact hr14) Hfn.out.symm).later hal
    have hb15 := btr hb14 hal
    have HT14 := Lib.hid hT14
    have HBS15 := Lib.hid hbs15
    have HP15 := Lib.hid (HP.out.later hb15)
    have HE15 := Lib.hid (HE13.out.later hb15)
    have HG15 := Lib.hid (HG13.out.later hb15)
    have Hb15 := Lib.hid (btr Hb13.out hb15)
    clear hal hT14 hbs15 hb15 hr14 hb14 u0 u1 p0 p1
    go_upto_region 6 with fail
    generalize w14.alloc (.cells #[.slice A14 fn c14, .int .i64 dn] 42) = w15 at *
    have t0 := HT14.out.cell 0 _ rfl
    have t1 := HT14.out.cell 1 _ rfl
    have hcall := Hrec2.out A14 c14 w15 HBS15.out (cell_later Hb15.out Hm.out)
    have Hcall := Lib.hid hcall
    clear hcall
    go_wp2_with fail
    refine Hcall.out.mono ?_
    rintro e w16 ⟨v16, A16, c16, rfl, hR16, hB16, hb16⟩
    obtain ⟨Av16, cv16, rfl⟩ := hR16.len
    obtain ⟨hG16, _, _⟩ := hR16.bats
    have hL : (gs ++ [⟨U, E⟩] : List BatS).length = gs.length + 1 := by simp
    have hal : Below w16.heap.size w16 (w16.alloc (.cells #[.slice A16 fn c16, .int .i64 dn] 42)) := (Below.refl _ w16).alloc (Nat.le_refl _) _
    have hb17 := (btr hb16 hal)
    have HG17 := Lib.hid (hG16.later hal)
    have HP17 := Lib.hid (HP15.out.later hb17)
    have HE17 := Lib.hid (HE15.out.later hb17)
    have Hg17 := Lib.hid (HG15.out.later hb17)
    have Hb17 := Lib.hid (btr Hb15.out hb17)
    clear hal hb17 hR16 hG16 hB16 hb16 t0 t1
    rw [hL]
    have HL := Lib.hid hL
    clear hL
    go_upto_region 7 with fail
    generalize w16.alloc (.cells #[.slice A16 fn c16, .int .i64 dn] 42) = w17 at *
    have hd := bdr w17
    have hbg := fun W (hW : Below w17.drew.heap.size w17.drew W) => begins_calls gs (gs ++ [⟨U, E⟩]) Av Av16 cv cv16 W ((Hg17.out.later hd).later hW) ((HG17.out.later hd).later hW) (fun k b h => by rw [List.getElem?_append_left (List.getElem?_eq_some_iff.1 h).1]; exact h) (by rw [HL.out]; omega) (by rw [HL.out]; omega) (fun b hb => by have := (Hg.out b hb).em; omega)
    rw [HL.out] at hbg
    obtain ⟨g16, o16, Ae, ce, rfl, e0, e1, hee⟩ := (HG17.out.later hd) gs.length ⟨U, E⟩ (by simp)
    have p0 := (HP17.out.later hd).cell 0 _ rfl
    have p1 := (HP17.out.later hd).cell 1 _ rfl
    have hsb := fun W (hW : Below w17.drew.heap.size w17.drew W) => same_batch U E Ae A12 ce c12 W (hee.later hW) ((HE17.out.later hd).later hW) (by omega)
    have hmk := fun (W : World) (hW : Below w17.drew.heap.size w17.drew W) => And.intro (cell_later hW e0) (And.intro (cell_later hW e1) (And.intro (cell_later hW p0) (And.intro (cell_later hW p1) hW)))
    have Hmk := Lib.hid hmk
    have Hbg := Lib.hid hbg
    have Hsb := Lib.hid hsb
    have Hdd := Lib.hid hd
    have hi0 : (0 : Int) ≤ (gs.length : Int) := by omega
    have hi1 : (gs.length : Int) < ((gs.length + 1 : Nat) : Int) := by omega
    have hi2 : (gs.length : Int) < (gs.length : Int) + 1 := by omega
    have hwn : IntKind.i64.wrap ((gs.length : Int) + 1) = (gs.length : Int) + 1 := by rw [IntKind.wrap_i64]; omega
    have heq : (((gs.length + 1 : Nat) : Int) == (gs.length : Int) + 1) = true := by rw [beq_iff_eq]; omega
    have hKK := Hmk.out w17.drew (Below.refl _ _)
    clear hmk hbg hsb hd hee e0 e1 p0 p1
    go_wp2_with fail
    go_region_held3 (fun W => W.cell? ⟨g16, o16 + gs.length * 2, none⟩ = some (.int .i64 U) ∧ W.cell? ⟨g16, o16 + gs.length * 2 + 1, none⟩ = some (.slice Ae E.length ce) ∧ W.cell? ⟨w12.heap.size, 0, none⟩ = some (.int .i64 U) ∧ W.cell? ⟨w12.heap.size, 1, none⟩ = some (.slice A12 E.length c12) ∧ Below w17.drew.heap.size w17.drew W) (first | exact hKK | assumption | exact hS)
      (first
        | (go_at_call 20; (with_reducible refine (Hbg.out _ ?_).mono ?_); exact k4 (by first | assumption | exact hS); rintro e w18 ⟨rfl, hb18⟩; have hKK := Hmk.out w18 (btr (k4 (by first | assumption | exact hS)) hb18))
        | (go_at_call 14; (with_reducible refine (Hsb.out _ ?_).mono ?_); exact k4 (by first | assumption | exact hS); rintro e w19 ⟨rfl, hb19⟩; have hKK := Hmk.out w19 (btr (k4 (by first | assumption | exact hS)) hb19)))
    all_goals (
      have Hbz := Lib.hid (btr Hb17.out (btr Hdd.out (k4 hKK)))
      clear hKK
      go_wp2_with fail
      go_ret
      exact ⟨rfl, Hbz.out⟩))
end Go.Proofs.YtpncahklapfoaaaDoor
