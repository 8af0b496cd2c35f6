/- What is synced whole is recovered whole, whatever a crash keeps: for every list of raw numbers and every number. -/
import Derived.Test.YtpncahklapfoaaaDoorBkLaw
namespace Go.Proofs.YtpncahklapfoaaaDoor
open Go.RowKit
set_option linter.unusedVariables false

set_option maxRecDepth 100000 in
set_option maxHeartbeats 4000000 in
theorem bookSynced_walk (x : List Chr) (A : Option Addr) (c : Nat) (keep m : Int) (w : World) (hx : x.length ≤ c ∧ c ≤ 9223372036854775807) (hA : kChr.Row w A x) (hat : (Lit.int .i64 keep).wf = true) (hm : w.cell? ⟨0, 0, none⟩ = some (.int .i64 m)) :
    Calls Tryd.prog 9 #[.slice A x.length c, .int .i64 keep] w fun e w' => e = .returned (.bool true) ∧ Below w.heap.size w w' := by
  go_enter Tryd.func9, Tryd.ntmps9
  go_wp2_with fail
  refine (batchesOf_calls x A c w (by omega) hx.1 hx.2 hA).mono ?_
  rintro e w1 ⟨bs, A1, c1, rfl, hl, hg, hR1, hb1⟩
  obtain ⟨hB1, _, _⟩ := hR1.bats
  have hm1 := cell_later hb1 hm
  clear hA hR1
  go_wp2_with fail
  refine (taped_calls bs A1 c1 m w1 hB1 hg (by omega) hm1).mono ?_
  rintro e w2 ⟨A2, c2, rfl, hr2, hb2⟩
  have htl := tapeN_len bs hg
  have hrec := fun A c W hA hm => recover_all bs (tapeN bs).length A c m W hA hg (by omega) (Nat.le_refl _) hm
  have hbA : Below w2.heap.size w2 (w2.alloc (.cells #[.slice A2 (tapeN bs).length c2, .int .i64 0] 42)) := (Below.refl _ w2).alloc (Nat.le_refl _) _
  have hT := Bk.new w2 [.slice A2 (tapeN bs).length c2, .int .i64 0] 42
  have hbs := (bs_of_own hr2 rfl).later hbA
  have hb3 := btr hb2 hbA
  have hB3 := hB1.later hb3
  have hm3 := cell_later hb3 hm1
  have hb3 := btr hb1 hb3
  have hsy := sync_zero A2 c2 (tapeN bs) _ hbs (by omega)
  have hcz := fun W hA => crash_zero_bad A2 c2 (tapeN bs) W hA (by omega)
  have hca := fun A c k W hA hk => crash_all A c (tapeN bs) k W hA (by omega) hk
  have hpk := fun W => picked_calls keep 1000 W hat (by decide) (by decide)
  have hk := pickN_lt keep 1000 (by decide)
  generalize tapeN bs = D at *
  generalize hn : D.length = n at *
  generalize pickN keep 1000 = k at *
  have hkl : k ≤ 100000 := by omega
  have Hg := Lib.hid hg
  have Hrec := Lib.hid hrec
  have Hsy := Lib.hid hsy
  have Hcz := Lib.hid hcz
  have Hca := Lib.hid hca
  have Hpk := Lib.hid hpk
  have Hn := Lib.hid hn
  clear hB1 hm1 hr2 hb1 hb2 hbA hg hn hrec hsy hcz hca hpk hk
  have HT := Lib.hid hT
  have HBS := Lib.hid hbs
  have HB3 := Lib.hid hB3
  have Hm3 := Lib.hid hm3
  have Hb3 := Lib.hid hb3
  clear hbs hB3 hm3 hb3
  go_upto_region 3 with fail
  generalize w2.alloc (.cells #[.slice A2 n c2, .int .i64 0] 42) = w3 at *
  have t0 := hT.cell 0 _ rfl
  have t1 := hT.cell 1 _ rfl
  go_wp2_with fail
  refine Hsy.out.mono ?_
  rintro e w4 ⟨A3, c3, rfl, hr4, hb4⟩
  have hal : Below w4.heap.size w4 (w4.alloc (.cells #[.slice A3 n c3, .int .i64 n] 42)) := (Below.refl _ w4).alloc (Nat.le_refl _) _
  have hU := Bk.new w4 [.slice A3 n c3, .int .i64 n] 42
  have hBS5 := (bs_of_own (l := D) (by rw [Hn.out]; exact hr4) Hn.out.symm).later hal
  have Hb35 := Lib.hid (btr hb4 hal)
  clear hT t0 t1 hb4 hal hr4 Hsy
  go_upto_region 4 with fail
  generalize w4.alloc (.cells #[.slice A3 n c3, .int .i64 n] 42) = w5 at *
  have hd := bdr w5
  have hcr := fun W (hW : Below w5.drew.heap.size w5.drew W) => Hca.out A3 c3 k W ((hBS5.later hd).later hW) hkl
  have hmk := fun (W : World) (hW : Below w5.drew.heap.size w5.drew W) => And.intro (((hU.later hd).later hW).cell 0 _ rfl) (And.intro (((hU.later hd).later hW).cell 1 _ rfl) hW)
  have Hmk := Lib.hid hmk
  have Hcr := Lib.hid hcr
  have hKK := Hmk.out w5.drew (Below.refl _ _)
  clear hmk hcr hd hU hBS5
  go_wp2_with fail
  go_region_held3 (fun W => W.cell? ⟨w4.heap.size, 0, none⟩ = some (.slice A3 n c3) ∧ W.cell? ⟨w4.heap.size, 1, none⟩ = some (.int .i64 n) ∧ Below w5.drew.heap.size w5.drew W) (first | exact hKK | assumption | exact hS | exact Hmk.out _ (bal (k2 (by first | assumption | exact hS)) _) | (refine Hmk.out _ (Below.setCell (Below.setCell (k2 (by first | assumption | exact hS)) ?_ _) ?_ _) <;> exact Nat.le_refl _))
    (first
      | (go_at_call 16; (with_reducible refine (Hpk.out _).mono ?_); rintro e w' ⟨rfl, rfl⟩)
      | (go_at_call 21; (with_reducible refine (Hcr.out _ ?_).mono ?_); exact k2 (by first | assumption | exact hS); rintro e w9 ⟨A9, c9, rfl, ho9, hb9⟩; have hKK := Hmk.out w9 (btr (k2 (by first | assumption | exact hS)) hb9); try (have hB9 : Bk w9 w5.heap.size [.slice none 0 0, .int .i64 0] 42 := (Bk.new w5.drew [.slice none 0 0, .int .i64 0] 42).later hb9; have y0 := hB9.cell 0 _ rfl; have y1 := hB9.cell 1 _ rfl; have f0 := hB9.frozen 0; have f1 := hB9.frozen 1)))
  all_goals (
    first
      | (have hW := cr_set (n9 := n) (k2 hKK) hB9 ho9 (Nat.le_refl _)
         clear hKK hb9 Hmk Hcr ho9
         generalize (w9.setCell ⟨w5.heap.size, 0, none⟩ (.slice A9 n c9)).setCell ⟨w5.heap.size, 1, none⟩ (.int .i64 n) = W at *)
      | (have hW := cr_new (n9 := n) (k2 hKK) ho9
         clear hKK hb9 Hmk Hcr ho9
         generalize w9.alloc (.cells #[.slice A9 n c9, .int .i64 n] 42) = W at *))
  all_goals (
    obtain ⟨hB6, hbl, hqq, hro⟩ := hW
    have hb3W := btr Hb35.out (btr (bdr w5) hbl)
    have Hb3W := Lib.hid hb3W
    have hmW := cell_later hb3W Hm3.out
    have v0 := hB6.cell 0 _ rfl
    have v1 := hB6.cell 1 _ rfl
    have hcall := Hrec.out _ _ _ hro hmW
    have Hcall := Lib.hid hcall
    clear hB6 hbl hqq hro hb3W hmW hcall
    go_wp2_with fail
    refine Hcall.out.mono ?_
    rintro e w6 ⟨v6, A6, c6, rfl, hR6, hB6, hb6⟩
    obtain ⟨Av6, cv6, rfl⟩ := hR6.len
    obtain ⟨hG6, _, _⟩ := hR6.bats
    have hal : Below w6.heap.size w6 (w6.alloc (.cells #[.slice A6 n c6, .int .i64 n] 42)) := (Below.refl _ w6).alloc (Nat.le_refl _) _
    have hV := Bk.new w6 [.slice A6 n c6, .int .i64 n] 42
    have HV := Lib.hid hV
    have HG7 := Lib.hid (hG6.later hal)
    have HB7 := Lib.hid (hB6.later hal)
    have hb37 := btr Hb3W.out (btr hb6 hal)
    have Hb37 := Lib.hid hb37
    have hT7 := HT.out.later hb37
    have t0 := hT7.cell 0 _ rfl
    have t1 := hT7.cell 1 _ rfl
    have hcall := Hcz.out _ (HBS.out.later hb37)
    have Hcall := Lib.hid hcall
    clear hal hV hG6 hB6 hR6 hb6 hb37 hT7 hcall v0 v1
    go_upto_region 6 with fail
    generalize w6.alloc (.cells #[.slice A6 n c6, .int .i64 n] 42) = w7 at *
    go_wp2_with fail
    refine Hcall.out.mono ?_
    rintro e w8 ⟨rfl, hb8⟩
    have hal : Below w8.heap.size w8 (w8.alloc (.cells #[.slice none 0 0, .int .i64 0] 42)) := (Below.refl _ w8).alloc (Nat.le_refl _) _
    have Hb79 := Lib.hid (btr hb8 hal)
    clear hal hb8 t0 t1
    go_upto_region 7 with fail
    generalize w8.alloc (.cells #[.slice none 0 0, .int .i64 0] 42) = w9 at *
    have hbg := begins_calls bs bs Av6 A1 cv6 c1 w9 (HG7.out.later Hb79.out) (HB3.out.later (btr Hb37.out Hb79.out)) (fun k b h => h) (Nat.le_refl _) (by omega) (fun b hb => by have := (Hg.out b hb).em; omega)
    have Hbg := Lib.hid hbg
    clear hbg
    go_wp2_with fail
    refine Hbg.out.mono ?_
    rintro e w10 ⟨rfl, hb10⟩
    have hb70 := btr Hb79.out hb10
    have hb30 := btr Hb37.out hb70
    have t0 := (HT.out.later hb30).cell 0 _ rfl
    have v0 := (HV.out.later hb70).cell 0 _ rfl
    have v1 := (HV.out.later hb70).cell 1 _ rfl
    have hcv1 := conv_bs (HBS.out.later hb30)
    have hcv2 := conv_bs (HB7.out.later hb70)
    rw [Hn.out] at hcv1 hcv2
    have Hbz := Lib.hid (btr Hb3.out hb30)
    clear hb70 hb30 hb10 Hbg
    go_wp2_with fail
    go_ret
    exact ⟨rfl, Hbz.out⟩)
end Go.Proofs.YtpncahklapfoaaaDoor
