/- Of a torn tape just the whole batches count: for every list of raw numbers and every place. -/
import Derived.Test.YtpncahklapfoaaaDoorBkLaw
namespace Go.Proofs.YtpncahklapfoaaaDoor
open Go.RowKit
set_option linter.unusedVariables false

set_option maxRecDepth 100000 in
set_option maxHeartbeats 4000000 in
theorem bookTorn_walk (x : List Chr) (A : Option Addr) (c : Nat) (at' m : Int) (w : World) (hx : x.length ≤ c ∧ c ≤ 9223372036854775807) (hA : kChr.Row w A x) (hat : (Lit.int .i64 at').wf = true) (hm : w.cell? ⟨0, 0, none⟩ = some (.int .i64 m)) :
    Calls Tryd.prog 6 #[.slice A x.length c, .int .i64 at'] w fun e w' => e = .returned (.bool true) ∧ Below w.heap.size w w' := by
  go_enter Tryd.func6, Tryd.ntmps6
  go_wp2_with fail
  refine (batchesOf_calls x A c w (by omega) hx.1 hx.2 hA).mono ?_
  rintro e w1 ⟨bs, A1, c1, rfl, hl, hg, hR1, hb1⟩
  obtain ⟨hB1, _, _⟩ := hR1.bats
  have hm1 := cell_later hb1 hm
  clear hA hR1
  go_wp2_with fail
  refine (taped_calls bs A1 c1 m w1 hB1 hg (by omega) hm1).mono ?_
  rintro e w2 ⟨A2, c2, rfl, hr2, hb2⟩
  have htl := tapeN_len bs hg
  have hall := fun k hk => whole_iff bs k hk
  have hbA : Below w2.heap.size w2 (w2.alloc (.cells #[.slice A2 (tapeN bs).length c2, .int .i64 0] 42)) := (Below.refl _ w2).alloc (Nat.le_refl _) _
  have hT := Bk.new w2 [.slice A2 (tapeN bs).length c2, .int .i64 0] 42
  have hbs := (bs_of_own hr2 rfl).later hbA
  have hcap := own_cap hr2
  have hb3 := btr hb2 hbA
  have hB3 := hB1.later hb3
  have hm3 := cell_later hb3 hm1
  have hb3 := btr hb1 hb3
  generalize hn : (tapeN bs).length = n at *
  have Hg := Lib.hid hg
  have Hall := Lib.hid hall
  have Hn := Lib.hid hn
  clear hB1 hm1 hr2 hb1 hb2 hbA hg hall hn
  have hp0 : (0 : Int) < (n : Int) + 1 := by omega
  have hk := pickN_lt at' ((n : Int) + 1) hp0
  have hpk := fun W => picked_calls at' ((n : Int) + 1) W hat hp0 (by omega)
  have Hpk := Lib.hid hpk
  clear hpk
  go_upto_region 3 with fail
  generalize w2.alloc (.cells #[.slice A2 n c2, .int .i64 0] 42) = w3 at *
  have t0 := hT.cell 0 _ rfl
  go_wp2_with fail
  refine (Hpk.out _).mono ?_
  rintro e w4 ⟨rfl, rfl⟩
  generalize pickN at' ((n : Int) + 1) = k at *
  have hkn : k ≤ n := by omega
  have hbk := hbs.cut k (by rw [Hn.out]; exact hkn) k (Nat.le_refl _) (fun h => by have := (bs_none hbs h).1; rw [Hn.out] at this; omega)
  have hrec := recover_zero bs k A2 k m w3 hbk Hg.out (by omega) (by rw [Hn.out]; exact hkn) hm3
  have Hrec := Lib.hid hrec
  have hk0 : (0 : Int) ≤ (k : Int) := by omega
  have hkc : (k : Int) ≤ (c2 : Int) := by omega
  clear hrec hbk hk Hpk hbs
  go_wp2_with fail
  refine Hrec.out.mono ?_
  rintro e w4 ⟨v4, A4, c4, rfl, hR4, hB4, hb4⟩
  obtain ⟨j, hj⟩ : ∃ j, j = whole bs k := ⟨_, rfl⟩
  rw [← hj] at hR4 hB4 ⊢
  obtain ⟨Av, cv, rfl⟩ := hR4.len
  obtain ⟨hG4, _, _⟩ := hR4.bats
  have hgj := good_take Hg.out j
  have hlj : (bs.take j).length ≤ bs.length := by rw [List.length_take]; omega
  have hatk : (tapeN (bs.take j)).length ≤ k := by rw [hj]; exact whole_len bs k
  have hiff : (bs.take j).length = bs.length ↔ k = n := by rw [hj]; exact Hall.out k hkn
  have hpre := take_pre bs j
  generalize bs.take j = gs at *
  generalize hD : tapeN gs = D at *
  generalize hdn : D.length = dn at *
  have hal : Below w4.heap.size w4 (w4.alloc (.cells #[.slice A4 dn c4, .int .i64 0] 42)) := (Below.refl _ w4).alloc (Nat.le_refl _) _
  have hU := Bk.new w4 [.slice A4 dn c4, .int .i64 0] 42
  have hT5 := (hT.later hb4).later hal
  have hm5 := cell_later hal (cell_later hb4 hm3)
  have hB5 := (hB3.later hb4).later hal
  have hG5 := hG4.later hal
  have hBS5 := hB4.later hal
  have hb5 := btr (btr hb3 hb4) hal
  clear hT hm3 hB3 hG4 hb3 hb4 hR4 hal t0 hB4 hk0 hkc Hrec
  have HU := Lib.hid hU
  have HT5 := Lib.hid hT5
  have HB5 := Lib.hid hB5
  have HG5 := Lib.hid hG5
  have Hb5 := Lib.hid hb5
  clear hT5 hB5 hG5 hb5
  go_upto_region 5 with fail
  generalize w4.alloc (.cells #[.slice A4 dn c4, .int .i64 0] 42) = w5 at *
  have hrec := recover_all0 gs A4 c4 m w5 (by rw [hD]; exact hBS5) hgj (by omega) hm5
  rw [hD, hdn] at hrec
  have Hrec := Lib.hid hrec
  have HBS5 := Lib.hid hBS5
  have HD := Lib.hid hD
  have Hdn := Lib.hid hdn
  have Hgj := Lib.hid hgj
  have Hpre := Lib.hid hpre
  have Hiff := Lib.hid hiff
  have u0 := hU.cell 0 _ rfl
  have u1 := hU.cell 1 _ rfl
  clear hrec hU hD hdn hgj hpre hiff hBS5 hm5 hj
  go_wp2_with fail
  refine Hrec.out.mono ?_
  rintro e w6 ⟨v6, A6, c6, rfl, hR6, hB6, hb6⟩
  obtain ⟨Av6, cv6, rfl⟩ := hR6.len
  obtain ⟨hG6, _, _⟩ := hR6.bats
  have hal : Below w6.heap.size w6 (w6.alloc (.cells #[.slice A6 dn c6, .int .i64 0] 42)) := (Below.refl _ w6).alloc (Nat.le_refl _) _
  have hV := Bk.new w6 [.slice A6 dn c6, .int .i64 0] 42
  have hb57 := btr hb6 hal
  have HV := Lib.hid hV
  have HG7 := Lib.hid (hG6.later hal)
  have HB7 := Lib.hid (hB6.later hal)
  have Hb57 := Lib.hid hb57
  clear hal hV hb57 hG6 hB6 hR6 hb6 u0 u1 Hrec
  go_upto_region 6 with fail
  generalize w6.alloc (.cells #[.slice A6 dn c6, .int .i64 0] 42) = w7 at *
  go_wp2_with fail
  refine (recover_bad w7).mono ?_
  rintro e w8 ⟨rfl, hb8⟩
  have hal : Below w8.heap.size w8 (w8.alloc (.cells #[.slice none 0 0, .int .i64 0] 42)) := (Below.refl _ w8).alloc (Nat.le_refl _) _
  have Hb79 := Lib.hid (btr hb8 hal)
  clear hal hb8
  go_upto_region 7 with fail
  generalize w8.alloc (.cells #[.slice none 0 0, .int .i64 0] 42) = w9 at *
  have hb59 := btr Hb57.out Hb79.out
  have hes : ∀ b ∈ gs, b.es.length ≤ 1000 := fun b hb => by have := (Hgj.out b hb).em; omega
  have hbg := begins_calls gs bs Av A1 cv c1 w9 (HG5.out.later hb59) (HB5.out.later hb59) Hpre.out hlj (by omega) hes
  have Hbg := Lib.hid hbg
  have Hes := Lib.hid hes
  have Hb59 := Lib.hid hb59
  clear hbg hes hb59
  go_wp2_with fail
  refine Hbg.out.mono ?_
  rintro e w10 ⟨rfl, hb10⟩
  have hb50 := btr Hb59.out hb10
  have hb70 := btr Hb79.out hb10
  have hbg := begins_calls gs gs Av6 Av cv6 cv w10 (HG7.out.later hb70) (HG5.out.later hb50) (fun k b h => h) (Nat.le_refl _) (by omega) Hes.out
  have Hbg := Lib.hid hbg
  have Hb50 := Lib.hid hb50
  have Hb70 := Lib.hid hb70
  clear hbg hb50 hb70 hb10
  go_wp2_with fail
  refine Hbg.out.mono ?_
  rintro e w11 ⟨rfl, hb11⟩
  have hb51 := btr Hb50.out hb11
  have hb71 := btr Hb70.out hb11
  have t0 := (HT5.out.later hb51).cell 0 _ rfl
  have u0 := (HU.out.later hb51).cell 0 _ rfl
  have v0 := (HV.out.later hb71).cell 0 _ rfl
  have hcv1 := conv_bs (HBS5.out.later hb51)
  have hcv2 := conv_bs (HB7.out.later hb71)
  rw [Hdn.out] at hcv1 hcv2
  have hle : (dn : Int) ≤ (k : Int) := by omega
  have hbz := btr Hb5.out hb51
  have Hbz := Lib.hid hbz
  clear hb51 hb71 hbz Hbg hb11
  by_cases hkk : k = n
  · have hgl := Hiff.out.2 hkk
    subst hkk
    generalize hgs : gs.length = gl at *
    subst hgl
    go_wp2_with fail
    go_ret
    exact ⟨rfl, Hbz.out⟩
  · have h1 : ((gs.length : Int) == (bs.length : Int)) = false := by
      rw [beq_eq_false_iff_ne]
      intro h
      exact hkk (Hiff.out.1 (by omega))
    have h2 : ((k : Int) == (n : Int)) = false := by rw [beq_eq_false_iff_ne]; omega
    go_wp2_with fail
    go_ret
    exact ⟨rfl, Hbz.out⟩
end Go.Proofs.YtpncahklapfoaaaDoor
