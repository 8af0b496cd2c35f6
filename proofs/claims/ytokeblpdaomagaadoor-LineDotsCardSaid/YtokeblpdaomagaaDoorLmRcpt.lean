/- The method rcpt of lmtp's session: what it answers, and how the session goes on. -/
import Derived.Test.YtokeblpdaomagaaDoorLmMail
import Derived.Deep.DrawnRows
import Derived.Deep.AppendLies
namespace Go.Proofs.YtokeblpdaomagaaDoor
open Go.RowKit
set_option linter.unusedVariables false
attribute [local go_sem ↓] Go.wp_at_zero Go.wp_at_succ

set_option maxRecDepth 100000 in
set_option maxHeartbeats 4000000 in
theorem rcpt_calls (c : Nat) (x : Ses) (t : ByteArray) (known : List ByteArray) (K : Option Addr) (kc : Nat) (m : Int) (w : World) (h : SB w c x) (h5 : x.rcp.length ≤ 5) (ht : t.size ≤ 2000) (hK : StrsAt w K known) (hkn : known.length ≤ 1000) (hm : w.cell? ⟨0, 0, none⟩ = some (.int .i64 m)) :
    Calls Tryd.prog 26 #[.pointer (some ⟨c, 0, none⟩), .string t, .slice K known.length kc] w fun e w' => e = .returned (.int .i64 (rcptR x t known).1) ∧ SB w' c (rcptR x t known).2 ∧ Mv c w w' := by
  obtain ⟨i0, hi, hz0, hz1, hz2⟩ := info_parts info_adr
  have had := lmaddr_calls t m w ht hm
  have hR : rcptR x t known = if x.step ≠ 2 ∧ x.step ≠ 3 then (503, x) else if (addrR t).2 = false then (501, x) else if Lib.containsS known (addrR t).1.loc = false then (550, x) else if (addrR t).1 ∈ x.rcp then (250, x) else if x.rcp.length = 5 then (452, x) else (250, { x with step := 3, rcp := x.rcp ++ [(addrR t).1] }) := rfl
  generalize addrR t = ar at *
  obtain ⟨⟨al, ad⟩, ok⟩ := ar
  simp only at had hR
  have HR := Lib.hid hR
  have Had := Lib.hid had
  have H := Lib.hid h
  have HK := Lib.hid hK
  have hcl := h.lt
  clear had hm h hR hK
  go_enter Tryd.func26, Tryd.ntmps26
  go_wp2_with fail
  refine Had.out.mono ?_
  rintro e w1 ⟨rfl, hb1⟩
  have hal : Below w1.heap.size w1 (w1.alloc (.cells #[.string al, .string ad] 28)) := (Below.refl _ w1).alloc (Nat.le_refl _) _
  have hP := Bk.new w1 [.string al, .string ad] 28
  have hb2 := btr hb1 hal
  have hcw : c < w1.heap.size := by have := hb1.size; omega
  obtain ⟨A, cx, hS, hrow⟩ := H.out.later hb2
  have HP := Lib.hid hP
  have HS := Lib.hid hS
  have Hrow := Lib.hid hrow
  have HK2 := Lib.hid (HK.out.later hb2)
  have Hb2 := Lib.hid hb2
  have hss : w1.heap.size < (w1.alloc (.cells #[.string al, .string ad] 28)).heap.size := hP.lt
  clear hal hP hb2 hS hrow hb1
  go_upto_region 2 with fail
  generalize w1.alloc (.cells #[.string al, .string ad] 28) = w2 at *
  have s0 := HS.out.cell 0 _ rfl
  have p0 := HP.out.cell 0 _ rfl
  have p1 := HP.out.cell 1 _ rfl
  by_cases h23 : x.step = 2 ∨ x.step = 3
  · have hst : x.step ≠ 1 := by omega
    -- what the first comparison answers
    have hgo : ∃ z, z = (!(x.step == 2) && !(x.step == 3)) := ⟨_, rfl⟩
    cases hok : ok with
    | false =>
      subst hok
      have hr := HR.out
      rw [if_neg (by omega), if_pos rfl] at hr
      have Hr := Lib.hid hr
      clear hr
      rcases h23 with h23 | h23 <;> rw [h23] at s0 <;> (
        go_wp2_with fail
        go_ret
        exact ⟨by rw [Hr.out]; rfl, by rw [Hr.out]; exact ⟨A, cx, HS.out, Hrow.out⟩, Mv.of_below Hb2.out⟩)
    | true =>
      subst hok
      have hr := HR.out
      rw [if_neg (by omega), if_neg (by simp)] at hr
      have Hr0 := Lib.hid hr
      have hcs := containsS_calls known al K kc w2 HK2.out hkn
      have Hcs := Lib.hid hcs
      clear hr hcs hgo
      rcases h23 with h23 | h23 <;> rw [h23] at s0 <;> (
        go_wp2_with fail
        refine Hcs.out.mono ?_
        rintro e w2' ⟨rfl, rfl⟩
        cases hkk : Lib.containsS known al with
        | false =>
          have hr := Hr0.out
          rw [if_pos hkk] at hr
          have Hr := Lib.hid hr
          clear hr hkk
          go_wp2_with fail
          go_ret
          exact ⟨by rw [Hr.out]; rfl, by rw [Hr.out]; exact ⟨A, cx, HS.out, Hrow.out⟩, Mv.of_below Hb2.out⟩
        | true =>
          have hr := Hr0.out
          rw [if_neg (by rw [hkk]; simp)] at hr
          have Hr1 := Lib.hid hr
          have hd := bdr w2
          have s3 := HS.out.cell 3 _ rfl
          have hca := fun W (hW : Below w2.drew.heap.size w2.drew W) => containsA_calls ⟨al, ad⟩ A cx x.rcp W (((adrs_of_own Hrow.out rfl).later hd).later hW) (by omega)
          generalize hbm : decide ((⟨al, ad⟩ : Adr) ∈ x.rcp) = bm at hca
          have Hbm := Lib.hid hbm
          clear hbm
          have hmk := fun (W : World) (hW : Below w2.drew.heap.size w2.drew W) => And.intro (cell_later hW (cell_later hd s3)) (And.intro (cell_later hW (cell_later hd p0)) (And.intro (cell_later hW (cell_later hd p1)) hW))
          have Hmk := Lib.hid hmk
          have Hca := Lib.hid hca
          have hKK := Hmk.out w2.drew (Below.refl _ _)
          clear hr hkk hd hca hmk
          go_wp2_with fail
          go_region_held3 (fun W => W.cell? ⟨c, 3, none⟩ = some (.slice A x.rcp.length cx) ∧ W.cell? ⟨w1.heap.size, 0, none⟩ = some (.string al) ∧ W.cell? ⟨w1.heap.size, 1, none⟩ = some (.string ad) ∧ Below w2.drew.heap.size w2.drew W) (first | exact hKK | assumption | exact hS)
            (first | (go_at_call 20; (with_reducible refine (Hca.out _ ?_).mono ?_); exact k3 (by first | assumption | exact hS); rintro e w3 ⟨rfl, hb3⟩; have hKK := Hmk.out w3 (btr (k3 (by first | assumption | exact hS)) hb3)))
          all_goals (
            have hb23 := btr (bdr w2) (k3 hKK)
            have HS3 := Lib.hid (HS.out.later hb23)
            have HP3 := Lib.hid (HP.out.later hb23)
            have Hrow3 := Lib.hid (row_later hb23 Hrow.out)
            have Hb3 := Lib.hid (btr Hb2.out hb23)
            have hs23 := hb23.size
            clear hKK hb23 hb3 Hmk Hca s3 p0 p1 s0
            have s3 := HS3.out.cell 3 _ rfl
            cases bm with
            | true =>
              have hr := Hr1.out
              rw [if_pos (of_decide_eq_true Hbm.out)] at hr
              have Hr := Lib.hid hr
              clear hr
              go_wp2_with fail
              go_ret
              exact ⟨by rw [Hr.out]; rfl, by rw [Hr.out]; exact ⟨A, cx, HS3.out, Hrow3.out⟩, Mv.of_below Hb3.out⟩
            | false =>
              have hr := Hr1.out
              rw [if_neg (of_decide_eq_false Hbm.out)] at hr
              have Hr2 := Lib.hid hr
              clear hr
              by_cases h55 : x.rcp.length = 5
              · have hr := Hr2.out
                rw [if_pos h55] at hr
                have Hr := Lib.hid hr
                have h55' : ((x.rcp.length : Int) == 5) = true := by rw [beq_iff_eq]; omega
                clear hr h55
                go_wp2_with fail
                go_ret
                exact ⟨by rw [Hr.out]; rfl, by rw [Hr.out]; exact ⟨A, cx, HS3.out, Hrow3.out⟩, Mv.of_below Hb3.out⟩
              · have hr := Hr2.out
                rw [if_neg h55] at hr
                have Hr := Lib.hid hr
                have h55' : ((x.rcp.length : Int) == 5) = false := by rw [beq_eq_false_iff_ne]; omega
                have s0 := HS3.out.cell 0 _ rfl
                have f0 := HS3.out.frozen 0
                have hS4 := HS3.out.set 0 (.int .i64 3)
                have hr4 := own_set Hrow3.out HS3.out (by decide) 0 (.int .i64 3)
                have hP4 := HP3.out.other (c := c) (by omega) 0 (.int .i64 3)
                have hm4 := (Mv.of_below Hb3.out).set (b := c) 0 (.int .i64 3)
                have HS4 := Lib.hid hS4
                have Hr4 := Lib.hid hr4
                have HP4 := Lib.hid hP4
                have Hm4 := Lib.hid hm4
                have hw4s : w.heap.size ≤ (w3.setCell ⟨c, 0, none⟩ (.int .i64 3)).heap.size := by have := Hb3.out.size; simpa using this
                clear hr hS4 hr4 hP4 hm4 h55
                go_upto_region 13 with fail
                generalize w3.setCell ⟨c, 0, none⟩ (.int .i64 3) = w4 at *
                clear s3 s0 f0 h55'
                have s3 := HS4.out.cell 3 _ rfl
                have p0 := HP4.out.cell 0 _ rfl
                have p1 := HP4.out.cell 1 _ rfl
                have hd := bdr w4
                have hcl4 := HS4.out.lt
                have hno : A = none → cx = 0 := fun h => by
                  subst h
                  rcases Hr4.out.2 with ⟨e, _⟩ | ⟨_, _, _, e, _⟩
                  · exact (Value.slice.inj e).2.2
                  · exact absurd (Value.slice.inj e).1 (by simp)
                have hclone := fun W (hW : Below w4.drew.heap.size w4.drew W) => cloneA_calls A cx x.rcp W (((adrs_of_own Hr4.out rfl).later hd).later hW) hno (by omega)
                have hfin : ∀ (W5 W6 : World) (v6 : Value) (r : Option Nat), Below w4.heap.size w4 W5 → W6.ownsRow w4.heap.size 28 2 v6 (x.rcp.length + 1) (adrCells x.rcp ++ [.string al, .string ad]) → W5.grownBy W6 r → (∀ k, r = some k → w4.heap.size ≤ k) →
                    (W6.cell? ⟨c, 3, none⟩ = some (.slice A x.rcp.length cx) ∧ W6.frozen? ⟨c, 3, none⟩ = false) ∧ SB (W6.setCell ⟨c, 3, none⟩ v6) c { x with step := 3, rcp := x.rcp ++ [⟨al, ad⟩] } ∧ Mv c w (W6.setCell ⟨c, 3, none⟩ v6) := by
                  intro W5 W6 v6 r hb5 hown hg hr
                  have hS5 := HS4.out.later hb5
                  have hS6 := hS5.grown hg (fun e => by have := hr c e.symm; omega)
                  have hm5 := Hm4.out.trans (Mv.of_below hb5)
                  have hm6 : Mv c w W6 := ⟨hg.os.trans hm5.os, hg.tape.trans hm5.tape, hg.output.trans hm5.output, Nat.le_trans hm5.size hg.size, fun k h1 h2 => (hg.block k (Nat.lt_of_lt_of_le h1 hm5.size) (fun e => by have := hr k e.symm; have := hw4s; omega)).trans (hm5.block k h1 h2)⟩
                  refine ⟨⟨hS6.cell 3 _ rfl, hS6.frozen 3⟩, ?_, hm6.set 3 v6⟩
                  have hown2 := own_set hown hS6 (by decide) 3 v6
                  have e : adrCells x.rcp ++ [.string al, .string ad] = adrCells (x.rcp ++ [⟨al, ad⟩]) := by rw [adrCells_append]; rfl
                  rw [e] at hown2
                  have e2 : x.rcp.length + 1 = (x.rcp ++ [(⟨al, ad⟩ : Adr)]).length := by simp
                  rw [e2] at hown2
                  obtain ⟨A6, c6, rfl⟩ := own_sliceA hown2
                  exact ⟨A6, c6, hS6.set 3 _, row_base (Nat.zero_le _) hown2⟩
                have Hfin := Lib.hid hfin
                have Hclone := Lib.hid hclone
                clear hfin hclone hd hno
                go_wp2_with fail
                go_region_law (first
                  | (go_simp; go_at_call 16; (with_reducible refine (Hclone.out _ ?_).mono ?_); (first | exact Below.refl _ _ | exact bal (Below.refl _ w4.drew) _); rintro e w5 ⟨A5, c5, rfl, hown5, hb5⟩; (first
                      | (have hB5 : Below w4.heap.size w4 w5 := btr (bdr w4) hb5; have hrow5 : w5.ownsRow w4.heap.size 28 2 (.slice A5 x.rcp.length c5) x.rcp.length (adrCells x.rcp) := hown5)
                      | (have hB5 : Below w4.heap.size w4 w5 := btr (bdr w4) (btr (bal (Below.refl _ w4.drew) _) hb5); have hrow5 : w5.ownsRow w4.heap.size 28 2 (.slice A5 x.rcp.length c5) x.rcp.length (adrCells x.rcp) := row_base (by simp) hown5; have hlit5 : ∀ (j : Nat) u, ([.string al, .string ad] : List Value)[j]? = some u → w5.cell? ((⟨w4.heap.size, 0, none⟩ : Addr).add j) = some u := fun j u hj => cell_later hb5 (new_cells w4 [.string al, .string ad] 28 j u hj))); have q0 := (HP4.out.later hB5).cell 0 _ rfl; have q1 := (HP4.out.later hB5).cell 1 _ rfl)
                  | (refine step_append_lies _ (by rfl) _ _ _ (by rfl) w4.heap.size 28 i0 _ 2 32 Tryd.underlying31 hi hz0 hz1 hz2 rfl (by decide) (.slice A5 x.rcp.length c5) x.rcp.length (adrCells x.rcp) (by rfl) hrow5 ⟨w4.heap.size, 0, none⟩ 1 1 [.string al, .string ad] (by rfl) (by rfl) hlit5 (by simp [Value.oneCell']) (by omega) (by unfold maxLen; omega) (by omega) hB5.size _ (by rfl) ?_; intro g' cap w6 hown1 hgrow hat hglt; have fin := Hfin.out w5 w6 _ _ hB5 hown1 hgrow (fun k e => (hrow5.lt k e).1); have k1 := fin.1.1; have k2 := fin.1.2; have Fin2 := Lib.hid fin.2; clear fin hown1 hgrow hat)
                  | (refine step_append_lies _ (by rfl) _ _ _ (by rfl) w4.heap.size 28 i0 _ 2 32 Tryd.underlying31 hi hz0 hz1 hz2 rfl (by decide) (.slice A5 x.rcp.length c5) x.rcp.length (adrCells x.rcp) (by rfl) (row_later (bal (Below.refl _ w5) _) hrow5) ⟨w5.heap.size, 0, none⟩ 1 1 [.string al, .string ad] (by rfl) (by rfl) (new_cells w5 [.string al, .string ad] 28) (by simp [Value.oneCell']) (by omega) (by unfold maxLen; omega) (by omega) (Nat.le_trans hB5.size (by simp)) _ (by rfl) ?_; intro g' cap w6 hown1 hgrow hat hglt; have fin := Hfin.out _ w6 _ _ (bal hB5 _) hown1 hgrow (fun k e => (hrow5.lt k e).1); have k1 := fin.1.1; have k2 := fin.1.2; have Fin2 := Lib.hid fin.2; clear fin hown1 hgrow hat)
                  | fail)
                all_goals (
                  have F := Lib.hid Fin2.out
                  generalize w6.setCell ⟨c, 3, none⟩ (.slice (some ⟨g', 0, none⟩) (x.rcp.length + 1) cap) = w7 at *
                  clear k1 k2 q0 q1 s3 p0 p1
                  go_wp2_with fail
                  go_ret
                  exact ⟨by rw [Hr.out]; rfl, by rw [Hr.out]; exact F.out.1, F.out.2⟩)))
  · have h2' : (x.step == 2) = false := by rw [beq_eq_false_iff_ne]; omega
    have h3' : (x.step == 3) = false := by rw [beq_eq_false_iff_ne]; omega
    have hr := HR.out
    rw [if_pos (by omega)] at hr
    have Hr := Lib.hid hr
    have hn2 : (x.step != 2) = true := by rw [bne, h2']; rfl
    have hn3 : (x.step != 3) = true := by rw [bne, h3']; rfl
    clear hr h23
    go_wp2_with fail
    all_goals (
      first
        | (exfalso; omega)
        | (go_ret
           exact ⟨by rw [Hr.out]; rfl, by rw [Hr.out]; exact ⟨A, cx, HS.out, Hrow.out⟩, Mv.of_below Hb2.out⟩))
end Go.Proofs.YtokeblpdaomagaaDoor
