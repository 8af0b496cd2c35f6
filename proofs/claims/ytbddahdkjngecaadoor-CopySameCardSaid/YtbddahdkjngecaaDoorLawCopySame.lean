/- A copy has the same text and flags; the first one stays: for every list of raw numbers and every chore. -/
import Derived.Test.YtbddahdkjngecaaDoorBoxLaw2
namespace Go.Proofs.YtbddahdkjngecaaDoor
open Go.RowKit
set_option linter.unusedVariables false
theorem app_form (n : Nat) (fl : Int) (tx : ByteArray) (h3 : 0 ≤ fl) (h4 : fl ≤ 31) (h5 : tx.size ≤ 2000) : formR ⟨2, nmN n, 0, fl, ⟨#[]⟩, tx⟩ = 0 := by
  have hz : (ByteArray.mk #[]).size = 0 := rfl
  have hn := nmN_name n
  generalize nmN n = nm at *
  rw [formR_own _ (by simp [ownE])]; simp only; rw [if_neg (by omega), if_neg (by omega)]; simp [hn]
theorem addR_err (s : StS) (i : Nat) (fl : Int) (t : ByteArray) : (addR s i fl t).1 = 0 ∨ (addR s i fl t).1 = 5 := by
  unfold addR
  split
  · exact .inr rfl
  · split
    · exact .inr rfl
    · exact .inl rfl

set_option maxRecDepth 100000 in
set_option maxHeartbeats 8000000 in
theorem copySame_walk (x : List Chr) (A : Option Addr) (c : Nat) (z : Chr) (m : Int) (w : World) (hx : x.length ≤ 9223372036854775807) (hA : kChr.Row w A x) (h1 : (Lit.int .i64 z.kind).wf = true) (h2 : (Lit.int .i64 z.box).wf = true) (h3 : (Lit.int .i64 z.uid).wf = true) (h4 : (Lit.int .i64 z.flags).wf = true) (h5 : (Lit.int .i64 z.dst).wf = true) (h6 : z.text.size ≤ 9223372036854775807) (hm : w.cell? ⟨0, 0, none⟩ = some (.int .i64 m)) :
    Calls Tryd.prog 4 #[.slice A x.length c, .agg #[.int .i64 z.kind, .int .i64 z.box, .int .i64 z.uid, .int .i64 z.flags, .int .i64 z.dst, .string z.text]] w fun e w' => e = .returned (.bool true) ∧ Below w.heap.size w w' := by
  obtain ⟨kd, bx, ud, fl, dz, tx⟩ := z
  simp only at h1 h2 h3 h4 h5 h6 ⊢
  have hen := fun W => entry_calls ⟨4, bx, ud, 0, dz, ⟨#[]⟩⟩ W (show (Lit.int .i64 4).wf = true by decide) h2 h3 (show (Lit.int .i64 0).wf = true by decide) h5 (show (ByteArray.mk #[]).size ≤ 9223372036854775807 by decide)
  have hec : entC ⟨4, bx, ud, 0, dz, ⟨#[]⟩⟩ = ⟨5, nmN (pickN bx 6), 1 + (pickN ud 8 : Int), 0, nmN (pickN dz 6), ⟨#[]⟩⟩ := by
    unfold entC
    rw [show pickN 4 6 = 4 by decide]
    rfl
  have hfo := entC_form ⟨4, bx, ud, 0, dz, ⟨#[]⟩⟩
  have hsm := entC_small ⟨4, bx, ud, 0, dz, ⟨#[]⟩⟩
  rw [hec] at hfo hsm hen
  clear hec
  have hv := vld_st x
  have hst := fun W (hb : Below w.heap.size w W) => state_calls x A c m W hx (hA.later hb) (cell_later hb hm)
  simp only at hen
  unfold entVal at hen
  generalize hs : stR x = s at *
  generalize hg_nm : nmN (pickN bx 6) = nm at *
  generalize hg_xu : 1 + (pickN ud 8 : Int) = xu at *
  generalize hg_nd : nmN (pickN dz 6) = nd at *
  have Hst := Lib.hid hst
  have Hen := Lib.hid hen
  have Hm := Lib.hid hm
  have hok := check_ok s ((vld_iff s).2 hv)
  have hnb := hok.nb
  have hns := hok.ns
  have aply := fun s A A2 c c2 W hA hv hm => aply_ok s ⟨5, nm, xu, 0, nd, ⟨#[]⟩⟩ A A2 c c2 m W hA hv hsm hm
  unfold entVal at aply
  have hfk := fun n A A2 c c2 W hA => findk_calls s A A2 c c2 n W (by omega) hA
  have Aply := Lib.hid aply
  have Hfk := Lib.hid hfk
  have Hv := Lib.hid hv
  have Hok := Lib.hid hok
  have Hfo := Lib.hid hfo
  have Hsm := Lib.hid hsm
  have Hs := Lib.hid hs
  clear hst hen hfo hsm hm hA hok aply hv h1 h2 h3 h4 h5 h6 hfk hs
  have hbC : Below w.heap.size w (w.alloc (.cells #[.int .i64 kd, .int .i64 bx, .int .i64 ud, .int .i64 fl, .int .i64 dz, .string tx] 24)) := (Below.refl _ w).alloc (Nat.le_refl _) _
  have hC := Bk.new w [.int .i64 kd, .int .i64 bx, .int .i64 ud, .int .i64 fl, .int .i64 dz, .string tx] 24
  go_enter Tryd.func4, Tryd.ntmps4
  go_wp2_with fail
  generalize w.alloc (.cells #[.int .i64 kd, .int .i64 bx, .int .i64 ud, .int .i64 fl, .int .i64 dz, .string tx] 24) = w0 at *
  refine (Hst.out _ hbC).mono ?_
  rintro e w1 ⟨A1, c1, B1, d1, rfl, hS1, hb1⟩
  have hC1 := hC.later hb1
  have hb1 := bel_tr hbC hb1
  have hal1 : Below w1.heap.size w1 (w1.alloc (.cells #[.slice A1 s.boxes.length c1, .slice B1 s.spool.length d1] 28)) := (Below.refl _ w1).alloc (Nat.le_refl _) _
  have hb2 := bel_tr hb1 hal1
  have hX := Bk.new w1 [.slice A1 s.boxes.length c1, .slice B1 s.spool.length d1] 28
  have hS2 := hS1.later hal1
  have hC2 := hC1.later hal1
  have k1 := hC2.cell 1 _ rfl
  have k2 := hC2.cell 2 _ rfl
  have k3 := hC2.cell 3 _ rfl
  have k4 := hC2.cell 4 _ rfl
  have k5 := hC2.cell 5 _ rfl
  clear hS1 hb1 Hst hC hC1 hal1 hbC
  go_wp2_with fail
  generalize w1.alloc (.cells #[.slice A1 s.boxes.length c1, .slice B1 s.spool.length d1] 28) = w2 at *
  refine (Hen.out _).mono ?_
  rintro e w3 ⟨rfl, hb3⟩
  have hX3 := hX.later hb3
  have hS3 := hS2.later hb3
  have hb4 := bel_tr hb2 hb3
  clear hX hS2 hb2 hb3 Hen hC2 k1 k2 k3 k4 k5
  have hbA : Below w3.heap.size w3 (w3.alloc (.cells #[.int .i64 5, .string nm, .int .i64 xu, .int .i64 0, .string nd, .string ⟨#[]⟩] 31)) := (Below.refl _ w3).alloc (Nat.le_refl _) _
  have hX4 := hX3.later hbA
  have hS4 := hS3.later hbA
  have hY4 := Bk.new w3 [.int .i64 5, .string nm, .int .i64 xu, .int .i64 0, .string nd, .string ⟨#[]⟩] 31
  have hb5 := bel_tr hb4 hbA
  have x0 := hX4.cell 0 _ rfl
  have x1 := hX4.cell 1 _ rfl
  have hm5 := cell_later hb5 Hm.out
  clear hX3 hS3 hb4 hbA
  go_wp2_with fail
  generalize w3.alloc (.cells #[.int .i64 5, .string nm, .int .i64 xu, .int .i64 0, .string nd, .string ⟨#[]⟩] 31) = w4 at *
  refine (Aply.out s _ _ _ _ _ hS4 Hv.out hm5).mono ?_
  rintro e w5 ⟨A9, c9, A92, c92, rfl, hat9, hown9, hb6⟩
  have hX5 := hX4.later hb6
  have hS5 := hS4.later hb6
  have hY5 := hY4.later hb6
  have hb7 := bel_tr hb5 hb6
  clear hX4 hS4 hY4 hb5 hb6 x0 x1 hm5
  -- the block of what Apply returned
  generalize hr : allR s [⟨5, nm, xu, 0, nd, ⟨#[]⟩⟩] = r at *
  have hbB : Below w5.heap.size w5 (w5.alloc (.cells #[.slice A9 r.2.boxes.length c9, .slice A92 r.2.spool.length c92] 28)) := (Below.refl _ w5).alloc (Nat.le_refl _) _
  have hZ6 := Bk.new w5 [.slice A9 r.2.boxes.length c9, .slice A92 r.2.spool.length c92] 28
  have hX6 := hX5.later hbB
  have hY6 := hY5.later hbB
  have hS6 := hS5.later hbB
  have hat6 := hat9.later hbB
  have hb8 := bel_tr hb7 hbB
  have x0 := hX6.cell 0 _ rfl
  have x1 := hX6.cell 1 _ rfl
  have y1 := hY6.cell 1 _ rfl
  have hown6 : r.1 = 0 → ∃ B vm p, B ≤ w5.heap.size ∧ OwnSt (w5.alloc (.cells #[.slice A9 r.2.boxes.length c9, .slice A92 r.2.spool.length c92] 28)) B p r.2 (.slice A9 r.2.boxes.length c9) (.slice A92 r.2.spool.length c92) vm := fun hz => by
    obtain ⟨vm, p, hO⟩ := hown9 hz
    exact ⟨_, vm, p, by have := hO.pB; have := hO.lt; omega, hO.later hbB⟩
  have hlt1 := hX5.lt
  have hlt2 := hY5.lt
  have hne1 : w3.heap.size ≠ w1.heap.size := by
    intro h
    have a := hX5
    have b := hY5
    rw [h] at b
    unfold Bk at a b
    rw [a] at b
    simp at b
  clear hX5 hY5 hS5 hat9 hb7 hbB hown9
  have Hr := Lib.hid hr
  clear hr
  go_wp2_with fail
  refine (Hfk.out nm _ _ _ _ _ hS6).mono ?_
  rintro e w7 ⟨rfl, hb9⟩
  have HX := Lib.hid (hX6.later hb9)
  have HY := Lib.hid (hY6.later hb9)
  have HZ := Lib.hid (hZ6.later hb9)
  have HS := Lib.hid (hS6.later hb9)
  have Hat := Lib.hid (hat6.later hb9)
  have Hb := Lib.hid (bel_tr hb8 hb9)
  have hown7 : r.1 = 0 → ∃ B vm p, B ≤ w5.heap.size ∧ OwnSt w7 B p r.2 (.slice A9 r.2.boxes.length c9) (.slice A92 r.2.spool.length c92) vm := fun hz => by
    obtain ⟨B, vm, p, hB, hO⟩ := hown6 hz
    exact ⟨B, vm, p, hB, hO.later hb9⟩
  have Hown := Lib.hid hown7
  clear hX6 hY6 hZ6 hS6 hat6 hb8 hb9 hown6 hown7 x0 x1 y1
  have hall := allR_one Hv.out _ Hfo.out
  rw [Hr.out] at hall
  have x0 := HX.out.cell 0 _ rfl
  have x1 := HX.out.cell 1 _ rfl
  have y4 := HY.out.cell 4 _ rfl
  have Hall := Lib.hid hall
  clear hall
  generalize hjd : findR s.boxes nd = jd at *
  have Hjd := Lib.hid hjd
  generalize hii : findR s.boxes nm = ii at *
  have Hii := Lib.hid hii
  clear hjd hii
  go_wp2_with fail
  refine (Hfk.out nd _ _ _ _ _ HS.out).mono ?_
  rintro e w8 ⟨rfl, hb10⟩
  rw [Hjd.out]
  have HX := Lib.hid (HX.out.later hb10)
  have HY := Lib.hid (HY.out.later hb10)
  have HZ := Lib.hid (HZ.out.later hb10)
  have HS := Lib.hid (HS.out.later hb10)
  have Hat := Lib.hid (Hat.out.later hb10)
  have Hb := Lib.hid (bel_tr Hb.out hb10)
  clear x0 x1 y4 hb10 Hfk
  by_cases hf : ii < 0
  · have hr : r = (7, noneS) := by rw [Hall.out, applyR_none s _ (by simp) (by simp) (by rw [Hii.out]; exact hf)]; rfl
    subst hr
    have hf0 : ¬ (0 : Int) ≤ ii := by omega
    go_wp2_with fail
    go_loopw [11, 12] (fun a k wr => a = .int .i64 (-1) ∧ k = .int .i64 0 ∧ wr = w8) (fun _ _ _ => 0)
    case atStart => exact ⟨rfl, rfl, rfl⟩
    case round =>
      obtain ⟨rfl, rfl, rfl⟩ := hrel
      go_wp2_with fail
      go_ret
      exact ⟨rfl, Hb.out⟩
  · obtain ⟨i, b, hfi, hil, hbi⟩ := find_box (show 0 ≤ findR s.boxes nm by rw [Hii.out]; omega)
    have hvb := Hv.out.bx b (List.mem_of_getElem? hbi)
    have hml := hvb.ml
    have hua := fun k h => uid_at b.mails hvb.up k h xu
    have Hua := Lib.hid hua
    have hms := hvb.ms
    have Hms := Lib.hid hms
    have Hfi := Lib.hid hfi
    have Hbi := Lib.hid hbi
    obtain rfl : ii = i := by rw [← Hii.out, hfi]
    clear hf hfi hvb hua hms hbi Hii
    obtain ⟨q, hq⟩ : ∃ q, idxR (uidB xu) b.mails = q := ⟨_, rfl⟩
    have hql := (idxR_lt (uidB xu) b.mails).2.1
    rw [hq] at hql Hua
    have Hq := Lib.hid hq
    clear hq
    have hi0 : (0 : Int) ≤ (i : Int) := by omega
    have hin : (i : Int) < (s.boxes.length : Int) := by omega
    go_wp2_with fail
    go_loopw [11, 12] (fun a k wr => ∃ j : Nat, j ≤ b.mails.length ∧ k = .int .i64 j ∧ a = .int .i64 (if 0 ≤ q ∧ q < j then q else -1) ∧ Hid (Below w8.heap.size w8 wr)) (fun _ k _ => b.mails.length - (intOf k).toNat)
    case atStart => exact ⟨0, Nat.zero_le _, rfl, by rw [if_neg (by omega)], Lib.hid (Below.refl _ _)⟩
    case round =>
      obtain ⟨j, hj, rfl, rfl, Hbj⟩ := hrel
      generalize haa : (if 0 ≤ q ∧ q < (j : Int) then q else -1) = aa at *
      have Haa := Lib.hid haa
      clear haa
      have hX8 := HX.out.later Hbj.out
      have hY8 := HY.out.later Hbj.out
      obtain ⟨g, off, Am, cm, rfl, d0, d1', d2, _, hmA⟩ := HS.out.bx.later Hbj.out i b Hbi.out
      have x0 := hX8.cell 0 _ rfl
      have x1 := hX8.cell 1 _ rfl
      have y2 := hY8.cell 2 _ rfl
      have y4 := hY8.cell 4 _ rfl
      clear hX8 hY8
      by_cases hlt : j < b.mails.length
      · obtain ⟨ga, oa, rfl, f0, f1, f2⟩ := hmA j b.mails[j] (by simp [hlt])
        have hjq := Hua.out j hlt
        have hj0 : (0 : Int) ≤ (j : Int) := by omega
        have hjn : (j : Int) < (b.mails.length : Int) := by omega
        generalize b.mails[j] = mj at *
        by_cases hu : mj.uid = xu
        · have hqj := hjq.1 hu
          rw [hu] at f0
          clear hjq hmA
          go_wp2_with fail
          go_quiet (fail)
          go_wp2_with fail
          go_roundw
          case rel => exact ⟨j + 1, by omega, by go_num, (by rw [if_pos (show 0 ≤ q ∧ q < ((j + 1 : Nat) : Int) from ⟨by omega, by omega⟩), hqj]), Lib.hid (bel_drewN Hbj.out _)⟩
          case measure => simp [intOf]; omega
        · have hqj : q ≠ (j : Int) := fun e => hu (hjq.2 e)
          have hne : (mj.uid == xu) = false := by simpa using hu
          clear hjq hmA
          go_wp2_with fail
          go_quiet (fail)
          go_wp2_with fail
          go_roundw
          case rel => exact ⟨j + 1, by omega, by go_num, (by rw [← Haa.out]; congr 1; split <;> (try split) <;> first | rfl | omega), Lib.hid (bel_drewN Hbj.out _)⟩
          case measure => simp [intOf]; omega
      · obtain rfl : j = b.mails.length := by omega
        clear hlt
        have haa := Haa.out
        clear Haa
        by_cases hq0 : 0 ≤ q
        · rw [if_pos ⟨hq0, hql⟩] at haa
          subst haa
          obtain ⟨k, mk, hk, hkl, hmk⟩ := idx_mail (show 0 ≤ idxR (uidB xu) b.mails by rw [Hq.out]; exact hq0)
          obtain rfl : q = k := by rw [← Hq.out, hk]
          have hmk2 := Hms.out mk (List.mem_of_getElem? hmk)
          have hap := applyR_mail s ⟨5, nm, xu, 0, nd, ⟨#[]⟩⟩ (by simp) (by simp) (by simp) (by simp) i b Hfi.out Hbi.out k mk hk hmk
          simp only at hap
          rw [if_neg (by simp), Hjd.out] at hap
          by_cases hj0 : jd < 0
          · rw [if_pos hj0] at hap
            have hr : r = (7, noneS) := by rw [Hall.out, hap]; rfl
            subst hr
            go_wp2_with fail
            go_ret
            exact ⟨rfl, bel_tr Hb.out Hbj.out⟩
          · rw [if_neg hj0] at hap
            obtain ⟨d, bd, hfd, hdl, hbd⟩ := find_box (show 0 ≤ findR s.boxes nd by rw [Hjd.out]; omega)
            obtain rfl : jd = d := by rw [← Hjd.out, hfd]
            obtain ⟨ga, oa, rfl, f0, f1, f2⟩ := hmA k mk hmk
            have hfb : formR ⟨2, nd, 0, mk.flags, ⟨#[]⟩, mk.text⟩ = 0 := by
              rw [← hg_nd]
              exact app_form _ _ _ hmk2.2.2.1 hmk2.2.2.2.1 hmk2.2.2.2.2
            have hsb : SmE ⟨2, nd, 0, mk.flags, ⟨#[]⟩, mk.text⟩ := by
              have h := form_ok _ hfb
              exact ⟨by have := h.bx; omega, by have := h.ds; omega, by have := h.tx; omega⟩
            have hall2 := allR_one Hv.out _ hfb
            have hap2 := applyR_some s ⟨2, nd, 0, mk.flags, ⟨#[]⟩, mk.text⟩ (by simp) (by simp) d bd hfd hbd
            simp only at hap2
            rw [if_pos trivial] at hap2
            rw [hap2] at hall2
            have hr := Hall.out
            rw [hap, Int.toNat_natCast, ← hall2] at hr
            have he := addR_err s d mk.flags mk.text
            have hr1 : r.1 = 0 ∨ r.1 = 5 := by
              rw [hr, hall2]
              rcases he with h | h
              · rw [if_neg (by rw [h]; simp)]; exact .inl rfl
              · rw [if_pos (by rw [h]; simp)]; exact .inr h
            have hn1 : r.2.boxes.length ≤ 100000 ∧ r.2.spool.length ≤ 100000 ∧ ∀ b ∈ r.2.boxes, b.mails.length ≤ 100000 := by
              rcases hr1 with h | h
              · have hv2 := vld_all s _ (show (allR s [⟨5, nm, xu, 0, nd, ⟨#[]⟩⟩]).1 = 0 by rw [Hr.out, h])
                rw [Hr.out] at hv2
                exact ⟨by have := hv2.nb; omega, by have := hv2.ns; omega, fun b hb => by have := (hv2.bx b hb).ml; omega⟩
              · have h2 := allR_err s [⟨5, nm, xu, 0, nd, ⟨#[]⟩⟩] (by rw [Hr.out, h]; simp)
                rw [Hr.out] at h2
                rw [h2]
                exact ⟨by simp [noneS], by simp [noneS], fun b hb => by simp [noneS] at hb⟩
            have ap2 := fun A A2 c c2 W hA hm => aply_ok s ⟨2, nd, 0, mk.flags, ⟨#[]⟩, mk.text⟩ A A2 c c2 m W hA Hv.out hsb hm
            rw [← hr] at ap2
            unfold entVal at ap2
            have same := fun A A2 B B2 c c2 d d2 W hA hB => same_state r.2 A A2 B B2 c c2 d d2 W hA hB hn1.1 hn1.2.1 hn1.2.2
            have Ap2 := Lib.hid ap2
            have Same := Lib.hid same
            obtain ⟨mu, mf, mt⟩ := mk
            simp only at f0 f1 f2 Ap2
            have hbA : Below wr.heap.size wr (wr.alloc (.cells #[.int .i64 mu, .int .i64 mf, .string mt] 41)) := (Below.refl _ wr).alloc (Nat.le_refl _) _
            have hB := Bk.new wr [.int .i64 mu, .int .i64 mf, .string mt] 41
            have hbB := Hbj.out.trans (hbA.mono Hbj.out.size)
            have hZ8 := HZ.out.later hbB
            have hX8 := HX.out.later hbB
            have hY8 := HY.out.later hbB
            have hS8 := HS.out.later hbB
            have hT8 := Hat.out.later hbB
            have hb8 := bel_tr Hb.out hbB
            have hk0 : (0 : Int) ≤ (k : Int) := by omega
            have hd0 : ¬ (d : Int) < 0 := by omega
            have hkn : (k : Int) < (b.mails.length : Int) := by omega
            clear hmk2 hap hap2 hall2 hr he hn1 hfb hsb ap2 same hk hmk hbA hbB hql Hua hfd hbd
            clear Hall Hbj Hq hmA
            go_upto_region 15 with fail
            generalize wr.alloc (.cells #[.int .i64 mu, .int .i64 mf, .string mt] 41) = w9 at *
            clear x0 x1 y2 y4 d0 d1' d2 f0 f1 f2
            have x0 := hX8.cell 0 _ rfl
            have x1 := hX8.cell 1 _ rfl
            have y4 := hY8.cell 4 _ rfl
            have b0 := hB.cell 0 _ rfl
            have b1 := hB.cell 1 _ rfl
            have b2 := hB.cell 2 _ rfl
            go_wp2_with fail
            refine (Ap2.out _ _ _ _ _ hS8 (cell_later hb8 Hm.out)).mono ?_
            rintro e w10 ⟨A10, c10, A102, c102, rfl, hU9, _, hb9⟩
            have hbE : Below w10.heap.size w10 (w10.alloc (.cells #[.slice A10 r.2.boxes.length c10, .slice A102 r.2.spool.length c102] 28)) := (Below.refl _ w10).alloc (Nat.le_refl _) _
            have hb10 := hb9.trans (hbE.mono hb9.size)
            have hV10 := Bk.new w10 [.slice A10 r.2.boxes.length c10, .slice A102 r.2.spool.length c102] 28
            have hU10 := hU9.later hbE
            have hZ10 := hZ8.later hb10
            have hT10 := hT8.later hb10
            have hb11 := bel_tr hb8 hb10
            have hs10 := Same.out _ _ _ _ _ _ _ _ _ hT10 hU10
            have Hs10 := Lib.hid hs10
            clear hb8 hb9 hb10 hbE hU9 hZ8 hX8 hY8 hS8 hT8 hB x0 x1 y4 b0 b1 b2 Ap2 hs10 hU10 hT10 Same
            have z0 := hZ10.cell 0 _ rfl
            have z1 := hZ10.cell 1 _ rfl
            have v0 := hV10.cell 0 _ rfl
            have v1 := hV10.cell 1 _ rfl
            clear hZ10 hV10
            obtain ⟨r1, r2⟩ := r
            simp only at hr1
            rcases hr1 with rfl | rfl
            · go_wp2_with fail
              refine Hs10.out.mono ?_
              rintro e w13 ⟨rfl, hb16⟩
              have Hb17 := Lib.hid (bel_tr hb11 hb16)
              clear hb11 hb16 z0 z1 v0 v1
              go_wp2_with fail
              go_ret
              exact ⟨rfl, Hb17.out⟩
            · go_wp2_with fail
              refine Hs10.out.mono ?_
              rintro e w13 ⟨rfl, hb16⟩
              have Hb17 := Lib.hid (bel_tr hb11 hb16)
              clear hb11 hb16 z0 z1 v0 v1
              go_wp2_with fail
              go_ret
              exact ⟨rfl, Hb17.out⟩
        · have hr : r = (7, noneS) := by rw [Hall.out, applyR_nomail s _ (by simp) (by simp) (by simp) (by simp) i b Hfi.out Hbi.out (by rw [Hq.out]; omega)]; rfl
          subst hr
          rw [if_neg (by omega)] at haa
          subst haa
          go_wp2_with fail
          go_ret
          exact ⟨rfl, bel_tr Hb.out Hbj.out⟩
end Go.Proofs.YtbddahdkjngecaaDoor
