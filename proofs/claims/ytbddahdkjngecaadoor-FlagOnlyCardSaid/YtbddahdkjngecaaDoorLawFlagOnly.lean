/- Flags change one mail's flags, and nothing else; to give them back undoes it: for every list of raw numbers and every chore. -/
import Derived.Test.YtbddahdkjngecaaDoorBoxLaw2
namespace Go.Proofs.YtbddahdkjngecaaDoor
open Go.RowKit
set_option linter.unusedVariables false
theorem flag_none (s : StS) (x : Ent) (h3 : x.kind = 3) (hf : findR s.boxes x.box < 0) : applyR s x = (7, s) := applyR_none s x (by omega) (by omega) hf
theorem flag_form (n : Nat) (xu fl : Int) (h1 : 1 ≤ xu) (h2 : xu ≤ 8) (h3 : 0 ≤ fl) (h4 : fl ≤ 31) : formR ⟨3, nmN n, xu, fl, ⟨#[]⟩, ⟨#[]⟩⟩ = 0 := by
  have hz : (ByteArray.mk #[]).size = 0 := rfl
  have hn := nmN_name n
  generalize nmN n = nm at *
  rw [formR_own _ (by simp [ownE])]; simp only; rw [if_neg (by omega), if_neg (by omega)]; simp [hn]
theorem mailsZ_set (l : List MailS) (k : Nat) (m m' : MailS) (h : l[k]? = some m) (ht : m'.text = m.text) : mailsZ (l.set k m') = mailsZ l := by
  unfold mailsZ
  rw [List.map_set, ht, set_same _ k _ (by simp [h])]
/-- The state with a mail's flags written. -/
def flagTo (s : StS) (i : Nat) (b : BoxS) (k : Nat) (mk : MailS) (f : Int) : StS := { s with boxes := s.boxes.set i { b with mails := b.mails.set k { mk with flags := f } } }
theorem flag_app (s : StS) (nm : ByteArray) (xu f : Int) (i : Nat) (b : BoxS) (hf : findR s.boxes nm = i) (hb : s.boxes[i]? = some b) (k : Nat) (mk : MailS) (hk : idxR (uidB xu) b.mails = k) (hm : b.mails[k]? = some mk) : applyR s ⟨3, nm, xu, f, ⟨#[]⟩, ⟨#[]⟩⟩ = (0, flagTo s i b k mk f) := by
  rw [applyR_mail s _ (by simp) (by simp) (by simp) (by simp) i b hf hb k mk hk hm]
  rfl
theorem flag_back (s : StS) (nm : ByteArray) (xu f : Int) (i : Nat) (b : BoxS) (hf : findR s.boxes nm = i) (hb : s.boxes[i]? = some b) (k : Nat) (mk : MailS) (hk : idxR (uidB xu) b.mails = k) (hm : b.mails[k]? = some mk) : applyR (flagTo s i b k mk f) ⟨3, nm, xu, mk.flags, ⟨#[]⟩, ⟨#[]⟩⟩ = (0, s) := by
  have hil := (List.getElem?_eq_some_iff.1 hb).1
  have hkl := (List.getElem?_eq_some_iff.1 hm).1
  rw [flag_app (flagTo s i b k mk f) nm xu mk.flags i { b with mails := b.mails.set k { mk with flags := f } } ((find_set s.boxes i b { b with mails := b.mails.set k { mk with flags := f } } hb rfl nm).trans hf) (by unfold flagTo; simp [hil]) k { mk with flags := f } ((uid_set b.mails k mk { mk with flags := f } hm rfl xu).trans hk) (by simp [hkl])]
  unfold flagTo
  simp only [List.set_set]
  rw [set_same b.mails k mk hm, set_same s.boxes i b hb]
theorem flag_size (s : StS) (f : Int) (i : Nat) (b : BoxS) (hb : s.boxes[i]? = some b) (k : Nat) (mk : MailS) (hm : b.mails[k]? = some mk) : sizeR (flagTo s i b k mk f) = sizeR s := by
  have h := boxesZ_set s.boxes i b { b with mails := b.mails.set k { mk with flags := f } } hb
  have h2 := mailsZ_set b.mails k mk { mk with flags := f } hm rfl
  simp only at h
  rw [h2] at h
  unfold sizeR flagTo
  simp only
  omega

set_option maxRecDepth 100000 in
set_option maxHeartbeats 8000000 in
theorem flagOnly_walk (x : List Chr) (A : Option Addr) (c : Nat) (z : Chr) (m : Int) (w : World) (hx : x.length ≤ 9223372036854775807) (hA : kChr.Row w A x) (h1 : (Lit.int .i64 z.kind).wf = true) (h2 : (Lit.int .i64 z.box).wf = true) (h3 : (Lit.int .i64 z.uid).wf = true) (h4 : (Lit.int .i64 z.flags).wf = true) (h5 : (Lit.int .i64 z.dst).wf = true) (h6 : z.text.size ≤ 9223372036854775807) (hm : w.cell? ⟨0, 0, none⟩ = some (.int .i64 m)) :
    Calls Tryd.prog 10 #[.slice A x.length c, .agg #[.int .i64 z.kind, .int .i64 z.box, .int .i64 z.uid, .int .i64 z.flags, .int .i64 z.dst, .string z.text]] w fun e w' => e = .returned (.bool true) ∧ Below w.heap.size w w' := by
  obtain ⟨kd, bx, ud, fl, dz, tx⟩ := z
  simp only at h1 h2 h3 h4 h5 h6 ⊢
  have hen := fun W => entry_calls ⟨2, bx, ud, fl, 0, ⟨#[]⟩⟩ W (show (Lit.int .i64 2).wf = true by decide) h2 h3 h4 (show (Lit.int .i64 0).wf = true by decide) (show (ByteArray.mk #[]).size ≤ 9223372036854775807 by decide)
  have hec : entC ⟨2, bx, ud, fl, 0, ⟨#[]⟩⟩ = ⟨3, nmN (pickN bx 6), 1 + (pickN ud 8 : Int), (pickN fl 32 : Int), ⟨#[]⟩, ⟨#[]⟩⟩ := by
    unfold entC
    rw [show pickN 2 6 = 2 by decide]
    rfl
  have hfo := entC_form ⟨2, bx, ud, fl, 0, ⟨#[]⟩⟩
  have hsm := entC_small ⟨2, bx, ud, fl, 0, ⟨#[]⟩⟩
  rw [hec] at hfo hsm hen
  clear hec
  have hv := vld_st x
  have hst := fun W (hb : Below w.heap.size w W) => state_calls x A c m W hx (hA.later hb) (cell_later hb hm)
  simp only at hen
  unfold entVal at hen
  generalize hs : stR x = s at *
  generalize hg_nm : nmN (pickN bx 6) = nm at *
  generalize hg_xu : 1 + (pickN ud 8 : Int) = xu at *
  generalize hg_kf : (pickN fl 32 : Int) = kf at *
  have Hst := Lib.hid hst
  have Hen := Lib.hid hen
  have Hm := Lib.hid hm
  have hok := check_ok s ((vld_iff s).2 hv)
  have hnb := hok.nb
  have hns := hok.ns
  have aply := fun s A A2 c c2 W hA hv hm => aply_ok s ⟨3, nm, xu, kf, ⟨#[]⟩, ⟨#[]⟩⟩ A A2 c c2 m W hA hv hsm hm
  unfold entVal at aply
  have hfk := fun n A A2 c c2 W hA => findk_calls s A A2 c c2 n W (by omega) hA
  have Aply := Lib.hid aply
  have Hfk := Lib.hid hfk
  have Hv := Lib.hid hv
  have Hok := Lib.hid hok
  have Hfo := Lib.hid hfo
  have Hsm := Lib.hid hsm
  have Hs := Lib.hid hs
  clear hst hen hfo hsm hm hA hok aply hv h1 h2 h3 h4 h5 h6 hfk hs
  have hbC : Below w.heap.size w (w.alloc (.cells #[.int .i64 kd, .int .i64 bx, .int .i64 ud, .int .i64 fl, .int .i64 dz, .string tx] 24)) := (Below.refl _ w).alloc (Nat.le_refl _) _
  have hC := Bk.new w [.int .i64 kd, .int .i64 bx, .int .i64 ud, .int .i64 fl, .int .i64 dz, .string tx] 24
  go_enter Tryd.func10, Tryd.ntmps10
  go_wp2_with fail
  generalize w.alloc (.cells #[.int .i64 kd, .int .i64 bx, .int .i64 ud, .int .i64 fl, .int .i64 dz, .string tx] 24) = w0 at *
  refine (Hst.out _ hbC).mono ?_
  rintro e w1 ⟨A1, c1, B1, d1, rfl, hS1, hb1⟩
  have hC1 := hC.later hb1
  have hb1 := bel_tr hbC hb1
  have hal1 : Below w1.heap.size w1 (w1.alloc (.cells #[.slice A1 s.boxes.length c1, .slice B1 s.spool.length d1] 28)) := (Below.refl _ w1).alloc (Nat.le_refl _) _
  have hb2 := bel_tr hb1 hal1
  have hX := Bk.new w1 [.slice A1 s.boxes.length c1, .slice B1 s.spool.length d1] 28
  have hS2 := hS1.later hal1
  have hC2 := hC1.later hal1
  have k1 := hC2.cell 1 _ rfl
  have k2 := hC2.cell 2 _ rfl
  have k3 := hC2.cell 3 _ rfl
  have k4 := hC2.cell 4 _ rfl
  have k5 := hC2.cell 5 _ rfl
  clear hS1 hb1 Hst hC hC1 hal1 hbC
  go_wp2_with fail
  generalize w1.alloc (.cells #[.slice A1 s.boxes.length c1, .slice B1 s.spool.length d1] 28) = w2 at *
  refine (Hen.out _).mono ?_
  rintro e w3 ⟨rfl, hb3⟩
  have hX3 := hX.later hb3
  have hS3 := hS2.later hb3
  have hb4 := bel_tr hb2 hb3
  clear hX hS2 hb2 hb3 Hen hC2 k1 k2 k3 k4 k5
  have hbA : Below w3.heap.size w3 (w3.alloc (.cells #[.int .i64 3, .string nm, .int .i64 xu, .int .i64 kf, .string ⟨#[]⟩, .string ⟨#[]⟩] 31)) := (Below.refl _ w3).alloc (Nat.le_refl _) _
  have hX4 := hX3.later hbA
  have hS4 := hS3.later hbA
  have hY4 := Bk.new w3 [.int .i64 3, .string nm, .int .i64 xu, .int .i64 kf, .string ⟨#[]⟩, .string ⟨#[]⟩] 31
  have hb5 := bel_tr hb4 hbA
  have x0 := hX4.cell 0 _ rfl
  have x1 := hX4.cell 1 _ rfl
  have hm5 := cell_later hb5 Hm.out
  clear hX3 hS3 hb4 hbA
  go_wp2_with fail
  generalize w3.alloc (.cells #[.int .i64 3, .string nm, .int .i64 xu, .int .i64 kf, .string ⟨#[]⟩, .string ⟨#[]⟩] 31) = w4 at *
  refine (Aply.out s _ _ _ _ _ hS4 Hv.out hm5).mono ?_
  rintro e w5 ⟨A9, c9, A92, c92, rfl, hat9, hown9, hb6⟩
  have hX5 := hX4.later hb6
  have hS5 := hS4.later hb6
  have hY5 := hY4.later hb6
  have hb7 := bel_tr hb5 hb6
  clear hX4 hS4 hY4 hb5 hb6 x0 x1 hm5
  -- the block of what Apply returned
  generalize hr : allR s [⟨3, nm, xu, kf, ⟨#[]⟩, ⟨#[]⟩⟩] = r at *
  have hbB : Below w5.heap.size w5 (w5.alloc (.cells #[.slice A9 r.2.boxes.length c9, .slice A92 r.2.spool.length c92] 28)) := (Below.refl _ w5).alloc (Nat.le_refl _) _
  have hZ6 := Bk.new w5 [.slice A9 r.2.boxes.length c9, .slice A92 r.2.spool.length c92] 28
  have hX6 := hX5.later hbB
  have hY6 := hY5.later hbB
  have hS6 := hS5.later hbB
  have hat6 := hat9.later hbB
  have hb8 := bel_tr hb7 hbB
  have x0 := hX6.cell 0 _ rfl
  have x1 := hX6.cell 1 _ rfl
  have y1 := hY6.cell 1 _ rfl
  have hown6 : r.1 = 0 → ∃ B vm p, B ≤ w5.heap.size ∧ OwnSt (w5.alloc (.cells #[.slice A9 r.2.boxes.length c9, .slice A92 r.2.spool.length c92] 28)) B p r.2 (.slice A9 r.2.boxes.length c9) (.slice A92 r.2.spool.length c92) vm := fun hz => by
    obtain ⟨vm, p, hO⟩ := hown9 hz
    exact ⟨_, vm, p, by have := hO.pB; have := hO.lt; omega, hO.later hbB⟩
  have hlt1 := hX5.lt
  have hlt2 := hY5.lt
  have hne1 : w3.heap.size ≠ w1.heap.size := by
    intro h
    have a := hX5
    have b := hY5
    rw [h] at b
    unfold Bk at a b
    rw [a] at b
    simp at b
  clear hX5 hY5 hS5 hat9 hb7 hbB hown9
  have Hr := Lib.hid hr
  clear hr
  go_wp2_with fail
  refine (Hfk.out nm _ _ _ _ _ hS6).mono ?_
  rintro e w7 ⟨rfl, hb9⟩
  have HX := Lib.hid (hX6.later hb9)
  have HY := Lib.hid (hY6.later hb9)
  have HZ := Lib.hid (hZ6.later hb9)
  have HS := Lib.hid (hS6.later hb9)
  have Hat := Lib.hid (hat6.later hb9)
  have Hb := Lib.hid (bel_tr hb8 hb9)
  have hown7 : r.1 = 0 → ∃ B vm p, B ≤ w5.heap.size ∧ OwnSt w7 B p r.2 (.slice A9 r.2.boxes.length c9) (.slice A92 r.2.spool.length c92) vm := fun hz => by
    obtain ⟨B, vm, p, hB, hO⟩ := hown6 hz
    exact ⟨B, vm, p, hB, hO.later hb9⟩
  have Hown := Lib.hid hown7
  clear hX6 hY6 hZ6 hS6 hat6 hb8 hb9 hown6 hown7 x0 x1 y1
  have hall := allR_one Hv.out _ Hfo.out
  rw [Hr.out] at hall
  by_cases hf : findR s.boxes nm < 0
  · have hr : r = (7, noneS) := by rw [hall, flag_none s _ rfl hf]; rfl
    subst hr
    clear hall
    have hf0 : ¬ (0 : Int) ≤ findR s.boxes nm := by omega
    generalize findR s.boxes nm = i at *
    go_wp2_with fail
    go_loopw [10, 11] (fun a k wr => a = .int .i64 (-1) ∧ k = .int .i64 0 ∧ wr = w7) (fun _ _ _ => 0)
    case atStart => exact ⟨rfl, rfl, rfl⟩
    case round =>
      obtain ⟨rfl, rfl, rfl⟩ := hrel
      go_wp2_with fail
      go_ret
      exact ⟨rfl, Hb.out⟩
  · obtain ⟨i, b, hfi, hil, hbi⟩ := find_box (show 0 ≤ findR s.boxes nm by omega)
    have hvb := Hv.out.bx b (List.mem_of_getElem? hbi)
    have hml := hvb.ml
    have hua := fun k h => uid_at b.mails hvb.up k h xu
    have Hua := Lib.hid hua
    have hms := hvb.ms
    have Hms := Lib.hid hms
    have Hfi := Lib.hid hfi
    have Hbi := Lib.hid hbi
    have Hall := Lib.hid hall
    rw [hfi]
    clear hall hf hfi hvb hua hms hbi
    obtain ⟨q, hq⟩ : ∃ q, idxR (uidB xu) b.mails = q := ⟨_, rfl⟩
    have hql := (idxR_lt (uidB xu) b.mails).2.1
    rw [hq] at hql Hua
    have Hq := Lib.hid hq
    clear hq
    obtain ⟨fl0, hfl0⟩ : ∃ f : Int, ∀ k (h : k < b.mails.length), (k : Int) = q → b.mails[k].flags = f := by
      by_cases h : 0 ≤ q
      · refine ⟨(b.mails[q.toNat]'(by omega)).flags, fun k hk e => ?_⟩
        have : k = q.toNat := by omega
        subst this
        rfl
      · exact ⟨0, fun k _ e => by omega⟩
    have Hfl := Lib.hid hfl0
    clear hfl0
    have hi0 : (0 : Int) ≤ (i : Int) := by omega
    have hin : (i : Int) < (s.boxes.length : Int) := by omega
    go_wp2_with fail
    go_loopw [10, 11] (fun a k wr => ∃ j : Nat, j ≤ b.mails.length ∧ k = .int .i64 j ∧ a = .int .i64 (if 0 ≤ q ∧ q < j then fl0 else -1) ∧ Hid (Below w7.heap.size w7 wr)) (fun _ k _ => b.mails.length - (intOf k).toNat)
    case atStart => exact ⟨0, Nat.zero_le _, rfl, by rw [if_neg (by omega)], Lib.hid (Below.refl _ _)⟩
    case round =>
      obtain ⟨j, hj, rfl, rfl, Hbj⟩ := hrel
      generalize haa : (if 0 ≤ q ∧ q < (j : Int) then fl0 else -1) = aa at *
      have Haa := Lib.hid haa
      clear haa
      have hX8 := HX.out.later Hbj.out
      have hY8 := HY.out.later Hbj.out
      obtain ⟨g, off, Am, cm, rfl, d0, d1', d2, _, hmA⟩ := HS.out.bx.later Hbj.out i b Hbi.out
      have x0 := hX8.cell 0 _ rfl
      have x1 := hX8.cell 1 _ rfl
      have y0 := hY8.cell 0 _ rfl
      have y1 := hY8.cell 1 _ rfl
      have y2 := hY8.cell 2 _ rfl
      have y3 := hY8.cell 3 _ rfl
      have y4 := hY8.cell 4 _ rfl
      have y5 := hY8.cell 5 _ rfl
      clear hX8 hY8
      by_cases hlt : j < b.mails.length
      · obtain ⟨ga, oa, rfl, f0, f1, f2⟩ := hmA j b.mails[j] (by simp [hlt])
        have hjq := Hua.out j hlt
        have hjf := Hfl.out j hlt
        have hj0 : (0 : Int) ≤ (j : Int) := by omega
        have hjn : (j : Int) < (b.mails.length : Int) := by omega
        generalize b.mails[j] = mj at *
        by_cases hu : mj.uid = xu
        · have hqj := hjq.1 hu
          have hff := hjf hqj.symm
          rw [hu] at f0
          rw [hff] at f1
          clear hjq hjf hmA
          go_wp2_with fail
          go_quiet (fail)
          go_wp2_with fail
          go_roundw
          case rel => exact ⟨j + 1, by omega, by go_num, (by rw [if_pos (show 0 ≤ q ∧ q < ((j + 1 : Nat) : Int) from ⟨by omega, by omega⟩)]), Lib.hid (bel_drewN Hbj.out _)⟩
          case measure => simp [intOf]; omega
        · have hqj : q ≠ (j : Int) := fun e => hu (hjq.2 e)
          have hne : (mj.uid == xu) = false := by simpa using hu
          clear hjq hjf hmA
          go_wp2_with fail
          go_quiet (fail)
          go_wp2_with fail
          go_roundw
          case rel => exact ⟨j + 1, by omega, by go_num, (by rw [← Haa.out]; congr 1; split <;> (try split) <;> first | rfl | omega), Lib.hid (bel_drewN Hbj.out _)⟩
          case measure => simp [intOf]; omega
      · obtain rfl : j = b.mails.length := by omega
        clear hlt hmA
        have haa := Haa.out
        clear Haa
        by_cases hq0 : 0 ≤ q
        · rw [if_pos ⟨hq0, hql⟩] at haa
          subst haa
          obtain ⟨k, mk, hk, hkl, hmk⟩ := idx_mail (show 0 ≤ idxR (uidB xu) b.mails by rw [Hq.out]; exact hq0)
          have hfk0 : mk.flags = fl0 := by
            have := Hfl.out k hkl (by rw [← hk, Hq.out])
            rw [(List.getElem?_eq_some_iff.1 hmk).2] at this
            exact this
          subst hfk0
          have hmk2 := Hms.out mk (List.mem_of_getElem? hmk)
          have hr : r = (0, flagTo s i b k mk kf) := by rw [Hall.out, flag_app s nm xu kf i b Hfi.out Hbi.out k mk hk hmk]; rfl
          have hv2 : Vld (flagTo s i b k mk kf) := by
            have h := vld_all s _ (show (allR s [⟨3, nm, xu, kf, ⟨#[]⟩, ⟨#[]⟩⟩]).1 = 0 by rw [Hr.out, hr])
            rw [Hr.out, hr] at h
            exact h
          have hpu := pickN_lt ud 8 (by decide)
          have hfb : formR ⟨3, nm, xu, mk.flags, ⟨#[]⟩, ⟨#[]⟩⟩ = 0 := by
            rw [← hg_nm]
            exact flag_form _ _ _ (by omega) (by omega) hmk2.2.2.1 hmk2.2.2.2.1
          have hsb : SmE ⟨3, nm, xu, mk.flags, ⟨#[]⟩, ⟨#[]⟩⟩ := by obtain ⟨a, b, c⟩ := Hsm.out; exact ⟨a, b, c⟩
          have hall2 : allR (flagTo s i b k mk kf) [⟨3, nm, xu, mk.flags, ⟨#[]⟩, ⟨#[]⟩⟩] = (0, s) := by
            rw [allR_one hv2 _ hfb, flag_back s nm xu kf i b Hfi.out Hbi.out k mk hk hmk]; rfl
          have hsz := flag_size s kf i b Hbi.out k mk hmk
          have hm0 := hmk2.2.2.1
          generalize flagTo s i b k mk kf = t at *
          subst hr
          generalize mk.flags = fq at *
          have hlt0 : ¬ fq < 0 := by omega
          have ap2 := fun A A2 c c2 W hA hm => aply_ok t ⟨3, nm, xu, fq, ⟨#[]⟩, ⟨#[]⟩⟩ A A2 c c2 m W hA hv2 hsb hm
          rw [hall2] at ap2
          unfold entVal at ap2
          have szt := fun A A2 c c2 W hA hm => sizeV_calls t hv2 A A2 c c2 m W hA hm
          have szs := fun A A2 c c2 W hA hm => sizeV_calls s Hv.out A A2 c c2 m W hA hm
          rw [hsz] at szt
          have same := fun A A2 B B2 c c2 d d2 W hA hB => same_state s A A2 B B2 c c2 d d2 W hA hB (by omega) (by omega) (fun b hb => by have := (Hok.out.nm b hb).1; omega)
          have Ap2 := Lib.hid ap2
          have Szt := Lib.hid szt
          have Szs := Lib.hid szs
          have Same := Lib.hid same
          have hbA : Below wr.heap.size wr (wr.alloc (.cells #[.int .i64 3, .string nm, .int .i64 xu, .int .i64 fq, .string ⟨#[]⟩, .string ⟨#[]⟩] 31)) := (Below.refl _ wr).alloc (Nat.le_refl _) _
          have hB : Bk (wr.alloc (.cells #[.int .i64 3, .string nm, .int .i64 xu, .int .i64 fq, .string ⟨#[]⟩, .string ⟨#[]⟩] 31)) wr.heap.size [.int .i64 3, .string nm, .int .i64 xu, .int .i64 fq, .string ⟨#[]⟩, .string ⟨#[]⟩] 31 := Bk.new wr [.int .i64 3, .string nm, .int .i64 xu, .int .i64 fq, .string ⟨#[]⟩, .string ⟨#[]⟩] 31
          have hbB := Hbj.out.trans (hbA.mono Hbj.out.size)
          have hZ8 : Bk _ _ [.slice A9 t.boxes.length c9, .slice A92 t.spool.length c92] _ := HZ.out.later hbB
          have hX8 := HX.out.later hbB
          have hS8 := HS.out.later hbB
          have hT8 : StAt _ A9 c9 A92 c92 t := Hat.out.later hbB
          have hb8 := bel_tr Hb.out hbB
          clear hmk2 hv2 hpu hfb hsb hall2 hsz ap2 szt szs same hk hkl hmk hbA hbB hql Hua Hfl
          clear Hall Hbj Hq
          go_upto_region 15 with fail
          generalize wr.alloc (.cells #[.int .i64 3, .string nm, .int .i64 xu, .int .i64 fq, .string ⟨#[]⟩, .string ⟨#[]⟩] 31) = w8 at *
          clear x0 x1 y0 y1 y2 y3 y4 y5 d0 d1' d2
          have z0 := hZ8.cell 0 _ rfl
          have z1 := hZ8.cell 1 _ rfl
          have y0 := hB.cell 0 _ rfl
          have y1 := hB.cell 1 _ rfl
          have y2 := hB.cell 2 _ rfl
          have y3 := hB.cell 3 _ rfl
          have y4 := hB.cell 4 _ rfl
          have y5 := hB.cell 5 _ rfl
          go_wp2_with fail
          refine (Ap2.out _ _ _ _ _ hT8 (cell_later hb8 Hm.out)).mono ?_
          rintro e w9 ⟨A10, c10, A102, c102, rfl, hU9, _, hb9⟩
          have hbE : Below w9.heap.size w9 (w9.alloc (.cells #[.slice A10 s.boxes.length c10, .slice A102 s.spool.length c102] 28)) := (Below.refl _ w9).alloc (Nat.le_refl _) _
          have hb10 := hb9.trans (hbE.mono hb9.size)
          have hV10 := Bk.new w9 [.slice A10 s.boxes.length c10, .slice A102 s.spool.length c102] 28
          have hU10 := hU9.later hbE
          have hZ10 := hZ8.later hb10
          have hX10 := hX8.later hb10
          have hS10 := hS8.later hb10
          have hT10 := hT8.later hb10
          have hb11 := bel_tr hb8 hb10
          clear hb8 hb9 hb10 hbE hU9 hZ8 hX8 hS8 hT8 hB z0 z1 y0 y1 y2 y3 y4 y5 Ap2
          have z0 := hZ10.cell 0 _ rfl
          have z1 := hZ10.cell 1 _ rfl
          go_wp2_with fail
          generalize w9.alloc (.cells #[.slice A10 s.boxes.length c10, .slice A102 s.spool.length c102] 28) = w10 at *
          refine (Szt.out _ _ _ _ _ hT10 (cell_later hb11 Hm.out)).mono ?_
          rintro e w11 ⟨rfl, hb12⟩
          have hX11 := hX10.later hb12
          have hS11 := hS10.later hb12
          have hV11 := hV10.later hb12
          have hU11 := hU10.later hb12
          have hb13 := bel_tr hb11 hb12
          clear hX10 hS10 hV10 hU10 hb11 hb12 hT10 hZ10 z0 z1 Szt
          have x0 := hX11.cell 0 _ rfl
          have x1 := hX11.cell 1 _ rfl
          go_wp2_with fail
          refine (Szs.out _ _ _ _ _ hS11 (cell_later hb13 Hm.out)).mono ?_
          rintro e w12 ⟨rfl, hb14⟩
          have hX12 := hX11.later hb14
          have hS12 := hS11.later hb14
          have hV12 := hV11.later hb14
          have hU12 := hU11.later hb14
          have hb15 := bel_tr hb13 hb14
          clear hX11 hS11 hV11 hU11 hb13 hb14 x0 x1 Szs
          have x0 := hX12.cell 0 _ rfl
          have x1 := hX12.cell 1 _ rfl
          have v0 := hV12.cell 0 _ rfl
          have v1 := hV12.cell 1 _ rfl
          go_wp2_with fail
          refine (Same.out _ _ _ _ _ _ _ _ _ hU12 hS12).mono ?_
          rintro e w13 ⟨rfl, hb16⟩
          have Hb17 := Lib.hid (bel_tr hb15 hb16)
          clear hX12 hS12 hV12 hU12 hb15 hb16 x0 x1 v0 v1 Same
          go_wp2_with fail
          go_ret
          exact ⟨rfl, Hb17.out⟩
        · have hr : r = (7, noneS) := by rw [Hall.out, applyR_nomail s _ (by simp) (by simp) (by simp) (by simp) i b Hfi.out Hbi.out (by rw [Hq.out]; omega)]; rfl
          subst hr
          rw [if_neg (by omega)] at haa
          subst haa
          go_wp2_with fail
          go_ret
          exact ⟨rfl, bel_tr Hb.out Hbj.out⟩
end Go.Proofs.YtbddahdkjngecaaDoor
