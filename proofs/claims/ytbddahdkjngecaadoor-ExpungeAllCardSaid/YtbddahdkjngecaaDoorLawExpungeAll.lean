/- What is deleted goes, what is not stays; Uids are never given again: for every list of raw numbers and every chore. -/
import Derived.Test.YtbddahdkjngecaaDoorBoxLaw2
namespace Go.Proofs.YtbddahdkjngecaaDoor
open Go.RowKit
set_option linter.unusedVariables false
/-- What stays. -/
def stayM (l : List MailS) : List MailS := l.filter fun m => !delB m
/-- The state whose deleted mails are gone. -/
def expTo (s : StS) (i : Nat) (b : BoxS) : StS := { s with boxes := s.boxes.set i { b with mails := stayM b.mails } }
theorem exp_app (s : StS) (nm : ByteArray) (i : Nat) (b : BoxS) (hf : findR s.boxes nm = i) (hb : s.boxes[i]? = some b) : applyR s ⟨4, nm, 0, 0, ⟨#[]⟩, ⟨#[]⟩⟩ = (0, expTo s i b) := by
  rw [applyR_some s _ (by simp) (by simp) i b hf hb]
  rfl
theorem exp_twice (s : StS) (nm : ByteArray) (i : Nat) (b : BoxS) (hf : findR s.boxes nm = i) (hb : s.boxes[i]? = some b) : applyR (expTo s i b) ⟨4, nm, 0, 0, ⟨#[]⟩, ⟨#[]⟩⟩ = (0, expTo s i b) := by
  have hil := (List.getElem?_eq_some_iff.1 hb).1
  rw [exp_app (expTo s i b) nm i { b with mails := stayM b.mails } ((find_set s.boxes i b { b with mails := stayM b.mails } hb rfl nm).trans hf) (by unfold expTo; simp [hil])]
  have h : stayM (stayM b.mails) = stayM b.mails := by unfold stayM; rw [List.filter_filter]; congr 1; funext m; simp
  unfold expTo
  simp only [List.set_set, h]
theorem del_eq (m : MailS) (h0 : 0 ≤ m.flags) (h1 : m.flags ≤ 31) : (bits BinOp.and IntKind.i64 m.flags 8 == 0) = !delB m := by
  rw [← delB_of m h0 h1]
  simp [bne]
theorem stay_le (l : List MailS) : (stayM l).length ≤ l.length := List.length_filter_le _ _
theorem stay_succ (l : List MailS) (k : Nat) (h : k < l.length) : stayM (l.take (k + 1)) = if delB l[k] = true then stayM (l.take k) else stayM (l.take k) ++ [l[k]] := by
  rw [List.take_succ_eq_append_getElem h]
  unfold stayM
  rw [List.filter_append]
  by_cases hd : delB l[k] = true
  · rw [if_pos hd]; simp [hd]
  · rw [if_neg hd]; simp [hd]
theorem mailsCells_app (a b : List MailS) : mailsCells (a ++ b) = mailsCells a ++ mailsCells b := by simp [mailsCells]

set_option maxRecDepth 100000 in
set_option maxHeartbeats 8000000 in
theorem expungeAll_walk (x : List Chr) (A : Option Addr) (c : Nat) (z : Chr) (m : Int) (w : World) (hx : x.length ≤ 9223372036854775807) (hA : kChr.Row w A x) (h1 : (Lit.int .i64 z.kind).wf = true) (h2 : (Lit.int .i64 z.box).wf = true) (h3 : (Lit.int .i64 z.uid).wf = true) (h4 : (Lit.int .i64 z.flags).wf = true) (h5 : (Lit.int .i64 z.dst).wf = true) (h6 : z.text.size ≤ 9223372036854775807) (hm : w.cell? ⟨0, 0, none⟩ = some (.int .i64 m)) :
    Calls Tryd.prog 3 #[.slice A x.length c, .agg #[.int .i64 z.kind, .int .i64 z.box, .int .i64 z.uid, .int .i64 z.flags, .int .i64 z.dst, .string z.text]] w fun e w' => e = .returned (.bool true) ∧ Below w.heap.size w w' := by
  obtain ⟨kd, bx, ud, fl, dz, tx⟩ := z
  simp only at h1 h2 h3 h4 h5 h6 ⊢
  have hen := fun W => entry_calls ⟨3, bx, 0, 0, 0, ⟨#[]⟩⟩ W (show (Lit.int .i64 3).wf = true by decide) h2 (show (Lit.int .i64 0).wf = true by decide) (show (Lit.int .i64 0).wf = true by decide) (show (Lit.int .i64 0).wf = true by decide) (show (ByteArray.mk #[]).size ≤ 9223372036854775807 by decide)
  have hec : entC ⟨3, bx, 0, 0, 0, ⟨#[]⟩⟩ = ⟨4, nmN (pickN bx 6), 0, 0, ⟨#[]⟩, ⟨#[]⟩⟩ := by
    unfold entC
    rw [show pickN 3 6 = 3 by decide]
    rfl
  have hfo := entC_form ⟨3, bx, 0, 0, 0, ⟨#[]⟩⟩
  have hsm := entC_small ⟨3, bx, 0, 0, 0, ⟨#[]⟩⟩
  rw [hec] at hfo hsm hen
  clear hec
  have hv := vld_st x
  have hst := fun W (hb : Below w.heap.size w W) => state_calls x A c m W hx (hA.later hb) (cell_later hb hm)
  simp only at hen
  unfold entVal at hen
  generalize hs : stR x = s at *
  generalize hg_nm : nmN (pickN bx 6) = nm at *
  have Hst := Lib.hid hst
  have Hen := Lib.hid hen
  have Hm := Lib.hid hm
  have hok := check_ok s ((vld_iff s).2 hv)
  have hnb := hok.nb
  have hns := hok.ns
  have aply := fun s A A2 c c2 W hA hv hm => aply_ok s ⟨4, nm, 0, 0, ⟨#[]⟩, ⟨#[]⟩⟩ A A2 c c2 m W hA hv hsm hm
  unfold entVal at aply
  have hfk := fun n A A2 c c2 W hA => findk_calls s A A2 c c2 n W (by omega) hA
  have Aply := Lib.hid aply
  have Hfk := Lib.hid hfk
  have Hv := Lib.hid hv
  have Hok := Lib.hid hok
  have Hfo := Lib.hid hfo
  have Hsm := Lib.hid hsm
  have Hs := Lib.hid hs
  clear hst hen hfo hsm hm hA hok aply hv h1 h2 h3 h4 h5 h6 hfk hs
  have hbC : Below w.heap.size w (w.alloc (.cells #[.int .i64 kd, .int .i64 bx, .int .i64 ud, .int .i64 fl, .int .i64 dz, .string tx] 24)) := (Below.refl _ w).alloc (Nat.le_refl _) _
  have hC := Bk.new w [.int .i64 kd, .int .i64 bx, .int .i64 ud, .int .i64 fl, .int .i64 dz, .string tx] 24
  go_enter Tryd.func3, Tryd.ntmps3
  go_wp2_with fail
  generalize w.alloc (.cells #[.int .i64 kd, .int .i64 bx, .int .i64 ud, .int .i64 fl, .int .i64 dz, .string tx] 24) = w0 at *
  refine (Hst.out _ hbC).mono ?_
  rintro e w1 ⟨A1, c1, B1, d1, rfl, hS1, hb1⟩
  have hC1 := hC.later hb1
  have hb1 := bel_tr hbC hb1
  have hal1 : Below w1.heap.size w1 (w1.alloc (.cells #[.slice A1 s.boxes.length c1, .slice B1 s.spool.length d1] 28)) := (Below.refl _ w1).alloc (Nat.le_refl _) _
  have hb2 := bel_tr hb1 hal1
  have hX := Bk.new w1 [.slice A1 s.boxes.length c1, .slice B1 s.spool.length d1] 28
  have hS2 := hS1.later hal1
  have hC2 := hC1.later hal1
  have k1 := hC2.cell 1 _ rfl
  have k2 := hC2.cell 2 _ rfl
  have k3 := hC2.cell 3 _ rfl
  have k4 := hC2.cell 4 _ rfl
  have k5 := hC2.cell 5 _ rfl
  clear hS1 hb1 Hst hC hC1 hal1 hbC
  go_wp2_with fail
  generalize w1.alloc (.cells #[.slice A1 s.boxes.length c1, .slice B1 s.spool.length d1] 28) = w2 at *
  refine (Hen.out _).mono ?_
  rintro e w3 ⟨rfl, hb3⟩
  have hX3 := hX.later hb3
  have hS3 := hS2.later hb3
  have hb4 := bel_tr hb2 hb3
  clear hX hS2 hb2 hb3 Hen hC2 k1 k2 k3 k4 k5
  have hbA : Below w3.heap.size w3 (w3.alloc (.cells #[.int .i64 4, .string nm, .int .i64 0, .int .i64 0, .string ⟨#[]⟩, .string ⟨#[]⟩] 31)) := (Below.refl _ w3).alloc (Nat.le_refl _) _
  have hX4 := hX3.later hbA
  have hS4 := hS3.later hbA
  have hY4 := Bk.new w3 [.int .i64 4, .string nm, .int .i64 0, .int .i64 0, .string ⟨#[]⟩, .string ⟨#[]⟩] 31
  have hb5 := bel_tr hb4 hbA
  have x0 := hX4.cell 0 _ rfl
  have x1 := hX4.cell 1 _ rfl
  have hm5 := cell_later hb5 Hm.out
  clear hX3 hS3 hb4 hbA
  go_wp2_with fail
  generalize w3.alloc (.cells #[.int .i64 4, .string nm, .int .i64 0, .int .i64 0, .string ⟨#[]⟩, .string ⟨#[]⟩] 31) = w4 at *
  refine (Aply.out s _ _ _ _ _ hS4 Hv.out hm5).mono ?_
  rintro e w5 ⟨A9, c9, A92, c92, rfl, hat9, hown9, hb6⟩
  have hX5 := hX4.later hb6
  have hS5 := hS4.later hb6
  have hY5 := hY4.later hb6
  have hb7 := bel_tr hb5 hb6
  clear hX4 hS4 hY4 hb5 hb6 x0 x1 hm5
  -- the block of what Apply returned
  generalize hr : allR s [⟨4, nm, 0, 0, ⟨#[]⟩, ⟨#[]⟩⟩] = r at *
  have hbB : Below w5.heap.size w5 (w5.alloc (.cells #[.slice A9 r.2.boxes.length c9, .slice A92 r.2.spool.length c92] 28)) := (Below.refl _ w5).alloc (Nat.le_refl _) _
  have hZ6 := Bk.new w5 [.slice A9 r.2.boxes.length c9, .slice A92 r.2.spool.length c92] 28
  have hX6 := hX5.later hbB
  have hY6 := hY5.later hbB
  have hS6 := hS5.later hbB
  have hat6 := hat9.later hbB
  have hb8 := bel_tr hb7 hbB
  have x0 := hX6.cell 0 _ rfl
  have x1 := hX6.cell 1 _ rfl
  have y1 := hY6.cell 1 _ rfl
  have hown6 : r.1 = 0 → ∃ B vm p, B ≤ w5.heap.size ∧ OwnSt (w5.alloc (.cells #[.slice A9 r.2.boxes.length c9, .slice A92 r.2.spool.length c92] 28)) B p r.2 (.slice A9 r.2.boxes.length c9) (.slice A92 r.2.spool.length c92) vm := fun hz => by
    obtain ⟨vm, p, hO⟩ := hown9 hz
    exact ⟨_, vm, p, by have := hO.pB; have := hO.lt; omega, hO.later hbB⟩
  have hlt1 := hX5.lt
  have hlt2 := hY5.lt
  have hne1 : w3.heap.size ≠ w1.heap.size := by
    intro h
    have a := hX5
    have b := hY5
    rw [h] at b
    unfold Bk at a b
    rw [a] at b
    simp at b
  clear hX5 hY5 hS5 hat9 hb7 hbB hown9
  have Hr := Lib.hid hr
  clear hr
  go_wp2_with fail
  refine (Hfk.out nm _ _ _ _ _ hS6).mono ?_
  rintro e w7 ⟨rfl, hb9⟩
  have HX := Lib.hid (hX6.later hb9)
  have HY := Lib.hid (hY6.later hb9)
  have HZ := Lib.hid (hZ6.later hb9)
  have HS := Lib.hid (hS6.later hb9)
  have Hat := Lib.hid (hat6.later hb9)
  have Hb := Lib.hid (bel_tr hb8 hb9)
  have hown7 : r.1 = 0 → ∃ B vm p, B ≤ w5.heap.size ∧ OwnSt w7 B p r.2 (.slice A9 r.2.boxes.length c9) (.slice A92 r.2.spool.length c92) vm := fun hz => by
    obtain ⟨B, vm, p, hB, hO⟩ := hown6 hz
    exact ⟨B, vm, p, hB, hO.later hb9⟩
  have Hown := Lib.hid hown7
  clear hX6 hY6 hZ6 hS6 hat6 hb8 hb9 hown6 hown7 x0 x1 y1
  have hall := allR_one Hv.out _ Hfo.out
  rw [Hr.out] at hall
  obtain ⟨i0, hi, hz0, hz1, hz2⟩ := info_parts info_mail
  by_cases hf : findR s.boxes nm < 0
  · have hr : r = (7, noneS) := by rw [hall, applyR_none s _ (by simp) (by simp) hf]; rfl
    subst hr
    clear hall
    generalize findR s.boxes nm = i at *
    go_wp2_with fail
    go_ret
    exact ⟨rfl, Hb.out⟩
  · obtain ⟨i, b, hfi, hil, hbi⟩ := find_box (show 0 ≤ findR s.boxes nm by omega)
    have hvb := Hv.out.bx b (List.mem_of_getElem? hbi)
    have hml := hvb.ml
    have hms := hvb.ms
    have hr : r = (0, expTo s i b) := by rw [hall, exp_app s nm i b hfi hbi]; rfl
    have hv2 : Vld (expTo s i b) := by
      have h := vld_all s _ (show (allR s [⟨4, nm, 0, 0, ⟨#[]⟩, ⟨#[]⟩⟩]).1 = 0 by rw [Hr.out, hr])
      rw [Hr.out, hr] at h
      exact h
    have hall2 : allR (expTo s i b) [⟨4, nm, 0, 0, ⟨#[]⟩, ⟨#[]⟩⟩] = (0, expTo s i b) := by
      rw [allR_one hv2 _ Hfo.out, exp_twice s nm i b hfi hbi]; rfl
    have htl : (expTo s i b).boxes.length = s.boxes.length := by unfold expTo; simp
    have htg : (expTo s i b).boxes[i]? = some { b with mails := stayM b.mails } := by unfold expTo; simp [hil]
    generalize expTo s i b = t at *
    subst hr
    have hok2 := hv2.okS
    have ap2 := fun A A2 c c2 W hA hm => aply_ok t ⟨4, nm, 0, 0, ⟨#[]⟩, ⟨#[]⟩⟩ A A2 c c2 m W hA hv2 Hsm.out hm
    rw [hall2] at ap2
    unfold entVal at ap2
    have same := fun A A2 B B2 c c2 d d2 W hA hB => same_state t A A2 B B2 c c2 d d2 W hA hB (by have := hok2.nb; omega) (by have := hok2.ns; omega) (fun b hb => by have := (hok2.nm b hb).1; omega)
    rw [htl] at ap2 same
    have Ap2 := Lib.hid ap2
    have Same := Lib.hid same
    have HZ : Hid (Bk w7 w5.heap.size [.slice A9 s.boxes.length c9, .slice A92 t.spool.length c92] 28) := Lib.hid (by rw [← htl]; exact HZ.out)
    have Hat : Hid (StAt w7 A9 c9 A92 c92 t) := Lib.hid Hat.out
    have Htg := Lib.hid htg
    have Htl := Lib.hid htl
    have Hms := Lib.hid hms
    have Hbi := Lib.hid hbi
    rw [hfi]
    clear hall hf hfi hvb hv2 hall2 htl htg ap2 same hms hbi hok2 Hown
    have hi0' : (0 : Int) ≤ (i : Int) := by omega
    have hin : (i : Int) < (s.boxes.length : Int) := by omega
    go_wp2_with fail
    go_loopw [10, 11] (fun v k wr => ∃ j : Nat, j ≤ b.mails.length ∧ k = .int .i64 j ∧ wr.ownsRow w7.heap.size 41 3 v (stayM (b.mails.take j)).length (mailsCells (stayM (b.mails.take j))) ∧ Below w7.heap.size w7 wr) (fun _ k _ => b.mails.length - (intOf k).toNat)
    case atStart => exact ⟨0, Nat.zero_le _, rfl, World.ownsRow_nil _ _ _ _, Below.refl _ _⟩
    case round =>
      obtain ⟨j, hj, rfl, hrow, hbj⟩ := hrel
      have hX8 := HX.out.later hbj
      obtain ⟨g, off, Am, cm, rfl, d0, d1', d2, _, hmA⟩ := HS.out.bx.later hbj i b Hbi.out
      have x0 := hX8.cell 0 _ rfl
      have x1 := hX8.cell 1 _ rfl
      clear hX8
      by_cases hlt : j < b.mails.length
      · obtain ⟨ga, oa, rfl, f0, f1, f2⟩ := hmA j b.mails[j] (by simp [hlt])
        have hj0 : (0 : Int) ≤ (j : Int) := by omega
        have hjn : (j : Int) < (b.mails.length : Int) := by omega
        have hmm := Hms.out b.mails[j] (List.getElem_mem hlt)
        have hde := del_eq b.mails[j] hmm.2.2.1 hmm.2.2.2.1
        have hsu := stay_succ b.mails j hlt
        have hle := stay_le (b.mails.take j)
        rw [List.length_take] at hle
        generalize b.mails[j] = mj at *
        by_cases hd : delB mj = true
        · rw [hd] at hde
          rw [if_pos hd] at hsu
          have Hsu := Lib.hid hsu
          have Hrow := Lib.hid hrow
          have Hbj := Lib.hid hbj
          clear hsu hrow hbj hmA hmm hle
          have hde' : (bits BinOp.and IntKind.i64 mj.flags 8 == 0) = false := hde
          go_wp2_with fail
          go_roundw
          case rel => exact ⟨j + 1, by omega, by go_num, by rw [Hsu.out]; exact Hrow.out, Hbj.out⟩
          case measure => simp [intOf]; omega
        · rw [show delB mj = false by simpa using hd] at hde
          rw [if_neg hd] at hsu
          have Hsu := Lib.hid hsu
          have hde' : (bits BinOp.and IntKind.i64 mj.flags 8 == 0) = true := hde
          have hs2 := hbj.size
          have hnw := new_cells wr [.int .i64 mj.uid, .int .i64 mj.flags, .string mj.text] 41
          clear hsu hmA hmm hde hd
          generalize stayM (b.mails.take j) = F at *
          go_wp2_with (at_builtin; refine wpList_append_own _ rfl _ _ 37 rfl w7.heap.size 41 i0 (.agg #[.int .i64 0, .int .i64 0, .string ⟨#[]⟩]) 3 32 Tryd.underlying37 hi hz0 hz1 hz2 rfl (by decide) _ _ _ rfl (hrow.alloc _) ⟨wr.heap.size, 0, none⟩ 1 1 [.int .i64 mj.uid, .int .i64 mj.flags, .string mj.text] rfl rfl hnw (by simp [Value.oneCell']) (by unfold maxLen; omega) (by omega) (by simp; omega) ?_; intro v' w9 hown' hgrow _; have hb4 := below_append hbj hs2 hrow hgrow; clear hgrow hnw)
          go_roundw
          case rel => exact ⟨j + 1, by omega, by go_num, by rw [Hsu.out, mailsCells_app, List.length_append]; exact hown', hb4⟩
          case measure => simp [intOf]; omega
      · obtain rfl : j = b.mails.length := by omega
        rw [List.take_length] at hrow
        clear hlt hmA
        obtain ⟨Aw, cw, rfl⟩ := own_sliceE hrow
        have hwa := ms_of_own hrow rfl
        have hle := stay_le b.mails
        have hZ8 := HZ.out.later hbj
        have hT8 := Hat.out.later hbj
        have hY8 := HY.out.later hbj
        obtain ⟨g2, off2, Am2, cm2, rfl, e0, e1, e2, _, hmT⟩ := hT8.bx i _ Htg.out
        have z0 := hZ8.cell 0 _ rfl
        have z1 := hZ8.cell 1 _ rfl
        simp only at e0 e1 e2 hmT
        have Hbj := Lib.hid hbj
        have HZ8 := Lib.hid hZ8
        have HT8 := Lib.hid hT8
        have HY8 := Lib.hid hY8
        generalize stayM b.mails = K at *
        clear hrow hbj hZ8 hT8 hY8
        go_wp2_with fail
        go_quiet (fail)
        have Hwa := Lib.hid hwa
        have HmT := Lib.hid hmT
        clear d0 d1' d2 x0 x1 e0 e1 z0 z1 e2 hwa hmT
        go_wp2_with fail
        go_loopw [12] (fun k ws => ∃ j : Nat, j ≤ K.length ∧ k = .int .i64 j ∧ Hid (Below wr.heap.size wr ws)) (fun k _ => K.length - (intOf k).toNat)
        case atStart => exact ⟨0, Nat.zero_le _, rfl, Lib.hid (bel_drewN (Below.refl _ _) _)⟩
        case round =>
          obtain ⟨j2, hj2, rfl, Hbk⟩ := hrel
          have hZ9 := HZ8.out.later Hbk.out
          have hT9 := HT8.out.later Hbk.out
          have z0 := hZ9.cell 0 _ rfl
          have z1 := hZ9.cell 1 _ rfl
          by_cases hlt2 : j2 < K.length
          · obtain ⟨g3, off3, Am3, cm3, ha3, e0, e1, e2, _, hmT⟩ := hT9.bx i _ Htg.out
            simp only [Option.some.injEq, Addr.mk.injEq, and_true] at ha3
            obtain ⟨rfl, rfl⟩ := ha3
            simp only at e0 e1 e2 hmT
            obtain ⟨gb, ob, rfl, u0, u1, u2⟩ := hmT j2 K[j2] (by simp [hlt2])
            obtain ⟨gw, ow, rfl, p0, p1, p2⟩ := Hwa.out.later Hbk.out j2 K[j2] (by simp [hlt2])
            generalize K[j2] = mz at *
            have hq0 : (0 : Int) ≤ (j2 : Int) := by omega
            have hqn : (j2 : Int) < (K.length : Int) := by omega
            clear hmT hZ9 hT9
            go_wp2_with fail
            go_quiet (fail)
            go_wp2_with fail
            go_roundw
            case rel => exact ⟨j2 + 1, by omega, by go_num, Lib.hid (bel_drewN Hbk.out _)⟩
            case measure => simp [intOf]; omega
          · obtain rfl : j2 = K.length := by omega
            have hY9 := HY8.out.later Hbk.out
            have hb9 := Hbj.out.trans (Hbk.out.mono Hbj.out.size)
            have hb10 := bel_tr Hb.out hb9
            have y0 := hY9.cell 0 _ rfl
            have y1 := hY9.cell 1 _ rfl
            have y2 := hY9.cell 2 _ rfl
            have y3 := hY9.cell 3 _ rfl
            have y4 := hY9.cell 4 _ rfl
            have y5 := hY9.cell 5 _ rfl
            clear hlt2 hb9 Hbk HZ8 HY8 Hbj HT8
            go_wp2_with fail
            refine (Ap2.out _ _ _ _ _ hT9 (cell_later hb10 Hm.out)).mono ?_
            rintro e wa ⟨A10, c10, A102, c102, rfl, hU, _, hba⟩
            simp only [Htl.out]
            have hbE : Below wa.heap.size wa (wa.alloc (.cells #[.slice A10 s.boxes.length c10, .slice A102 t.spool.length c102] 28)) := (Below.refl _ wa).alloc (Nat.le_refl _) _
            have hbF := hba.trans (hbE.mono hba.size)
            have hV := Bk.new wa [.slice A10 s.boxes.length c10, .slice A102 t.spool.length c102] 28
            have hs10 := Same.out _ _ _ _ _ _ _ _ _ (hT9.later hbF) (hU.later hbE)
            have Hs10 := Lib.hid hs10
            have hb11 := bel_tr hb10 hbF
            have hZ10 := hZ9.later hbF
            clear hs10 hZ9 hY9 hT9 hba hbE hbF hU z0 z1 y0 y1 y2 y3 y4 y5 hb10 Ap2 Same
            have z0 := hZ10.cell 0 _ rfl
            have z1 := hZ10.cell 1 _ rfl
            have v0 := hV.cell 0 _ rfl
            have v1 := hV.cell 1 _ rfl
            clear hZ10 hV
            go_wp2_with fail
            refine Hs10.out.mono ?_
            rintro e wb ⟨rfl, hbb⟩
            have Hbf := Lib.hid (bel_tr hb11 hbb)
            clear hb11 hbb z0 z1 v0 v1
            go_wp2_with fail
            go_ret
            exact ⟨rfl, Hbf.out⟩
end Go.Proofs.YtbddahdkjngecaaDoor
