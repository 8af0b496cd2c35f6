/- A box is made once; a new one is empty, and stands last: for every list of raw numbers and every chore. -/
import Derived.Test.YtbddahdkjngecaaDoorBoxLaw
namespace Go.Proofs.YtbddahdkjngecaaDoor
open Go.RowKit
set_option linter.unusedVariables false
theorem create_eq (s : StS) (nm : ByteArray) : applyR s ⟨1, nm, 0, 0, ⟨#[]⟩, ⟨#[]⟩⟩ = if 0 ≤ findR s.boxes nm then (10, s) else if s.boxes.length = 5 then (5, s) else (0, { s with boxes := s.boxes ++ [⟨nm, 1, []⟩] }) := by
  unfold applyR; rw [if_neg (by simp), if_pos rfl]

set_option maxRecDepth 100000 in
set_option maxHeartbeats 8000000 in
theorem createOnce_walk (x : List Chr) (A : Option Addr) (c : Nat) (z : Chr) (m : Int) (w : World) (hx : x.length ≤ 9223372036854775807) (hA : kChr.Row w A x) (h1 : (Lit.int .i64 z.kind).wf = true) (h2 : (Lit.int .i64 z.box).wf = true) (h3 : (Lit.int .i64 z.uid).wf = true) (h4 : (Lit.int .i64 z.flags).wf = true) (h5 : (Lit.int .i64 z.dst).wf = true) (h6 : z.text.size ≤ 9223372036854775807) (hm : w.cell? ⟨0, 0, none⟩ = some (.int .i64 m)) :
    Calls Tryd.prog 5 #[.slice A x.length c, .agg #[.int .i64 z.kind, .int .i64 z.box, .int .i64 z.uid, .int .i64 z.flags, .int .i64 z.dst, .string z.text]] w fun e w' => e = .returned (.bool true) ∧ Below w.heap.size w w' := by
  obtain ⟨kd, bx, ud, fl, dz, tx⟩ := z
  simp only at h1 h2 h3 h4 h5 h6 ⊢
  have hen := fun W => entry_calls ⟨0, bx, 0, 0, 0, ⟨#[]⟩⟩ W (show (Lit.int .i64 0).wf = true by decide) h2 (show (Lit.int .i64 0).wf = true by decide) (show (Lit.int .i64 0).wf = true by decide) (show (Lit.int .i64 0).wf = true by decide) (show (ByteArray.mk #[]).size ≤ 9223372036854775807 by decide)
  have hec : entC ⟨0, bx, 0, 0, 0, ⟨#[]⟩⟩ = ⟨1, nmN (pickN bx 6), 0, 0, ⟨#[]⟩, ⟨#[]⟩⟩ := by
    unfold entC
    rw [show pickN 0 6 = 0 by decide]
    rfl
  have hfo := entC_form ⟨0, bx, 0, 0, 0, ⟨#[]⟩⟩
  have hsm := entC_small ⟨0, bx, 0, 0, 0, ⟨#[]⟩⟩
  rw [hec] at hfo hsm hen
  clear hec
  have hv := vld_st x
  have hst := fun W (hb : Below w.heap.size w W) => state_calls x A c m W hx (hA.later hb) (cell_later hb hm)
  simp only at hen
  unfold entVal at hen
  generalize hs : stR x = s at *
  generalize hg_nm : nmN (pickN bx 6) = nm at *
  have Hst := Lib.hid hst
  have Hen := Lib.hid hen
  have Hm := Lib.hid hm
  have hok := check_ok s ((vld_iff s).2 hv)
  have hnb := hok.nb
  have hns := hok.ns
  have aply := fun s A A2 c c2 W hA hv hm => aply_ok s ⟨1, nm, 0, 0, ⟨#[]⟩, ⟨#[]⟩⟩ A A2 c c2 m W hA hv hsm hm
  unfold entVal at aply
  have hfk := fun n A A2 c c2 W hA => findk_calls s A A2 c c2 n W (by omega) hA
  have Aply := Lib.hid aply
  have Hfk := Lib.hid hfk
  have Hv := Lib.hid hv
  have Hok := Lib.hid hok
  have Hfo := Lib.hid hfo
  have Hsm := Lib.hid hsm
  have Hs := Lib.hid hs
  clear hst hen hfo hsm hm hA hok aply hv h1 h2 h3 h4 h5 h6 hfk hs
  have hbC : Below w.heap.size w (w.alloc (.cells #[.int .i64 kd, .int .i64 bx, .int .i64 ud, .int .i64 fl, .int .i64 dz, .string tx] 24)) := (Below.refl _ w).alloc (Nat.le_refl _) _
  have hC := Bk.new w [.int .i64 kd, .int .i64 bx, .int .i64 ud, .int .i64 fl, .int .i64 dz, .string tx] 24
  go_enter Tryd.func5, Tryd.ntmps5
  go_wp2_with fail
  generalize w.alloc (.cells #[.int .i64 kd, .int .i64 bx, .int .i64 ud, .int .i64 fl, .int .i64 dz, .string tx] 24) = w0 at *
  refine (Hst.out _ hbC).mono ?_
  rintro e w1 ⟨A1, c1, B1, d1, rfl, hS1, hb1⟩
  have hC1 := hC.later hb1
  have hb1 := bel_tr hbC hb1
  have hal1 : Below w1.heap.size w1 (w1.alloc (.cells #[.slice A1 s.boxes.length c1, .slice B1 s.spool.length d1] 28)) := (Below.refl _ w1).alloc (Nat.le_refl _) _
  have hb2 := bel_tr hb1 hal1
  have hX := Bk.new w1 [.slice A1 s.boxes.length c1, .slice B1 s.spool.length d1] 28
  have hS2 := hS1.later hal1
  have hC2 := hC1.later hal1
  have k1 := hC2.cell 1 _ rfl
  have k2 := hC2.cell 2 _ rfl
  have k3 := hC2.cell 3 _ rfl
  have k4 := hC2.cell 4 _ rfl
  have k5 := hC2.cell 5 _ rfl
  clear hS1 hb1 Hst hC hC1 hal1 hbC
  go_wp2_with fail
  generalize w1.alloc (.cells #[.slice A1 s.boxes.length c1, .slice B1 s.spool.length d1] 28) = w2 at *
  refine (Hen.out _).mono ?_
  rintro e w3 ⟨rfl, hb3⟩
  have hX3 := hX.later hb3
  have hS3 := hS2.later hb3
  have hb4 := bel_tr hb2 hb3
  clear hX hS2 hb2 hb3 Hen hC2 k1 k2 k3 k4 k5
  have hbA : Below w3.heap.size w3 (w3.alloc (.cells #[.int .i64 1, .string nm, .int .i64 0, .int .i64 0, .string ⟨#[]⟩, .string ⟨#[]⟩] 31)) := (Below.refl _ w3).alloc (Nat.le_refl _) _
  have hX4 := hX3.later hbA
  have hS4 := hS3.later hbA
  have hY4 := Bk.new w3 [.int .i64 1, .string nm, .int .i64 0, .int .i64 0, .string ⟨#[]⟩, .string ⟨#[]⟩] 31
  have hb5 := bel_tr hb4 hbA
  have x0 := hX4.cell 0 _ rfl
  have x1 := hX4.cell 1 _ rfl
  have hm5 := cell_later hb5 Hm.out
  clear hX3 hS3 hb4 hbA
  go_wp2_with fail
  generalize w3.alloc (.cells #[.int .i64 1, .string nm, .int .i64 0, .int .i64 0, .string ⟨#[]⟩, .string ⟨#[]⟩] 31) = w4 at *
  refine (Aply.out s _ _ _ _ _ hS4 Hv.out hm5).mono ?_
  rintro e w5 ⟨A9, c9, A92, c92, rfl, hat9, hown9, hb6⟩
  have hX5 := hX4.later hb6
  have hS5 := hS4.later hb6
  have hY5 := hY4.later hb6
  have hb7 := bel_tr hb5 hb6
  clear hX4 hS4 hY4 hb5 hb6 x0 x1 hm5
  -- the block of what Apply returned
  generalize hr : allR s [⟨1, nm, 0, 0, ⟨#[]⟩, ⟨#[]⟩⟩] = r at *
  have hbB : Below w5.heap.size w5 (w5.alloc (.cells #[.slice A9 r.2.boxes.length c9, .slice A92 r.2.spool.length c92] 28)) := (Below.refl _ w5).alloc (Nat.le_refl _) _
  have hZ6 := Bk.new w5 [.slice A9 r.2.boxes.length c9, .slice A92 r.2.spool.length c92] 28
  have hX6 := hX5.later hbB
  have hY6 := hY5.later hbB
  have hS6 := hS5.later hbB
  have hat6 := hat9.later hbB
  have hb8 := bel_tr hb7 hbB
  have x0 := hX6.cell 0 _ rfl
  have x1 := hX6.cell 1 _ rfl
  have y1 := hY6.cell 1 _ rfl
  have hown6 : r.1 = 0 → ∃ B vm p, B ≤ w5.heap.size ∧ OwnSt (w5.alloc (.cells #[.slice A9 r.2.boxes.length c9, .slice A92 r.2.spool.length c92] 28)) B p r.2 (.slice A9 r.2.boxes.length c9) (.slice A92 r.2.spool.length c92) vm := fun hz => by
    obtain ⟨vm, p, hO⟩ := hown9 hz
    exact ⟨_, vm, p, by have := hO.pB; have := hO.lt; omega, hO.later hbB⟩
  have hlt1 := hX5.lt
  have hlt2 := hY5.lt
  have hne1 : w3.heap.size ≠ w1.heap.size := by
    intro h
    have a := hX5
    have b := hY5
    rw [h] at b
    unfold Bk at a b
    rw [a] at b
    simp at b
  clear hX5 hY5 hS5 hat9 hb7 hbB hown9
  have Hr := Lib.hid hr
  clear hr
  go_wp2_with fail
  refine (Hfk.out nm _ _ _ _ _ hS6).mono ?_
  rintro e w7 ⟨rfl, hb9⟩
  have HX := Lib.hid (hX6.later hb9)
  have HY := Lib.hid (hY6.later hb9)
  have HZ := Lib.hid (hZ6.later hb9)
  have HS := Lib.hid (hS6.later hb9)
  have Hat := Lib.hid (hat6.later hb9)
  have Hb := Lib.hid (bel_tr hb8 hb9)
  have hown7 : r.1 = 0 → ∃ B vm p, B ≤ w5.heap.size ∧ OwnSt w7 B p r.2 (.slice A9 r.2.boxes.length c9) (.slice A92 r.2.spool.length c92) vm := fun hz => by
    obtain ⟨B, vm, p, hB, hO⟩ := hown6 hz
    exact ⟨B, vm, p, hB, hO.later hb9⟩
  have Hown := Lib.hid hown7
  clear hX6 hY6 hZ6 hS6 hat6 hb8 hb9 hown6 hown7 x0 x1 y1
  have hall := allR_one Hv.out _ Hfo.out
  rw [create_eq, Hr.out] at hall
  by_cases hf : 0 ≤ findR s.boxes nm
  · have hr : r = (10, noneS) := by rw [hall, if_pos hf]; rfl
    subst hr
    clear hall
    generalize findR s.boxes nm = i at *
    go_wp2_with fail
    go_ret
    exact ⟨rfl, Hb.out⟩
  · rw [if_neg hf] at hall
    by_cases h5 : s.boxes.length = 5
    · have hr : r = (5, noneS) := by rw [hall, if_pos h5]; rfl
      subst hr
      have x0 := HX.out.cell 0 _ rfl
      have x1 := HX.out.cell 1 _ rfl
      rw [h5] at x0
      clear hall
      generalize findR s.boxes nm = i at *
      go_wp2_with fail
      go_ret
      exact ⟨rfl, Hb.out⟩
    · have hr : r = (0, { s with boxes := s.boxes ++ [⟨nm, 1, []⟩] }) := by rw [hall, if_neg h5]; rfl
      have hv2 := vld_all s _ (show (allR s [⟨1, nm, 0, 0, ⟨#[]⟩, ⟨#[]⟩⟩]).1 = 0 by rw [Hr.out, hr])
      rw [Hr.out, hr] at hv2
      subst hr
      have hf2 : 0 ≤ findR (s.boxes ++ [⟨nm, 1, []⟩]) nm := by
        by_cases h : findR (s.boxes ++ [⟨nm, 1, []⟩]) nm < 0
        · exact absurd rfl ((find_neg _ _).1 h ⟨nm, 1, []⟩ (by simp))
        · omega
      have hall2 := allR_one hv2 _ Hfo.out
      rw [create_eq, if_pos hf2] at hall2
      have hr2 : allR { s with boxes := s.boxes ++ [⟨nm, 1, []⟩] } [⟨1, nm, 0, 0, ⟨#[]⟩, ⟨#[]⟩⟩] = (10, noneS) := by rw [hall2]; rfl
      have x0 := HX.out.cell 0 _ rfl
      have x1 := HX.out.cell 1 _ rfl
      have y0 := HY.out.cell 0 _ rfl
      have y1 := HY.out.cell 1 _ rfl
      have y2 := HY.out.cell 2 _ rfl
      have y3 := HY.out.cell 3 _ rfl
      have y4 := HY.out.cell 4 _ rfl
      have y5 := HY.out.cell 5 _ rfl
      have z0 := HZ.out.cell 0 _ rfl
      have z1 := HZ.out.cell 1 _ rfl
      simp only [List.length_append, List.length_singleton] at z0
      have ap2 := Aply.out { s with boxes := s.boxes ++ [⟨nm, 1, []⟩] } _ _ _ _ _ Hat.out hv2 (cell_later Hb.out Hm.out)
      rw [hr2] at ap2
      simp only [List.length_append, List.length_singleton] at ap2
      have Ap2 := Lib.hid ap2
      have hne : ((s.boxes.length : Int) == 5) = false := by rw [beq_eq_false_iff_ne]; omega
      clear hall hall2 hr2 hv2 hf2 ap2
      generalize findR s.boxes nm = i at *
      go_wp2_with fail
      refine Ap2.out.mono ?_
      rintro e w8 ⟨A10, c10, A102, c102, rfl, _, _, hb10⟩
      have hbE : Below w8.heap.size w8 (w8.alloc (.cells #[.slice A10 noneS.boxes.length c10, .slice A102 noneS.spool.length c102] 28)) := (Below.refl _ w8).alloc (Nat.le_refl _) _
      have hb11 := hb10.trans (hbE.mono hb10.size)
      have hX9 := HX.out.later hb11
      have hY9 := HY.out.later hb11
      have hZ9 := HZ.out.later hb11
      have hat9 := Hat.out.later hb11
      have Hb12 := Lib.hid (bel_tr Hb.out hb11)
      obtain ⟨g, off, Am, cm, rfl, d0, d1', d2, _⟩ := hat9.bx s.boxes.length ⟨nm, 1, []⟩ (by simp)
      clear hb10 hbE hb11 Ap2 hat9 x0 x1 y0 y1 y2 y3 y4 y5 z0 z1
      have x0 := hX9.cell 0 _ rfl
      have x1 := hX9.cell 1 _ rfl
      have y1 := hY9.cell 1 _ rfl
      have z0 := hZ9.cell 0 _ rfl
      have z1 := hZ9.cell 1 _ rfl
      simp only [List.length_append, List.length_singleton] at z0
      simp only [List.length_nil] at d0 d1' d2
      have hn0 : (0 : Int) ≤ (s.boxes.length : Int) := by omega
      have hn1 : (s.boxes.length : Int) < ((s.boxes.length + 1 : Nat) : Int) := by omega
      go_upto_region 10 with fail
      clear hX9 hY9 hZ9
      go_quiet (fail)
      trace_state
      go_wp2_with fail
      go_ret
      exact ⟨rfl, bel_drewN Hb12.out _⟩
end Go.Proofs.YtbddahdkjngecaaDoor
