/- What goes out stands last, as long as there is room; boxes stay: for every list of raw numbers and every text. -/
import Derived.Test.YtbddahdkjngecaaDoorBoxLaw
namespace Go.Proofs.YtbddahdkjngecaaDoor
open Go.RowKit
set_option linter.unusedVariables false

set_option maxRecDepth 100000 in
set_option maxHeartbeats 4000000 in
theorem spoolLast_walk (x : List Chr) (A : Option Addr) (c : Nat) (tx : ByteArray) (m : Int) (w : World) (hx : x.length ≤ 9223372036854775807) (hA : kChr.Row w A x) (ht : tx.size ≤ 9223372036854775807) (hm : w.cell? ⟨0, 0, none⟩ = some (.int .i64 m)) :
    Calls Tryd.prog 7 #[.slice A x.length c, .string tx] w fun e w' => e = .returned (.bool true) ∧ Below w.heap.size w w' := by
  have hst := state_calls x A c m w hx hA hm
  have hen := fun W => entry_calls ⟨5, 0, 0, 0, 0, tx⟩ W (show (Lit.int .i64 5).wf = true by decide) (show (Lit.int .i64 0).wf = true by decide) (show (Lit.int .i64 0).wf = true by decide) (show (Lit.int .i64 0).wf = true by decide) (show (Lit.int .i64 0).wf = true by decide) ht
  have hec : entC ⟨5, 0, 0, 0, 0, tx⟩ = ⟨6, ⟨#[]⟩, 0, 0, mkS [97, 64, 98, 46, 99], cutS tx 100⟩ := by
    unfold entC
    rw [show pickN 5 6 = 5 by decide]
    rfl
  have hfo := entC_form ⟨5, 0, 0, 0, 0, tx⟩
  have hsm := entC_small ⟨5, 0, 0, 0, 0, tx⟩
  rw [hec] at hfo hsm hen
  have hv := vld_st x
  simp only at hen
  unfold entVal at hen
  generalize stR x = s at *
  generalize cutS tx 100 = t1 at *
  generalize mkS [97, 64, 98, 46, 99] = ds at *
  have Hst := Lib.hid hst
  have Hen := Lib.hid hen
  have Hm := Lib.hid hm
  have hok := check_ok s ((vld_iff s).2 hv)
  have hall := allR_one hv ⟨6, ⟨#[]⟩, 0, 0, ds, t1⟩ hfo
  have hap : applyR s ⟨6, ⟨#[]⟩, 0, 0, ds, t1⟩ = if s.spool.length = 20 then (5, s) else (0, { s with spool := s.spool ++ [⟨6, ⟨#[]⟩, 0, 0, ds, t1⟩] }) := by unfold applyR; rw [if_pos rfl]
  rw [hap] at hall
  have hns := hok.ns
  have Hok := Lib.hid hok
  have aply := fun A A2 c c2 W hA hm => aply_ok s ⟨6, ⟨#[]⟩, 0, 0, ds, t1⟩ A A2 c c2 m W hA hv hsm hm
  unfold entVal at aply
  have Aply := Lib.hid aply
  clear hst hen hec hfo hsm hm hA hok hap aply hv
  go_enter Tryd.func7, Tryd.ntmps7
  go_wp2_with fail
  refine Hst.out.mono ?_
  rintro e w1 ⟨A1, c1, B1, d1, rfl, hS1, hb1⟩
  have hb2 := bel_al hb1 (.cells #[.slice A1 s.boxes.length c1, .slice B1 s.spool.length d1] 28)
  have hX := Bk.new w1 [.slice A1 s.boxes.length c1, .slice B1 s.spool.length d1] 28
  have hS2 := hS1.later ((Below.refl _ w1).alloc (Nat.le_refl _) (.cells #[.slice A1 s.boxes.length c1, .slice B1 s.spool.length d1] 28))
  clear hS1 hb1 Hst
  go_wp2_with fail
  generalize w1.alloc (.cells #[.slice A1 s.boxes.length c1, .slice B1 s.spool.length d1] 28) = w2 at *
  refine (Hen.out _).mono ?_
  rintro e w3 ⟨rfl, hb3⟩
  have hX3 := hX.later hb3
  have hS3 := hS2.later hb3
  have hb4 := bel_tr hb2 hb3
  clear hX hS2 hb2 hb3 Hen
  have hbA : Below w3.heap.size w3 (w3.alloc (.cells #[.int .i64 6, .string ⟨#[]⟩, .int .i64 0, .int .i64 0, .string ds, .string t1] 31)) := (Below.refl _ w3).alloc (Nat.le_refl _) _
  have hX4 := hX3.later hbA
  have hS4 := hS3.later hbA
  have hY4 := Bk.new w3 [.int .i64 6, .string ⟨#[]⟩, .int .i64 0, .int .i64 0, .string ds, .string t1] 31
  have hb5 := bel_tr hb4 hbA
  have x0 := hX4.cell 0 _ rfl
  have x1 := hX4.cell 1 _ rfl
  have hm5 := cell_later hb5 Hm.out
  clear hX3 hS3 hb4 hbA
  go_wp2_with fail
  generalize w3.alloc (.cells #[.int .i64 6, .string ⟨#[]⟩, .int .i64 0, .int .i64 0, .string ds, .string t1] 31) = w4 at *
  refine (Aply.out _ _ _ _ _ hS4 hm5).mono ?_
  rintro e w5 ⟨A9, c9, A92, c92, rfl, hat9, hown9, hb6⟩
  have hX5 := hX4.later hb6
  have hS5 := hS4.later hb6
  have hY5 := hY4.later hb6
  have hb7 := bel_tr hb5 hb6
  clear hX4 hS4 hY4 hb5 hb6 Aply x0 x1 hm5
  by_cases h20 : s.spool.length = 20
  · have hr : allR s [⟨6, ⟨#[]⟩, 0, 0, ds, t1⟩] = (5, noneS) := by rw [hall, if_pos h20]; rfl
    rw [hr] at hat9 ⊢
    have hX6 := hX5.alloc (.cells #[.slice A9 noneS.boxes.length c9, .slice A92 noneS.spool.length c92] 28)
    have x1 := hX6.cell 1 _ rfl
    rw [h20] at x1
    have Hb8 := Lib.hid (bel_al hb7 (.cells #[.slice A9 noneS.boxes.length c9, .slice A92 noneS.spool.length c92] 28))
    clear hr hall hat9 hown9 hX5 hX6 hS5 hY5 hb7
    rw [h20]
    go_wp2_with fail
    go_ret
    exact ⟨rfl, Hb8.out⟩
  · have hr : allR s [⟨6, ⟨#[]⟩, 0, 0, ds, t1⟩] = (0, { s with spool := s.spool ++ [⟨6, ⟨#[]⟩, 0, 0, ds, t1⟩] }) := by rw [hall, if_neg h20]; rfl
    have hcap : s.spool.length + 1 ≤ c92 := by
      rw [hr] at hown9
      obtain ⟨vm, p, hO⟩ := hown9 rfl
      have h := own_cap hO.rs
      simpa using h
    rw [hr] at hat9 ⊢
    clear hr hall hown9
    have hbA : Below w5.heap.size w5 (w5.alloc (.cells #[.slice A9 s.boxes.length c9, .slice A92 (s.spool.length + 1) c92] 28)) := (Below.refl _ w5).alloc (Nat.le_refl _) _
    have hZ := Bk.new w5 [.slice A9 s.boxes.length c9, .slice A92 (s.spool.length + 1) c92] 28
    have hX6 := hX5.later hbA
    have hY6 := hY5.later hbA
    obtain ⟨lb, lo, rfl, c0, c1', c2, c3, c4, c5⟩ := EsAt.last hat9.es
    have c0 := cell_later hbA c0
    have c1' := cell_later hbA c1'
    have c2 := cell_later hbA c2
    have c3 := cell_later hbA c3
    have c4 := cell_later hbA c4
    have c5 := cell_later hbA c5
    simp only at c0 c1' c2 c3 c4 c5
    have x0 := hX6.cell 0 _ rfl
    have x1 := hX6.cell 1 _ rfl
    have y0 := hY6.cell 0 _ rfl
    have y1 := hY6.cell 1 _ rfl
    have y2 := hY6.cell 2 _ rfl
    have y3 := hY6.cell 3 _ rfl
    have y4 := hY6.cell 4 _ rfl
    have y5 := hY6.cell 5 _ rfl
    have z0 := hZ.cell 0 _ rfl
    have z1 := hZ.cell 1 _ rfl
    have g1 := hZ.frozen 1
    have hn0 : (0 : Int) ≤ (s.spool.length : Int) := by omega
    have hn1 : (s.spool.length : Int) < ((s.spool.length + 1 : Nat) : Int) := by omega
    have hne : ((s.spool.length : Int) == 20) = false := by rw [beq_eq_false_iff_ne]; omega
    have hsame := fun W (h1 : StAt W A1 c1 B1 d1 s) (h2 : StAt W A9 c9 (some ⟨lb, lo, none⟩) c92 s) => same_state s A1 B1 A9 (some ⟨lb, lo, none⟩) c1 d1 c9 c92 W h1 h2 (by have := Hok.out.nb; omega) (by omega) (fun b hb => by have := (Hok.out.nm b hb).1; omega)
    have hat9' : StAt w5 A9 c9 (some ⟨lb, lo, none⟩) c92 s := ⟨hat9.bx, hat9.nb, EsAt.pre hat9.es, hat9.nn⟩
    have Hat9 := Lib.hid hat9'
    have HS5 := Lib.hid hS5
    have Hsame := Lib.hid hsame
    have Hb7 := Lib.hid hb7
    have HbA := Lib.hid hbA
    have hlt := hX5.lt
    have HX6 := Lib.hid hX6
    have HZ := Lib.hid hZ
    clear hX5 hX6 hY5 hY6 hZ hat9 hat9' hS5 hsame hb7 hbA
    go_upto_region 7 with fail
    generalize s.spool.length = n at *
    generalize w5.alloc (.cells #[.slice A9 s.boxes.length c9, .slice (some ⟨lb, lo, none⟩) (n + 1) c92] 28) = w6 at *
    go_quiet (fail)
    have hW := (HbA.out.trans (bel_drewN (Below.refl w6.heap.size w6) nq |>.mono HbA.out.size)).setCell (p := ⟨w5.heap.size, 1, none⟩) (Nat.le_refl _) (.slice (some ⟨lb, lo, none⟩) n c92)
    have hX8 := (HX6.out.drewN nq).other (c := w5.heap.size) (by omega) 1 (.slice (some ⟨lb, lo, none⟩) n c92)
    have hZ8 := (HZ.out.drewN nq).set 1 (.slice (some ⟨lb, lo, none⟩) n c92)
    have x0' := hX8.cell 0 _ rfl
    have x1' := hX8.cell 1 _ rfl
    have z0' := hZ8.cell 0 _ rfl
    have z1' := hZ8.cell 1 _ rfl
    have hS8 := HS5.out.later hW
    have hT8 := Hat9.out.later hW
    have Hb8 := Lib.hid (bel_tr Hb7.out hW)
    have hs8 := Hsame.out _ hS8 hT8
    have Hs8 := Lib.hid hs8
    have hn2 : (n : Int) ≤ (c92 : Int) := by omega
    clear hW hX8 hZ8 hS8 hT8 hs8 c0 c1' c2 c3 c4 c5 y0 y1 y2 y3 y4 y5 x0 x1
    go_wp2_with fail
    refine Hs8.out.mono ?_
    rintro e w9 ⟨rfl, hb9⟩
    have Hb9 := Lib.hid (bel_tr Hb8.out hb9)
    clear hb9
    go_wp2_with fail
    go_ret
    exact ⟨rfl, Hb9.out⟩
end Go.Proofs.YtbddahdkjngecaaDoor
