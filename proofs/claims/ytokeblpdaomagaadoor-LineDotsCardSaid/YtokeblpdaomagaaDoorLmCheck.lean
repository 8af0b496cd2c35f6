/- lmtp.Check: a session that may be is let in. -/
import Derived.Test.YtokeblpdaomagaaDoorLmMail
namespace Go.Proofs.YtokeblpdaomagaaDoor
open Go.RowKit
set_option linter.unusedVariables false

/-- A session as a value. -/
def sesVal (x : Ses) (v : Value) : Value := .agg #[.int .i64 x.step, .string x.frm.loc, .string x.frm.dom, v, .string x.text, .bool x.large]
theorem frm_size {x : Ses} (h : VldS x) : x.frm.loc.size ≤ 100 ∧ x.frm.dom.size ≤ 100 := by
  have hf := h.fr
  split at hf
  · have := checkA_size hf; omega
  · rw [hf]; exact ⟨by decide, by decide⟩
set_option maxRecDepth 100000 in
set_option maxHeartbeats 8000000 in
theorem check_ses (x : Ses) (A : Option Addr) (c : Nat) (m : Int) (w : World) (hv : VldS x) (hA : AdrsAt w A x.rcp) (hc : x.rcp.length ≤ c) (hm : w.cell? ⟨0, 0, none⟩ = some (.int .i64 m)) :
    Calls Tryd.prog 13 #[sesVal x (.slice A x.rcp.length c)] w fun e w' => e = .returned (.int .i64 0) ∧ Below w.heap.size w w' := by
  obtain ⟨step, frm, rcp, text, large⟩ := x
  have hfs := frm_size hv
  obtain ⟨⟨s0, s5⟩, fr, t1, t5, tx, t2⟩ := hv
  unfold sesVal
  simp only at fr t1 t5 tx t2 s0 s5 hA hfs hc ⊢
  have hb1 : Below w.heap.size w (w.alloc (.cells #[.int .i64 step, .string frm.loc, .string frm.dom, .slice A rcp.length c, .string text, .bool large] 33)) := (Below.refl _ w).alloc (Nat.le_refl _) _
  have hX := Bk.new w [.int .i64 step, .string frm.loc, .string frm.dom, .slice A rcp.length c, .string text, .bool large] 33
  have HX := Lib.hid hX
  have Hb1 := Lib.hid hb1
  have HA := Lib.hid (hA.later hb1)
  have Hm := Lib.hid (cell_later hb1 hm)
  clear hX hb1 hA hm
  have g1 : ¬ (5 : Int) < (rcp.length : Int) := by omega
  have g2 : ¬ (2000 : Int) < (text.size : Int) := by omega
  go_enter Tryd.func13, Tryd.ntmps13
  have hst : (step = 0 ∨ step = 1 ∨ step = 5) ∨ step = 2 ∨ (step = 3 ∨ step = 4) := by omega
  go_upto_region 1 with fail
  generalize w.alloc (.cells #[.int .i64 step, .string frm.loc, .string frm.dom, .slice A rcp.length c, .string text, .bool large] 33) = w1 at *
  have hal : Below w1.heap.size w1 (w1.alloc (.cells #[.int .i64 step, .string ⟨#[]⟩, .string ⟨#[]⟩, .slice none 0 0, .string ⟨#[]⟩, .bool false] 33)) := (Below.refl _ w1).alloc (Nat.le_refl _) _
  have hZ := Bk.new w1 [.int .i64 step, .string ⟨#[]⟩, .string ⟨#[]⟩, .slice none 0 0, .string ⟨#[]⟩, .bool false] 33
  have hX2 := HX.out.later hal
  have x0 := HX.out.cell 0 _ rfl
  have x3 := HX.out.cell 3 _ rfl
  have x4 := HX.out.cell 4 _ rfl
  have HX2 := Lib.hid hX2
  have HZ := Lib.hid hZ
  have Hal := Lib.hid hal
  have hxl := HX.out.lt
  have hw1 := Hb1.out.size
  have q0 : ¬ step < 0 := by omega
  have q5 : ¬ 5 < step := by omega
  clear hX2 hZ hal
  go_upto_region 4 with fail
  generalize w1.alloc (.cells #[.int .i64 step, .string ⟨#[]⟩, .string ⟨#[]⟩, .slice none 0 0, .string ⟨#[]⟩, .bool false] 33) = w2 at *
  clear x0 x3 x4 q0 q5
  have HA2 := Lib.hid (HA.out.later Hal.out)
  have Hm2 := Lib.hid (cell_later Hal.out Hm.out)
  have Hm1 := Hm
  have Hb2 := Lib.hid (btr Hb1.out Hal.out)
  clear HX Hm Hb1
  rcases hst with h | rfl | h
  · rcases h with rfl | rfl | rfl <;> (
      rw [if_neg (by decide)] at fr t1
      obtain ⟨rfl, rfl⟩ := tx (by decide)
      subst fr t1
      have x0 := HX2.out.cell 0 _ rfl
      have x1 := HX2.out.cell 1 (.string ⟨#[]⟩) rfl
      have x2 := HX2.out.cell 2 (.string ⟨#[]⟩) rfl
      have x3 := HX2.out.cell 3 _ rfl
      have x4 := HX2.out.cell 4 _ rfl
      have x5 := HX2.out.cell 5 _ rfl
      have z1 := HZ.out.cell 1 _ rfl
      have z2 := HZ.out.cell 2 _ rfl
      have z4 := HZ.out.cell 4 _ rfl
      have z5 := HZ.out.cell 5 _ rfl
      clear g1 g2 t2 hfs tx t5
      go_wp2_with fail
      go_ret
      exact ⟨rfl, Hb2.out⟩)
  · rw [if_pos (by decide)] at fr
    rw [if_neg (by decide)] at t1
    obtain ⟨rfl, rfl⟩ := tx (by decide)
    subst t1
    have hck := check_calls frm m w2 (by omega) (by omega) Hm2.out
    rw [fr] at hck
    have Hck := Lib.hid hck
    have x0 := HX2.out.cell 0 _ rfl
    have x1 := HX2.out.cell 1 _ rfl
    have x2 := HX2.out.cell 2 _ rfl
    clear hck
    go_wp2_with fail
    refine Hck.out.mono ?_
    rintro e w3 ⟨rfl, hb3⟩
    have HX3 := Lib.hid (HX2.out.later hb3)
    have hZ3 := HZ.out.later hb3
    have hZ4 := (hZ3.set 1 (.string frm.loc)).set 2 (.string frm.dom)
    have hX4 := (HX3.out.other (c := w1.heap.size) (by omega) 1 (.string frm.loc)).other (c := w1.heap.size) (by omega) 2 (.string frm.dom)
    have hb4 := ((btr Hb2.out hb3).setCell (p := ⟨w1.heap.size, 1, none⟩) hw1 (.string frm.loc)).setCell (p := ⟨w1.heap.size, 2, none⟩) hw1 (.string frm.dom)
    clear x0 x1 x2
    have x1 := HX3.out.cell 1 _ rfl
    have x2 := HX3.out.cell 2 _ rfl
    have z1 := hZ3.cell 1 _ rfl
    have z2 := hZ3.cell 2 _ rfl
    have f1 := hZ3.frozen 1
    have f2 := hZ3.frozen 2
    go_upto_region 8 with fail
    generalize (w3.setCell ⟨w1.heap.size, 1, none⟩ (.string frm.loc)).setCell ⟨w1.heap.size, 2, none⟩ (.string frm.dom) = w4 at *
    clear x1 x2 z1 z2 f1 f2
    have x0 := hX4.cell 0 _ rfl
    have x1 := hX4.cell 1 _ rfl
    have x2 := hX4.cell 2 _ rfl
    have x3 := hX4.cell 3 _ rfl
    have x4 := hX4.cell 4 _ rfl
    have x5 := hX4.cell 5 _ rfl
    have z1 := hZ4.cell 1 _ rfl
    have z2 := hZ4.cell 2 _ rfl
    have z4 := hZ4.cell 4 _ rfl
    have z5 := hZ4.cell 5 _ rfl
    have Hb4 := Lib.hid hb4
    clear hX4 hZ4 hb4 hZ3 hb3 g1 g2 t2 hfs tx t5 fr
    go_wp2_with fail
    go_ret
    exact ⟨rfl, Hb4.out⟩
  · have hp : 2 ≤ step ∧ step ≤ 4 := by omega
    rw [if_pos hp] at fr
    rw [if_pos (by omega)] at t1
    obtain ⟨hne, hok, hnd⟩ := t1
    have hck := fun W (hW : Below w2.heap.size w2 W) => check_calls frm m W (by omega) (by omega) (cell_later hW Hm2.out)
    rw [fr] at hck
    have Hck := Lib.hid hck
    have x0 := HX2.out.cell 0 _ rfl
    have x1 := HX2.out.cell 1 _ rfl
    have x2 := HX2.out.cell 2 _ rfl
    have hs2 : (2 : Int) ≤ step := hp.1
    have hs4 : step ≤ (4 : Int) := hp.2
    have hs3 : (3 : Int) ≤ step := by omega
    clear hck
    go_wp2_with fail
    refine (Hck.out _ (Below.refl _ _)).mono ?_
    rintro e w3 ⟨rfl, hb3⟩
    have HX3 := Lib.hid (HX2.out.later hb3)
    have hZ3 := HZ.out.later hb3
    have hZ4 := (hZ3.set 1 (.string frm.loc)).set 2 (.string frm.dom)
    have hX4 := (HX3.out.other (c := w1.heap.size) (by omega) 1 (.string frm.loc)).other (c := w1.heap.size) (by omega) 2 (.string frm.dom)
    have hb24 : Below w1.heap.size w2 ((w3.setCell ⟨w1.heap.size, 1, none⟩ (.string frm.loc)).setCell ⟨w1.heap.size, 2, none⟩ (.string frm.dom)) := ((hb3.mono (Nat.le_of_lt HZ.out.lt)).setCell (p := ⟨w1.heap.size, 1, none⟩) (Nat.le_refl _) (.string frm.loc)).setCell (p := ⟨w1.heap.size, 2, none⟩) (Nat.le_refl _) (.string frm.dom)
    have Hb24 := Lib.hid hb24
    clear x0 x1 x2
    have x1 := HX3.out.cell 1 _ rfl
    have x2 := HX3.out.cell 2 _ rfl
    have z1 := hZ3.cell 1 _ rfl
    have z2 := hZ3.cell 2 _ rfl
    have f1 := hZ3.frozen 1
    have f2 := hZ3.frozen 2
    have hb4 := ((btr Hb2.out hb3).setCell (p := ⟨w1.heap.size, 1, none⟩) hw1 (.string frm.loc)).setCell (p := ⟨w1.heap.size, 2, none⟩) hw1 (.string frm.dom)
    have Hb4 := Lib.hid hb4
    clear hb24 hb4
    go_upto_region 8 with fail
    generalize (w3.setCell ⟨w1.heap.size, 1, none⟩ (.string frm.loc)).setCell ⟨w1.heap.size, 2, none⟩ (.string frm.dom) = w4 at *
    clear x1 x2 z1 z2 f1 f2
    have x0 := hX4.cell 0 _ rfl
    have x3 := hX4.cell 3 _ rfl
    have HX4 := Lib.hid hX4
    have HZ4 := Lib.hid hZ4
    have HA4 := Lib.hid (HA.out.later (Hal.out.trans Hb24.out))
    have Hm4 := Lib.hid (cell_later (Hal.out.trans Hb24.out) Hm1.out)
    clear hX4 hZ4 hZ3 hb3 HA HA2 Hm2 Hal Hb24 HX2 HZ Hb2 HX3
    go_upto_region 10 with fail
    have Hnd := Lib.hid hnd
    have Hok := Lib.hid hok
    have Hfr := Lib.hid fr
    clear x0 hnd hok fr
    go_loopw [55] (fun i wr => ∃ k : Nat, k ≤ rcp.length ∧ i = .int .i64 k ∧ Hid (Below w4.heap.size w4 wr)) (fun i _ => rcp.length - (intOf i).toNat)
    case atStart => exact ⟨0, Nat.zero_le _, rfl, Lib.hid (Below.refl _ _)⟩
    case round =>
      obtain ⟨k, hk, rfl, Hb⟩ := hrel
      by_cases hlt : k < rcp.length
      · have hga : rcp[k]? = some rcp[k] := by simp [hlt]
        obtain ⟨g, off, hA1, c0, c1⟩ := (HA4.out.later Hb.out) k rcp[k] hga
        have hak := Hok.out rcp[k] (List.getElem_mem hlt)
        have hno : rcp[k] ∉ rcp.take k := by
          intro h
          obtain ⟨i, hi, he⟩ := List.getElem_of_mem h
          rw [List.length_take] at hi
          rw [List.getElem_take] at he
          exact List.pairwise_iff_getElem.1 Hnd.out i k (by omega) hlt (by omega) he
        have hlk : (rcp.take k).length = k := by rw [List.length_take]; omega
        generalize rcp[k] = a at *
        have hsz := checkA_size hak
        have hk0 : (0 : Int) ≤ (k : Int) := by omega
        have hkn : (k : Int) < (rcp.length : Int) := by omega
        have hal : Below wr.heap.size wr (wr.alloc (.cells #[.string a.loc, .string a.dom] 28)) := (Below.refl _ wr).alloc (Nat.le_refl _) _
        have hP := Bk.new wr [.string a.loc, .string a.dom] 28
        have HP := Lib.hid hP
        have Hb5 := Lib.hid (btr Hb.out hal)
        clear hP hal hga
        go_upto_region 12 with fail
        generalize wr.alloc (.cells #[.string a.loc, .string a.dom] 28) = w5 at *
        have hd := bdr w5
        have hA5 := (HA4.out.later Hb5.out).later hd
        have hck := fun W (hW : Below w5.drew.heap.size w5.drew W) => check_calls a m W (by omega) (by omega) (cell_later hW (cell_later hd (cell_later Hb5.out Hm4.out)))
        rw [hak] at hck
        have hcn := fun W (hW : Below w5.drew.heap.size w5.drew W) => containsA_calls a A c (rcp.take k) W ((hA5.later hW).take k) (by omega)
        rw [hlk, decide_eq_false hno] at hcn
        have hX5 := (HX4.out.later Hb5.out).later hd
        have hP5 := HP.out.later hd
        have hmk := fun (W : World) (hW : Below w5.drew.heap.size w5.drew W) => And.intro ((hP5.later hW).cell 0 _ rfl) (And.intro ((hP5.later hW).cell 1 _ rfl) (And.intro ((hX5.later hW).cell 3 _ rfl) hW))
        have Hmk := Lib.hid hmk
        have Hck := Lib.hid hck
        have Hcn := Lib.hid hcn
        have Hdd := Lib.hid hd
        have hkc : (k : Int) ≤ (c : Int) := by omega
        have hKK := Hmk.out w5.drew (Below.refl _ _)
        clear hmk hck hcn hd hX5 hP5 hA5 c0 c1 hno hlk hak
        subst hA1
        go_wp2_with fail
        go_region_held3 (fun W => W.cell? ⟨wr.heap.size, 0, none⟩ = some (.string a.loc) ∧ W.cell? ⟨wr.heap.size, 1, none⟩ = some (.string a.dom) ∧ W.cell? ⟨w.heap.size, 3, none⟩ = some (.slice (some ⟨g, off, none⟩) rcp.length c) ∧ Below w5.drew.heap.size w5.drew W) (first | exact hKK | assumption | exact hS)
          (first
            | (go_at_call 19; (with_reducible refine (Hck.out _ ?_).mono ?_); exact k3 (by first | assumption | exact hS); rintro e w6 ⟨rfl, hb6⟩; have hKK := Hmk.out w6 (btr (k3 (by first | assumption | exact hS)) hb6))
            | (go_at_call 20; (with_reducible refine (Hcn.out _ ?_).mono ?_); exact k3 (by first | assumption | exact hS); rintro e w7 ⟨rfl, hb7⟩; have hKK := Hmk.out w7 (btr (k3 (by first | assumption | exact hS)) hb7)))
        all_goals (
          have Hb8 := Lib.hid (btr Hb5.out (btr Hdd.out (k3 hKK)))
          clear hKK
          go_wp2_with fail
          go_roundw
          case rel => exact ⟨k + 1, by omega, by go_num, Hb8⟩
          case measure => simp [intOf]; omega)
      · obtain rfl : k = rcp.length := by omega
        have hbf := btr Hb4.out Hb.out
        have hX5 := HX4.out.later Hb.out
        have hZ5 := HZ4.out.later Hb.out
        have hl0 : ((rcp.length : Int) == 0) = false := by
          rw [beq_eq_false_iff_ne]
          have := List.length_pos_iff.2 hne
          omega
        have HX5 := Lib.hid hX5
        have HZ5 := Lib.hid hZ5
        have Hbf := Lib.hid hbf
        have hlz : w1.heap.size < wr.heap.size := hZ5.lt
        clear hX5 hZ5 hbf x3
        have x0 := HX5.out.cell 0 _ rfl
        have x1 := HX5.out.cell 1 _ rfl
        have x2 := HX5.out.cell 2 _ rfl
        have x3 := HX5.out.cell 3 _ rfl
        have x4 := HX5.out.cell 4 _ rfl
        have x5 := HX5.out.cell 5 _ rfl
        have z1 := HZ5.out.cell 1 _ rfl
        have z2 := HZ5.out.cell 2 _ rfl
        have z4 := HZ5.out.cell 4 _ rfl
        have z5 := HZ5.out.cell 5 _ rfl
        rcases h with rfl | rfl
        · obtain ⟨rfl, rfl⟩ := tx (by decide)
          go_wp2_with fail
          go_ret
          exact ⟨rfl, Hbf.out⟩
        · have f4 := HZ5.out.frozen 4
          have f5 := HZ5.out.frozen 5
          have hZ6 := (HZ5.out.set 4 (.string text)).set 5 (.bool large)
          have hX6 := (HX5.out.other (c := w1.heap.size) (by omega) 4 (.string text)).other (c := w1.heap.size) (by omega) 5 (.bool large)
          have hb6 := (Hbf.out.setCell (p := ⟨w1.heap.size, 4, none⟩) hw1 (.string text)).setCell (p := ⟨w1.heap.size, 5, none⟩) hw1 (.bool large)
          go_upto_region 20 with fail
          go_wp2_with fail
          apply one_key
          case main =>
            intro key
            go_region_with (fail)
            all_goals exact key
          case pf =>
            have HX6 := Lib.hid hX6
            have HZ6 := Lib.hid hZ6
            have Hb6 := Lib.hid hb6
            clear hX6 hZ6 hb6 x0 x1 x2 x3 x4 x5 z1 z2 z4 z5 f4 f5
            generalize (wr.setCell ⟨w1.heap.size, 4, none⟩ (.string text)).setCell ⟨w1.heap.size, 5, none⟩ (.bool large) = w6 at *
            have x0 := HX6.out.cell 0 _ rfl
            have x1 := HX6.out.cell 1 _ rfl
            have x2 := HX6.out.cell 2 _ rfl
            have x3 := HX6.out.cell 3 _ rfl
            have x4 := HX6.out.cell 4 _ rfl
            have x5 := HX6.out.cell 5 _ rfl
            have z1 := HZ6.out.cell 1 _ rfl
            have z2 := HZ6.out.cell 2 _ rfl
            have z4 := HZ6.out.cell 4 _ rfl
            have z5 := HZ6.out.cell 5 _ rfl
            go_wp2_with fail
            go_ret
            exact ⟨rfl, btr Hb6.out (bdr w6)⟩
end Go.Proofs.YtokeblpdaomagaaDoor
