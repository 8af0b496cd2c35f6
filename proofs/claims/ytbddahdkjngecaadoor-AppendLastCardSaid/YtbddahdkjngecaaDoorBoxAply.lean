/- box.Apply: what it answers. -/
import Derived.Test.YtbddahdkjngecaaDoorBoxAll
namespace Go.Proofs.YtbddahdkjngecaaDoor
open Go.RowKit
set_option linter.unusedVariables false

set_option maxRecDepth 100000 in
set_option maxHeartbeats 4000000 in
theorem aply_calls (s : StS) (x : Ent) (A A2 : Option Addr) (c c2 : Nat) (m : Int) (w : World) (hA : StAt w A c A2 c2 s) (hok : OkC s) (hsm : SmE x) (hm : w.cell? ⟨0, 0, none⟩ = some (.int .i64 m)) :
    Calls Tryd.prog 13 #[.agg #[.slice A s.boxes.length c, .slice A2 s.spool.length c2], entVal x] w fun e w' => AllOk w (allR s [x]) e w' := by
  obtain ⟨kd, bx, ud, fl, ds, tx⟩ := x
  have Hm := Lib.hid hm
  have HA := Lib.hid hA
  have hall := fun W A3 c3 hW hL hM => all_calls s [⟨kd, bx, ud, fl, ds, tx⟩] A A2 A3 c c2 c3 m W hW hok hL (fun e he => by simp at he; subst he; exact hsm) (by simp) hM
  have Hall := Lib.hid hall
  generalize allR s [⟨kd, bx, ud, fl, ds, tx⟩] = r at *
  have hb1 : Below w.heap.size w (((w.alloc (.cells #[.slice A s.boxes.length c, .slice A2 s.spool.length c2] 28)).alloc (.cells #[.int .i64 kd, .string bx, .int .i64 ud, .int .i64 fl, .string ds, .string tx] 31)).alloc (.cells #[.slice none 0 0, .slice none 0 0] 28)) := (((Below.refl _ w).alloc (Nat.le_refl _) _).alloc (by simp) _).alloc (by simp; omega) _
  have hR := Bk.new ((w.alloc (.cells #[.slice A s.boxes.length c, .slice A2 s.spool.length c2] 28)).alloc (.cells #[.int .i64 kd, .string bx, .int .i64 ud, .int .i64 fl, .string ds, .string tx] 31)) [.slice none 0 0, .slice none 0 0] 28
  have hs1 : ((w.alloc (.cells #[.slice A s.boxes.length c, .slice A2 s.spool.length c2] 28)).alloc (.cells #[.int .i64 kd, .string bx, .int .i64 ud, .int .i64 fl, .string ds, .string tx] 31)).heap.size = w.heap.size + 1 + 1 := by simp
  rw [hs1] at hR
  have hse : (((w.alloc (.cells #[.slice A s.boxes.length c, .slice A2 s.spool.length c2] 28)).alloc (.cells #[.int .i64 kd, .string bx, .int .i64 ud, .int .i64 fl, .string ds, .string tx] 31)).alloc (.cells #[.slice none 0 0, .slice none 0 0] 28)).heap.size = w.heap.size + 1 + 1 + 1 := by simp
  have Hse := Lib.hid hse
  clear hse
  have hs2 : w.heap.size + 3 ≤ (((w.alloc (.cells #[.slice A s.boxes.length c, .slice A2 s.spool.length c2] 28)).alloc (.cells #[.int .i64 kd, .string bx, .int .i64 ud, .int .i64 fl, .string ds, .string tx] 31)).alloc (.cells #[.slice none 0 0, .slice none 0 0] 28)).heap.size := by simp
  clear hall hm hA hs1
  unfold entVal
  simp only
  go_enter Tryd.func13, Tryd.ntmps13
  go_wp2_with fail
  generalize ((w.alloc (.cells #[.slice A s.boxes.length c, .slice A2 s.spool.length c2] 28)).alloc (.cells #[.int .i64 kd, .string bx, .int .i64 ud, .int .i64 fl, .string ds, .string tx] 31)).alloc (.cells #[.slice none 0 0, .slice none 0 0] 28) = w1 at *
  have hbA : Below w1.heap.size w1 (w1.alloc (.cells #[.int .i64 kd, .string bx, .int .i64 ud, .int .i64 fl, .string ds, .string tx] 31)) := (Below.refl _ w1).alloc (Nat.le_refl _) _
  have hlit := World.ownsRow_lit (base := w1.heap.size) (e := 31) (size := 6) w1 #[.int .i64 kd, .string bx, .int .i64 ud, .int .i64 fl, .string ds, .string tx] 1 (Nat.le_refl _) (by decide) rfl
  have hR2 := hR.later hbA
  have hb2 := hb1.trans (hbA.mono hb1.size)
  have hes : EsAt (w1.alloc (.cells #[.int .i64 kd, .string bx, .int .i64 ud, .int .i64 fl, .string ds, .string tx] 31)) (some ⟨w1.heap.size, 0, none⟩) [⟨kd, bx, ud, fl, ds, tx⟩] := ownsRow_ents (es := [⟨kd, bx, ud, fl, ds, tx⟩]) hlit rfl
  have hes2 : EsAt (w1.alloc (.cells #[.int .i64 kd, .string bx, .int .i64 ud, .int .i64 fl, .string ds, .string tx] 31)) (some ⟨w.heap.size + 1 + 1 + 1, 0, none⟩) [⟨kd, bx, ud, fl, ds, tx⟩] := by rw [← Hse.out]; exact hes
  refine (Hall.out _ (some ⟨w.heap.size + 1 + 1 + 1, 0, none⟩) 1 (HA.out.later hb2) hes2 (cell_later hb2 Hm.out)).mono ?_
  rintro e w2 ⟨v, rfl, hb3, hif⟩
  have hR3 := hR2.later hb3
  have hs3 := Nat.le_trans hs2 hbA.size
  have hb4 := hb2.trans (hb3.mono hb2.size)
  have r0 := hR3.cell 0 _ rfl
  have r1 := hR3.cell 1 _ rfl
  have g0 := hR3.frozen 0
  have g1 := hR3.frozen 1
  obtain ⟨A0, n0, k0, A1, n1, k1, rfl⟩ : ∃ A0 n0 k0 A1 n1 k1, v = .agg #[.slice A0 n0 k0, .slice A1 n1 k1] := by
    by_cases hz : r.1 = 0
    · rw [if_pos hz] at hif
      obtain ⟨vb, vs, _, _, e, hO⟩ := hif
      obtain ⟨Ab, cb, As, cs, rfl, rfl⟩ := hO.slices
      exact ⟨_, _, _, _, _, _, e⟩
    · rw [if_neg hz] at hif
      exact ⟨_, _, _, _, _, _, hif⟩
  have hZ := (hR3.set 0 (.slice A0 n0 k0)).set 1 (.slice A1 n1 k1)
  have z0 := hZ.cell 0 _ rfl
  have z1 := hZ.cell 1 _ rfl
  have hbz := (hb4.setCell (p := ⟨w.heap.size + 1 + 1, 0, none⟩) (by show w.heap.size ≤ w.heap.size + 1 + 1; omega) (.slice A0 n0 k0)).setCell (p := ⟨w.heap.size + 1 + 1, 1, none⟩) (by show w.heap.size ≤ w.heap.size + 1 + 1; omega) (.slice A1 n1 k1)
  have hfin : AllOk w r (.returned (.tuple #[.agg #[.slice A0 n0 k0, .slice A1 n1 k1], .int .i64 r.1])) ((w2.setCell ⟨w.heap.size + 1 + 1, 0, none⟩ (.slice A0 n0 k0)).setCell ⟨w.heap.size + 1 + 1, 1, none⟩ (.slice A1 n1 k1)) := by
    refine ⟨_, rfl, hbz, ?_⟩
    by_cases hz : r.1 = 0
    · rw [if_pos hz] at hif ⊢
      obtain ⟨vb, vs, vm, p, e, hO⟩ := hif
      exact ⟨vb, vs, vm, p, e, ((hO.setOther (w.heap.size + 1 + 1) 0 _ (by omega)).setOther (w.heap.size + 1 + 1) 1 _ (by omega)).mono (by omega)⟩
    · rw [if_neg hz] at hif ⊢
      exact hif
  have Hfin := Lib.hid hfin
  clear hfin hbz hZ hR3 hif hb4 hb3 hs3 hR2 hb2 hb1 hR hbA hlit hes hes2 Hall
  go_wp2_with fail
  exact bodyPost_ret (v := .tuple #[.agg #[.slice A0 n0 k0, .slice A1 n1 k1], .int .i64 r.1]) (by simp [results, Tryd.results13, go_sem, z0, z1]) rfl Hfin.out
end Go.Proofs.YtbddahdkjngecaaDoor
