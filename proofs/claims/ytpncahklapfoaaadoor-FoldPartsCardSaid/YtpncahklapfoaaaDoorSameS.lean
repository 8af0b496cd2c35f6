/- The helper sameState of the statements: what it returns. -/
import Derived.Test.YtpncahklapfoaaaDoorStateP
namespace Go.Proofs.YtpncahklapfoaaaDoor
open Go.RowKit
set_option linter.unusedVariables false

set_option maxRecDepth 100000 in
set_option maxHeartbeats 4000000 in
theorem same_state (s : StS) (A A2 B B2 : Option Addr) (c c2 d d2 : Nat) (w : World) (hA : StAt w A c A2 c2 s) (hB : StAt w B d B2 d2 s) (hl1 : s.boxes.length ≤ 100000) (hl2 : s.spool.length ≤ 100000) (hl3 : ∀ b ∈ s.boxes, b.mails.length ≤ 100000) :
    Calls Tryd.prog 26 #[.agg #[.slice A s.boxes.length c, .slice A2 s.spool.length c2], .agg #[.slice B s.boxes.length d, .slice B2 s.spool.length d2]] w fun e w' => e = .returned (.bool true) ∧ Below w.heap.size w w' := by
  have hM0 : Bk ((w.alloc (.cells #[.slice A s.boxes.length c, .slice A2 s.spool.length c2] 56)).alloc (.cells #[.slice B s.boxes.length d, .slice B2 s.spool.length d2] 56)) w.heap.size [.slice A s.boxes.length c, .slice A2 s.spool.length c2] 56 := (Bk.new w [.slice A s.boxes.length c, .slice A2 s.spool.length c2] _).alloc _
  have hN0 : Bk ((w.alloc (.cells #[.slice A s.boxes.length c, .slice A2 s.spool.length c2] 56)).alloc (.cells #[.slice B s.boxes.length d, .slice B2 s.spool.length d2] 56)) (w.alloc (.cells #[.slice A s.boxes.length c, .slice A2 s.spool.length c2] 56)).heap.size [.slice B s.boxes.length d, .slice B2 s.spool.length d2] 56 := Bk.new _ [.slice B s.boxes.length d, .slice B2 s.spool.length d2] _
  have hb0 : Below w.heap.size w ((w.alloc (.cells #[.slice A s.boxes.length c, .slice A2 s.spool.length c2] 56)).alloc (.cells #[.slice B s.boxes.length d, .slice B2 s.spool.length d2] 56)) := ((Below.refl _ w).alloc (Nat.le_refl _) _).alloc (by simp) _
  rw [show (w.alloc (.cells #[.slice A s.boxes.length c, .slice A2 s.spool.length c2] 56)).heap.size = w.heap.size + 1 by simp] at hN0
  have HbxA := Lib.hid hA.bx
  have HbxB := Lib.hid hB.bx
  have HesA := Lib.hid hA.es
  have HesB := Lib.hid hB.es
  have Hl3 := Lib.hid hl3
  obtain ⟨l, sp⟩ := s
  simp only at hl1 hl2 Hl3 hM0 hN0 hb0 HbxA HbxB HesA HesB ⊢
  clear hA hB hl3
  go_enter Tryd.func26, Tryd.ntmps26
  go_upto_region 1 with fail
  generalize (w.alloc (.cells #[.slice A l.length c, .slice A2 sp.length c2] 56)).alloc (.cells #[.slice B l.length d, .slice B2 sp.length d2] 56) = W0 at *
  have m0 := hM0.cell 0 _ rfl
  have m1 := hM0.cell 1 _ rfl
  have n0 := hN0.cell 0 _ rfl
  have n1 := hN0.cell 1 _ rfl
  have Hb0 := Lib.hid hb0
  clear hb0
  go_wp2_with fail
  clear m0 m1 n0 n1
  go_loopw [5] (fun t wr => ∃ k : Nat, k ≤ sp.length ∧ t = .int .i64 k ∧ Hid (Below w.heap.size w wr) ∧ Bk wr w.heap.size [.slice A l.length c, .slice A2 sp.length c2] 56 ∧ Bk wr (w.heap.size + 1) [.slice B l.length d, .slice B2 sp.length d2] 56) (fun t _ => sp.length - (intOf t).toNat)
  case atStart => exact ⟨0, Nat.zero_le _, rfl, Hb0, hM0, hN0⟩
  case round =>
    obtain ⟨k, hk, rfl, Hb, hM, hN⟩ := hrel
    clear Hb0 hM0 hN0
    have m0 := hM.cell 1 _ rfl
    have n0 := hN.cell 1 _ rfl
    by_cases hlt : k < sp.length
    · obtain ⟨g, off, rfl, c0, c1, c2, c3, c4, c5⟩ := HesA.out.later Hb.out k hlt
      obtain ⟨g2, off2, rfl, e0, e1, e2, e3, e4, e5⟩ := HesB.out.later Hb.out k hlt
      generalize sp[k] = z at *
      have HM := Lib.hid hM
      have HN := Lib.hid hN
      have hk0 : (0 : Int) ≤ (k : Int) := by omega
      have hkn : (k : Int) < (sp.length : Int) := by omega
      clear hM hN
      go_wp2_with fail
      go_quiet (fail)
      go_wp2
      go_roundw
      case rel => exact ⟨k + 1, by omega, by go_num, Lib.hid (bel_drewN Hb.out _), HM.out.drewN _, HN.out.drewN _⟩
      case measure => simp [intOf]; omega
    · obtain rfl : k = sp.length := by omega
      go_wp2_with fail
      clear m0 n0 HesA HesB
      go_loopw [6] (fun t wr => ∃ k : Nat, k ≤ l.length ∧ t = .int .i64 k ∧ Hid (Below w.heap.size w wr) ∧ Bk wr w.heap.size [.slice A l.length c, .slice A2 sp.length c2] 56 ∧ Bk wr (w.heap.size + 1) [.slice B l.length d, .slice B2 sp.length d2] 56) (fun t _ => l.length - (intOf t).toNat)
      case atStart => exact ⟨0, Nat.zero_le _, rfl, Hb, hM, hN⟩
      case round =>
        obtain ⟨k, hk, rfl, Hb', hM', hN'⟩ := hrel
        clear Hb hM hN
        have m0 := hM'.cell 0 _ rfl
        have n0 := hN'.cell 0 _ rfl
        by_cases hlt : k < l.length
        · obtain ⟨g, off, Am, cm, rfl, c0, c1, c2', _, hmA⟩ := HbxA.out.later Hb'.out k l[k] (by simp [hlt])
          obtain ⟨g2, off2, Bm, dm, rfl, e0, e1, e2', _, hmB⟩ := HbxB.out.later Hb'.out k l[k] (by simp [hlt])
          have hml := Hl3.out l[k] (List.getElem_mem hlt)
          generalize l[k] = z at *
          obtain ⟨nm, nx, ms⟩ := z
          simp only at c0 c1 c2' e0 e1 e2' hmA hmB hml
          have hk0 : (0 : Int) ≤ (k : Int) := by omega
          have hkn : (k : Int) < (l.length : Int) := by omega
          have hbA : Below wr.heap.size wr (wr.alloc (.cells #[.string nm, .int .i64 nx, .slice Am ms.length cm] 83)) := (Below.refl _ wr).alloc (Nat.le_refl _) _
          have n0a := cell_later hbA n0
          have e0a := cell_later hbA e0
          have e1a := cell_later hbA e1
          have e2a := cell_later hbA e2'
          have hX := (Bk.new wr [.string nm, .int .i64 nx, .slice Am ms.length cm] 83).alloc (.cells #[.string nm, .int .i64 nx, .slice Bm ms.length dm] 83)
          have hY := Bk.new (wr.alloc (.cells #[.string nm, .int .i64 nx, .slice Am ms.length cm] 83)) [.string nm, .int .i64 nx, .slice Bm ms.length dm] 83
          rw [show (wr.alloc (.cells #[.string nm, .int .i64 nx, .slice Am ms.length cm] 83)).heap.size = wr.heap.size + 1 by simp] at hY
          have hb2 := hbA.alloc (by simp) (.cells #[.string nm, .int .i64 nx, .slice Bm ms.length dm] 83)
          have HM2 := Lib.hid (hM'.later hb2)
          have HN2 := Lib.hid (hN'.later hb2)
          have HmA := Lib.hid (hmA.later hb2)
          have HmB := Lib.hid (hmB.later hb2)
          have Hb2 := Lib.hid (Hb'.out.trans (hb2.mono Hb'.out.size))
          clear hM' hN' hmA hmB hbA hb2 Hb'
          go_upto_region 13 with fail
          generalize (wr.alloc (.cells #[.string nm, .int .i64 nx, .slice Am ms.length cm] 83)).alloc (.cells #[.string nm, .int .i64 nx, .slice Bm ms.length dm] 83) = W1 at *
          generalize wr.heap.size = q at *
          clear m0 n0 c0 c1 c2' e0 e1 e2' n0a e0a e1a e2a
          have x0 := hX.cell 0 _ rfl
          have x1 := hX.cell 1 _ rfl
          have x2 := hX.cell 2 _ rfl
          have y0 := hY.cell 0 _ rfl
          have y1 := hY.cell 1 _ rfl
          have y2 := hY.cell 2 _ rfl
          go_wp2_with fail
          clear x0 x1 x2 y0 y1 y2
          go_loopw [9] (fun t ws => ∃ i : Nat, i ≤ ms.length ∧ t = .int .i64 i ∧ Hid (Below W1.heap.size W1 ws) ∧ Bk ws q [.string nm, .int .i64 nx, .slice Am ms.length cm] 83 ∧ Bk ws (q + 1) [.string nm, .int .i64 nx, .slice Bm ms.length dm] 83) (fun t _ => ms.length - (intOf t).toNat)
          case atStart => exact ⟨0, Nat.zero_le _, rfl, Lib.hid (Below.refl _ _), hX, hY⟩
          case round =>
            obtain ⟨i, hi, rfl, Hbi, hXi, hYi⟩ := hrel
            clear hX hY
            have x2 := hXi.cell 2 _ rfl
            have y2 := hYi.cell 2 _ rfl
            by_cases hlt2 : i < ms.length
            · obtain ⟨ga, oa, rfl, f0, f1, f2⟩ := HmA.out.later Hbi.out i ms[i] (by simp [hlt2])
              obtain ⟨gb, ob, rfl, g0, g1, g2'⟩ := HmB.out.later Hbi.out i ms[i] (by simp [hlt2])
              generalize ms[i] = mz at *
              have HX := Lib.hid hXi
              have HY := Lib.hid hYi
              have hi0 : (0 : Int) ≤ (i : Int) := by omega
              have hin : (i : Int) < (ms.length : Int) := by omega
              clear hXi hYi
              go_wp2_with fail
              go_quiet (fail)
              go_wp2
              go_roundw
              case rel => exact ⟨i + 1, by omega, by go_num, Lib.hid (bel_drewN Hbi.out _), HX.out.drewN _, HY.out.drewN _⟩
              case measure => simp [intOf]; omega
            · obtain rfl : i = ms.length := by omega
              have Hb3 := Lib.hid (Hb2.out.trans (Hbi.out.mono Hb2.out.size))
              have HM3 := Lib.hid (HM2.out.later Hbi.out)
              have HN3 := Lib.hid (HN2.out.later Hbi.out)
              clear hXi hYi
              go_wp2_with fail
              go_roundw
              case rel => exact ⟨k + 1, by omega, by go_num, Hb3, HM3.out, HN3.out⟩
              case measure => simp [intOf]; omega
        · obtain rfl : k = l.length := by omega
          clear hM' hN'
          go_wp2
          go_ret
          exact ⟨rfl, Hb'.out⟩
end Go.Proofs.YtpncahklapfoaaaDoor
