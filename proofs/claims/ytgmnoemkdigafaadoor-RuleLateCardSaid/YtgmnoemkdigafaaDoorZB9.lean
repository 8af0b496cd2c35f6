/- script.check at a command that is no if. -/
import Derived.Test.YtgmnoemkdigafaaDoorZB8
namespace Go.Proofs.YtgmnoemkdigafaaDoor
open Go.RowKit
set_option linter.unusedVariables false

set_option maxRecDepth 100000 in
set_option maxHeartbeats 8000000 in
theorem check_other (k : Int) (tx : List ByteArray) (h1 : 1 ≤ k) (h2 : k ≤ 10) (h3 : k ≠ 2) (hf : formC k tx.length = true) : CkC (.mk k tx zeroT [] []) := by
  intro d vs w hd0 hd7 hv
  rw [chkC_other h1 h2 h3 hf]
  generalize hres : (if 6 < d then (1 : Int) else 0) = res
  obtain ⟨Ax, cx, k2, m, p, lm, o, An, Ak, At, nn, cn, nk, ck, nt, ct, Ah, ch, Ae, ce, rfl, _, ht, _, _, hle⟩ := cmdV_cells hv
  obtain ⟨rfl, rfl, rfl, rfl, rfl, rfl, rfl, rfl⟩ := zeroT_cells ht
  have hln : tx.length ≤ 1000000 := hle.2.2.2.1
  generalize hn : tx.length = n at *
  clear hv ht hn hle
  simp only [List.length_nil]
  have hb1 : Below w.heap.size w (w.alloc (.cells #[.int .i64 k, .slice Ax n cx, .int .i64 0, .int .i64 0, .int .i64 0, .slice An 0 cn, .slice Ak 0 ck, .bool false, .int .i64 0, .slice At 0 ct, .slice Ah 0 ch, .slice Ae 0 ce] 34)) := bal (Below.refl _ w) _
  have hT := Bk.new w [.int .i64 k, .slice Ax n cx, .int .i64 0, .int .i64 0, .int .i64 0, .slice An 0 cn, .slice Ak 0 ck, .bool false, .int .i64 0, .slice At 0 ct, .slice Ah 0 ch, .slice Ae 0 ce] 34
  have HT := Lib.hid hT
  have Hb1 := Lib.hid hb1
  have Hf := Lib.hid hf
  clear hT hb1 hf
  have q1 : ¬ k < 1 := by omega
  have q10 : ¬ 10 < k := by omega
  have q2 : (k == 2) = false := by rw [beq_eq_false_iff_ne]; exact h3
  go_enter Tryd.func42, Tryd.ntmps42
  go_upto_region 1 with fail
  generalize w.alloc (.cells #[.int .i64 k, .slice Ax n cx, .int .i64 0, .int .i64 0, .int .i64 0, .slice An 0 cn, .slice Ak 0 ck, .bool false, .int .i64 0, .slice At 0 ct, .slice Ah 0 ch, .slice Ae 0 ce] 34) = w1 at *
  have x0 := HT.out.cell 0 _ rfl
  by_cases h6 : 6 < d
  · rw [if_pos h6] at hres
    subst hres
    go_wp2_with fail
    go_ret
    exact ⟨rfl, Hb1.out⟩
  · rw [if_neg h6] at hres
    subst hres
    have x1 := HT.out.cell 1 _ rfl
    have x2 := HT.out.cell 2 _ rfl
    have x3 := HT.out.cell 3 _ rfl
    have x4 := HT.out.cell 4 _ rfl
    have x5 := HT.out.cell 5 _ rfl
    have x6 := HT.out.cell 6 _ rfl
    have x7 := HT.out.cell 7 _ rfl
    have x8 := HT.out.cell 8 _ rfl
    have x9 := HT.out.cell 9 _ rfl
    have x10 := HT.out.cell 10 _ rfl
    have x11 := HT.out.cell 11 _ rfl
    have hf := Hf.out
    rcases (show k = 1 ∨ k = 3 ∨ k = 4 ∨ k = 5 ∨ k = 6 ∨ k = 7 ∨ k = 8 ∨ k = 9 ∨ k = 10 by omega) with rfl | rfl | rfl | rfl | rfl | rfl | rfl | rfl | rfl
    · have hf1 : (0 : Int) < (n : Int) := by
        simp [formC] at hf; omega
      clear Hf hf q1 q10 q2 h1 h2 h3 HT
      go_wp2_with (go_at_call 64; refine (bare_zero _ _ _ _ _ _ _).mono ?_; rintro e w' ⟨rfl, hb⟩; have y10 := cell_later hb x10; have y11 := cell_later hb x11)
      go_ret
      exact ⟨rfl, btr Hb1.out hb⟩
    · obtain rfl : n = 0 := by
        simp [formC] at hf; omega
      clear Hf hf q1 q10 q2 h1 h2 h3 HT
      go_wp2_with (go_at_call 64; refine (bare_zero _ _ _ _ _ _ _).mono ?_; rintro e w' ⟨rfl, hb⟩; have y10 := cell_later hb x10; have y11 := cell_later hb x11)
      go_ret
      exact ⟨rfl, btr Hb1.out hb⟩
    · obtain rfl : n = 0 := by
        simp [formC] at hf; omega
      clear Hf hf q1 q10 q2 h1 h2 h3 HT
      go_wp2_with (go_at_call 64; refine (bare_zero _ _ _ _ _ _ _).mono ?_; rintro e w' ⟨rfl, hb⟩; have y10 := cell_later hb x10; have y11 := cell_later hb x11)
      go_ret
      exact ⟨rfl, btr Hb1.out hb⟩
    · obtain rfl : n = 1 := by
        simp [formC] at hf; omega
      clear Hf hf q1 q10 q2 h1 h2 h3 HT
      go_wp2_with (go_at_call 64; refine (bare_zero _ _ _ _ _ _ _).mono ?_; rintro e w' ⟨rfl, hb⟩; have y10 := cell_later hb x10; have y11 := cell_later hb x11)
      go_ret
      exact ⟨rfl, btr Hb1.out hb⟩
    · obtain rfl : n = 1 := by
        simp [formC] at hf; omega
      clear Hf hf q1 q10 q2 h1 h2 h3 HT
      go_wp2_with (go_at_call 64; refine (bare_zero _ _ _ _ _ _ _).mono ?_; rintro e w' ⟨rfl, hb⟩; have y10 := cell_later hb x10; have y11 := cell_later hb x11)
      go_ret
      exact ⟨rfl, btr Hb1.out hb⟩
    · obtain rfl : n = 1 := by
        simp [formC] at hf; omega
      clear Hf hf q1 q10 q2 h1 h2 h3 HT
      go_wp2_with (go_at_call 64; refine (bare_zero _ _ _ _ _ _ _).mono ?_; rintro e w' ⟨rfl, hb⟩; have y10 := cell_later hb x10; have y11 := cell_later hb x11)
      go_ret
      exact ⟨rfl, btr Hb1.out hb⟩
    · have hf1 : (0 : Int) < (n : Int) := by
        simp [formC] at hf; omega
      clear Hf hf q1 q10 q2 h1 h2 h3 HT
      go_wp2_with (go_at_call 64; refine (bare_zero _ _ _ _ _ _ _).mono ?_; rintro e w' ⟨rfl, hb⟩; have y10 := cell_later hb x10; have y11 := cell_later hb x11)
      go_ret
      exact ⟨rfl, btr Hb1.out hb⟩
    · have hf1 : (0 : Int) < (n : Int) := by
        simp [formC] at hf; omega
      clear Hf hf q1 q10 q2 h1 h2 h3 HT
      go_wp2_with (go_at_call 64; refine (bare_zero _ _ _ _ _ _ _).mono ?_; rintro e w' ⟨rfl, hb⟩; have y10 := cell_later hb x10; have y11 := cell_later hb x11)
      go_ret
      exact ⟨rfl, btr Hb1.out hb⟩
    · obtain rfl : n = 0 := by
        simp [formC] at hf; omega
      clear Hf hf q1 q10 q2 h1 h2 h3 HT
      go_wp2_with (go_at_call 64; refine (bare_zero _ _ _ _ _ _ _).mono ?_; rintro e w' ⟨rfl, hb⟩; have y10 := cell_later hb x10; have y11 := cell_later hb x11)
      go_ret
      exact ⟨rfl, btr Hb1.out hb⟩
end Go.Proofs.YtgmnoemkdigafaaDoor
