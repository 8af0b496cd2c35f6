/- book.wide: what it appends. -/
import Derived.Test.YtpncahklapfoaaaDoorWideP
namespace Go.Proofs.YtpncahklapfoaaaDoor
open Go.RowKit
set_option linter.unusedVariables false

set_option maxRecDepth 100000 in
set_option maxHeartbeats 2000000 in
theorem wide_calls (v : Value) (l : List UInt8) (n many : Nat) (B : Nat) (w : World) (hB : B ≤ w.heap.size) (hrow : w.ownsRow B 5 1 v l.length (u8s l)) (hl : l.length ≤ 1000000) (hn : n ≤ 100000000) (hmn : many ≤ 3) :
    Calls Tryd.prog 28 #[v, .int .i64 n, .int .i64 many] w fun e w' => ∃ v', e = .returned v' ∧ w'.ownsRow B 5 1 v' (l ++ wideN many n).length (u8s (l ++ wideN many n)) ∧ w.grownBy w' v.ownBlock ∧ OwnOr w v v' := by
  obtain ⟨i0, hi, hz0, hz1, hz2⟩ := info_parts info_u8
  go_enter Tryd.func28, Tryd.ntmps28
  go_wp2_with fail
  go_loopw [0, 7] (fun u i wr => ∃ (j : Nat) (p : List UInt8), j ≤ many ∧ i = .int .i64 ((j : Int) - 1) ∧ Hid (wideN many n = p ++ wideN j n) ∧ p.length + j ≤ 3 ∧ wr.ownsRow B 5 1 u (l ++ p).length (u8s (l ++ p)) ∧ Hid (w.grownBy wr v.ownBlock) ∧ Hid (OwnOr w v u) ∧ w.heap.size ≤ wr.heap.size) (fun _ i _ => (intOf i + 1).toNat)
  case atStart => exact ⟨many, [], Nat.le_refl _, rfl, Lib.hid rfl, by simpa using hmn, by simpa using hrow, Lib.hid ⟨rfl, rfl, rfl, Nat.le_refl _, fun _ _ _ => rfl⟩, Lib.hid (.inl rfl), Nat.le_refl _⟩
  case round =>
    obtain ⟨j, p, hj, rfl, Hw, hp, hr, Hg, Ho, hsz⟩ := hrel
    clear hrow
    cases j with
    | zero =>
      have hw := Hw.out
      rw [show wideN 0 n = [] from rfl, List.append_nil] at hw
      have Hw2 := Lib.hid hw
      clear hw Hw
      go_wp2
      go_ret
      exact ⟨_, rfl, by rw [Hw2.out]; exact hr, Hg.out, Ho.out⟩
    | succ j =>
      have hb := byte_shr n j (by omega)
      have hw := Hw.out
      rw [show wideN (j + 1) n = UInt8.ofNat (n / 256 ^ j) :: wideN j n from rfl] at hw
      generalize UInt8.ofNat (n / 256 ^ j) = c at *
      have Hw2 := Lib.hid hw
      have Hb := Lib.hid hb
      clear hw Hw hb
      have e0 : ((j + 1 : Nat) : Int) - 1 = (j : Int) := by omega
      rw [e0]
      have hll : (l ++ p).length ≤ 1000003 := by rw [List.length_append]; omega
      go_wp2_with (at_builtin; refine wpList_append_own_at _ rfl _ _ 27 rfl B 5 i0 (.int .u8 0) 1 1 Tryd.underlying27 hi hz0 hz1 hz2 rfl (by decide) _ _ _ rfl (hr.alloc _) ⟨wr.heap.size, 0, none⟩ 1 1 [.int .u8 ((n : Int) / 2 ^ (8 * j) % 256)] rfl rfl (new_cells _ [.int .u8 ((n : Int) / 2 ^ (8 * j) % 256)] _) (by simp [Value.oneCell']) (by unfold maxLen; omega) (by omega) (by simp; omega) ?_; intro v' w1 hown' hgrow _ hat)
      have hg1 : wr.grownBy w1 u0.ownBlock := grown_alloc hgrow
      have ho1 : OwnOr wr u0 v' := by
        rcases hat with h | h
        · exact .inl h
        · exact .inr fun k hk => by rw [h] at hk; have := Option.some.inj hk; simp at this; omega
      have hg2 := grown_trans Hg.out hg1 Ho.out
      have ho2 := OwnOr.trans Ho.out ho1 hsz
      have Hg2 := Lib.hid hg2
      have Ho2 := Lib.hid ho2
      have hs2 := Nat.le_trans hsz hg1.size
      clear hgrow hat hg1 ho1 hg2 ho2 Hg Ho
      go_roundw
      case rel => exact ⟨j, p ++ [c], by omega, by go_num, by rw [List.append_assoc]; exact Hw2, by rw [List.length_append]; simp; omega, by rw [← List.append_assoc, u8s_append, List.length_append]; rw [← Hb.out] at hown'; exact hown', Hg2, Ho2, hs2⟩
      case measure => simp [intOf]
end Go.Proofs.YtpncahklapfoaaaDoor
