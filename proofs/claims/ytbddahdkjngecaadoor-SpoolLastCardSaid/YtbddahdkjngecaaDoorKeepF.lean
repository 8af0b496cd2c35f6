/- The helper find of the statements: what it returns. -/
import Derived.Test.YtbddahdkjngecaaDoorStateW
import Derived.Test.YtbddahdkjngecaaDoorSameS
namespace Go.Proofs.YtbddahdkjngecaaDoor
open Go.RowKit
set_option linter.unusedVariables false

set_option maxRecDepth 100000 in
set_option maxHeartbeats 1000000 in
theorem findk_calls (s : StS) (A A2 : Option Addr) (c c2 : Nat) (n : ByteArray) (w : World) (hl : s.boxes.length ≤ 9223372036854775807) (hA : StAt w A c A2 c2 s) :
    Calls Tryd.prog 14 #[.agg #[.slice A s.boxes.length c, .slice A2 s.spool.length c2], .string n] w fun e w' => e = .returned (.int .i64 (findR s.boxes n)) ∧ Below w.heap.size w w' := by
  have hb0 : Below w.heap.size w (w.alloc (.cells #[.slice A s.boxes.length c, .slice A2 s.spool.length c2] 28)) := (Below.refl _ w).alloc (Nat.le_refl _) _
  have hX := Bk.new w [.slice A s.boxes.length c, .slice A2 s.spool.length c2] 28
  have Hbx := Lib.hid hA.bx
  obtain ⟨l, sp⟩ := s
  simp only at hl hb0 hX Hbx ⊢
  clear hA
  go_enter Tryd.func14, Tryd.ntmps14
  go_wp2_with fail
  generalize w.alloc (.cells #[.slice A l.length c, .slice A2 sp.length c2] 28) = w1 at *
  have Hb0 := Lib.hid hb0
  clear hb0
  go_loopw [5] (fun i wr => ∃ k : Nat, k ≤ l.length ∧ i = .int .i64 k ∧ Hid (Below w.heap.size w wr) ∧ Bk wr w.heap.size [.slice A l.length c, .slice A2 sp.length c2] 28 ∧ Hid (∀ j (hj : j < l.length), j < k → (fun b : BoxS => decide (b.name = n)) l[j] = false)) (fun i _ => l.length - (intOf i).toNat)
  case atStart => exact ⟨0, Nat.zero_le _, rfl, Hb0, hX, Lib.hid (fun j _ hj => absurd hj (Nat.not_lt_zero _))⟩
  case round =>
    obtain ⟨k, hk, rfl, Hb, hY, Hno⟩ := hrel
    clear Hb0 hX
    have x0 := hY.cell 0 _ rfl
    by_cases hlt : k < l.length
    · obtain ⟨g, off, Am, cm, rfl, c0, c1, c2', _⟩ := Hbx.out.later Hb.out k l[k] (by simp [hlt])
      have hk0 : (0 : Int) ≤ (k : Int) := by omega
      have hkn : (k : Int) < (l.length : Int) := by omega
      obtain ⟨b, hbe⟩ : ∃ b, l[k] = b := ⟨_, rfl⟩
      rw [hbe] at c0 c1 c2'
      have Hbe := Lib.hid hbe
      clear hbe
      by_cases hq : b.name = n
      · have hfin : findR l n = k := by
          unfold findR
          exact idxR_hit _ l k hlt (by rw [Hbe.out]; simpa using hq) Hno.out
        have Hf := Lib.hid hfin
        rw [hq] at c0
        clear hfin hq Hno
        have HY := Lib.hid hY
        clear hY
        go_wp2
        go_ret
        exact ⟨by rw [Hf.out]; rfl, Hb.out⟩
      · have hno : ∀ j (hj : j < l.length), j < k + 1 → (fun b : BoxS => decide (b.name = n)) l[j] = false := by
          intro j hj hjk
          by_cases e : j = k
          · subst e
            show decide (l[j].name = n) = false
            rw [Hbe.out]; simpa using hq
          · exact Hno.out j hj (by omega)
        have Hn2 := Lib.hid hno
        have hne : (b.name.toList == n.toList) = false := by rw [beq_eq_false_iff_ne]; exact fun e => hq (bs_inj (by rw [← toList_bs, ← toList_bs, e]))
        have HY := Lib.hid hY
        clear hno hY Hbe
        generalize b.name = nm at *
        go_wp2_with fail
        go_roundw
        case rel => exact ⟨k + 1, by omega, by go_num, Hb, HY.out, Hn2⟩
        case measure => simp [intOf]; omega
    · obtain rfl : k = l.length := by omega
      have hfin : findR l n = -1 := by
        unfold findR
        exact idxR_miss _ l fun j hj => Hno.out j hj hj
      have Hf := Lib.hid hfin
      clear hfin Hno hY
      go_wp2
      go_ret
      exact ⟨by rw [Hf.out]; rfl, Hb.out⟩
end Go.Proofs.YtbddahdkjngecaaDoor
