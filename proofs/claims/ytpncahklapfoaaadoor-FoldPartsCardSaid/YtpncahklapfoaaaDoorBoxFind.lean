/- box.find: the place of a box. -/
import Derived.Test.YtpncahklapfoaaaDoorStMem
import Derived.Test.YtpncahklapfoaaaDoorBlk
import Derived.Deep.LoopGhost
import Derived.Outline
namespace Go.Proofs.YtpncahklapfoaaaDoor
open Go.RowKit
set_option linter.unusedVariables false

set_option maxRecDepth 100000 in
set_option maxHeartbeats 1000000 in
theorem find1_calls (b : BoxS) (v : Value) (n : ByteArray) (B : Nat) (W : World) (hc : W.cell? ⟨B, 0, none⟩ = some (.string n)) :
    Calls Tryd.prog 60 #[.agg #[.string b.name, .int .i64 b.next, v], .pointer (some ⟨B, 0, none⟩)] W fun e w' => e = .returned (.bool (decide (b.name = n))) ∧ Below W.heap.size W w' := by
  have hb : Below W.heap.size W (W.alloc (.cells #[.string b.name, .int .i64 b.next, v] 83)) := (Below.refl _ W).alloc (Nat.le_refl _) _
  have hc2 := cell_later hb hc
  obtain ⟨s, t, ms⟩ := b
  simp only at hb hc2 ⊢
  by_cases h : s = n
  · subst h
    go_enter Tryd.func60, Tryd.ntmps60
    go_wp2
    go_ret
    exact ⟨by simp, hb⟩
  · have he : decide (s = n) = false := by simpa using h
    have Hb := Lib.hid hb
    clear hb
    go_enter Tryd.func60, Tryd.ntmps60
    go_wp2
    go_ret
    exact ⟨by simp only [he]; simp; intro e; exact h (bs_inj (by rw [← toList_bs, ← toList_bs, e])), Hb.out⟩
set_option maxRecDepth 100000 in
set_option maxHeartbeats 1000000 in
theorem idxBox_calls (l : List BoxS) (A : Option Addr) (c : Nat) (n : ByteArray) (B : Nat) (w : World) (hl : l.length ≤ 9223372036854775807) (hA : BxAt w A l) (hc : w.cell? ⟨B, 0, none⟩ = some (.string n)) :
    Calls Tryd.prog 59 #[.slice A l.length c, .func (.func 60) #[] #[.pointer (some ⟨B, 0, none⟩)]] w fun e w' => e = .returned (.int .i64 (findR l n)) ∧ Below w.heap.size w w' := by
  go_enter Tryd.func59, Tryd.ntmps59
  go_wp2
  go_loopw [5, 8] (fun _ i wr => ∃ k : Nat, k ≤ l.length ∧ i = .int .i64 k ∧ Hid (Below w.heap.size w wr) ∧ Hid (∀ j (hj : j < l.length), j < k → (fun b : BoxS => decide (b.name = n)) l[j] = false)) (fun _ i _ => l.length - (intOf i).toNat)
  case atStart => exact ⟨0, Nat.zero_le _, rfl, Lib.hid (Below.refl _ _), Lib.hid (fun j _ hj => absurd hj (Nat.not_lt_zero _))⟩
  case round =>
    obtain ⟨k, hk, rfl, Hb, Hno⟩ := hrel
    by_cases hlt : k < l.length
    · obtain ⟨g, off, Am, cm, rfl, c0, c1, c2, _⟩ := hA.later Hb.out k l[k] (by simp [hlt])
      have h1 := find1_calls l[k] (.slice Am l[k].mails.length cm) n B wr (cell_later Hb.out hc)
      have hk0 : (0 : Int) ≤ (k : Int) := by omega
      have hkn : (k : Int) < (l.length : Int) := by omega
      obtain ⟨b, hbe⟩ : ∃ b, l[k] = b := ⟨_, rfl⟩
      rw [hbe] at c0 c1 c2 h1
      have Hbe := Lib.hid hbe
      clear hbe
      by_cases hq : b.name = n
      · rw [show decide (b.name = n) = true by simpa using hq] at h1
        have hfin : findR l n = k := by
          unfold findR
          exact idxR_hit _ l k hlt (by rw [Hbe.out]; simpa using hq) Hno.out
        have Hf := Lib.hid hfin
        have H1 := Lib.hid h1
        clear hfin h1 hq
        obtain ⟨nm, nx, ms⟩ := b
        simp only at c0 c1 c2 H1
        go_wp2_with fail
        refine H1.out.mono ?_
        rintro e w' ⟨rfl, hb'⟩
        have Hb2 := Lib.hid (Hb.out.trans (hb'.mono Hb.out.size))
        clear hb' H1 c0 c1 c2
        go_wp2_with fail
        go_ret
        exact ⟨by rw [Hf.out]; rfl, Hb2.out⟩
      · rw [show decide (b.name = n) = false by simpa using hq] at h1
        have hno : ∀ j (hj : j < l.length), j < k + 1 → (fun b : BoxS => decide (b.name = n)) l[j] = false := by
          intro j hj hjk
          by_cases e : j = k
          · subst e
            show decide (l[j].name = n) = false
            rw [Hbe.out]; simpa using hq
          · exact Hno.out j hj (by omega)
        have Hn2 := Lib.hid hno
        have H1 := Lib.hid h1
        clear hno h1 hq
        obtain ⟨nm, nx, ms⟩ := b
        simp only at c0 c1 c2 H1
        go_wp2_with fail
        refine H1.out.mono ?_
        rintro e w' ⟨rfl, hb'⟩
        have Hb2 := Lib.hid (Hb.out.trans (hb'.mono Hb.out.size))
        clear hb' H1 c0 c1 c2
        go_wp2_with fail
        go_roundw
        case rel => exact ⟨k + 1, by omega, by go_num, Hb2, Hn2⟩
        case measure => simp [intOf]; omega
    · obtain rfl : k = l.length := by omega
      have hfin : findR l n = -1 := by
        unfold findR
        exact idxR_miss _ l fun j hj => Hno.out j hj hj
      have Hf := Lib.hid hfin
      clear hfin Hno hA
      go_wp2
      go_ret
      exact ⟨by rw [Hf.out]; rfl, Hb.out⟩
set_option maxRecDepth 100000 in
set_option maxHeartbeats 1000000 in
theorem find_calls (l : List BoxS) (A : Option Addr) (c : Nat) (n : ByteArray) (w : World) (hl : l.length ≤ 9223372036854775807) (hA : BxAt w A l) :
    Calls Tryd.prog 43 #[.slice A l.length c, .string n] w fun e w' => e = .returned (.int .i64 (findR l n)) ∧ Below w.heap.size w w' := by
  have hb : Below w.heap.size w (w.alloc (.cells #[.string n] 9)) := (Below.refl _ w).alloc (Nat.le_refl _) _
  have hX := Bk.new w [.string n] 9
  have h1 := idxBox_calls l A c n w.heap.size _ hl (hA.later hb) (hX.cell 0 _ rfl)
  have H1 := Lib.hid h1
  clear h1 hX hA
  go_enter Tryd.func43, Tryd.ntmps43
  go_wp2_with fail
  refine H1.out.mono ?_
  rintro e w1 ⟨rfl, hb1⟩
  have Hb2 := Lib.hid (hb.trans (hb1.mono hb.size))
  clear hb hb1 H1
  go_wp2_with fail
  go_ret
  exact ⟨rfl, Hb2.out⟩
end Go.Proofs.YtpncahklapfoaaaDoor
