/- Small functions that the laws on letters reach: name, value. -/
import Derived.Test.YtlbibklbckabnaaDoorLetPlain
import Derived.Test.YtlbibklbckabnaaDoorProg
import Derived.WalkKit
namespace Go.Proofs.YtlbibklbckabnaaDoor
open Go.RowKit

theorem nameB_of (c : UInt8) (h1 : 33 ≤ (c.toNat : Int)) (h2 : (c.toNat : Int) ≤ 126) (h3 : ((c.toNat : Int) == 58) = false) : nameB c = true := by
  have h4 : c ≠ 58 := by rintro rfl; exact absurd h3 (by decide)
  unfold nameB
  simp only [Bool.and_eq_true, decide_eq_true_eq, bne_iff_ne, ne_eq, UInt8.le_iff_toNat_le]
  exact ⟨⟨by show 33 ≤ c.toNat; omega, by show c.toNat ≤ 126; omega⟩, h4⟩
theorem nameB_not (c : UInt8) (h : (c.toNat : Int) < 33 ∨ 126 < (c.toNat : Int) ∨ ((c.toNat : Int) == 58) = true) : nameB c = false := by
  rw [Bool.eq_false_iff]
  intro hn
  unfold nameB at hn
  simp only [Bool.and_eq_true, decide_eq_true_eq, bne_iff_ne, ne_eq, UInt8.le_iff_toNat_le] at hn
  obtain ⟨⟨h1, h2⟩, h3⟩ := hn
  have h1' : 33 ≤ c.toNat := h1
  have h2' : c.toNat ≤ 126 := h2
  rcases h with h | h | h
  · omega
  · omega
  · exact h3 (UInt8.toNat_inj.1 (by have := eq_of_beq h; show c.toNat = 58; omega))
set_option maxHeartbeats 1000000 in
theorem name_calls (s : ByteArray) (w : World) (hs : s.size ≤ 100000) :
    Calls Tryd.prog 38 #[.string s] w fun e w' => e = .returned (.bool (nameL (bs s))) ∧ w = w' := by
  go_enter Tryd.func38, Tryd.ntmps38
  go_wp2
  go_loop [3, 6] (fun _ t => ∃ k : Nat, k ≤ s.size ∧ t = .int .i64 k ∧ ((bs s).take k).all nameB = true) (fun _ t => s.size - (intOf t).toNat)
  case atStart => exact ⟨0, Nat.zero_le _, rfl, rfl⟩
  case round =>
    obtain ⟨k, hk, rfl, hall⟩ := hrel
    by_cases hlt : k < s.size
    · have hts := take_snoc s k hlt
      have hin : s[k] ∈ bs s := List.getElem_mem (l := bs s) hlt
      have Hts := Lib.hid hts
      have hno : nameB s[k] = false → nameL (bs s) = false := by
        intro h
        unfold nameL
        rw [Bool.and_eq_false_iff]
        left
        rw [List.all_eq_false]
        exact ⟨_, hin, by rw [h]; decide⟩
      have hyes : nameB s[k] = true → ((bs s).take (k + 1)).all nameB = true := by
        intro h
        rw [Hts.out, List.all_append, hall, List.all_cons, h]; rfl
      have Hno := Lib.hid hno
      have Hyes := Lib.hid hyes
      clear hts hno hyes hall hin
      by_cases h1 : (s[k].toNat : Int) < 33
      · have hr := Lib.hid (Hno.out (nameB_not _ (.inl h1)))
        go_wp2
        go_ret
        exact ⟨by rw [hr.out]; rfl, rfl⟩
      · by_cases h2 : 126 < (s[k].toNat : Int)
        · have hr := Lib.hid (Hno.out (nameB_not _ (.inr (.inl h2))))
          go_wp2
          go_ret
          exact ⟨by rw [hr.out]; rfl, rfl⟩
        · by_cases h3 : ((s[k].toNat : Int) == 58) = true
          · have hr := Hno.out (nameB_not _ (.inr (.inr h3)))
            have Hr := Lib.hid hr
            clear hr
            go_wp2
            go_ret
            exact ⟨by rw [Hr.out]; rfl, rfl⟩
          · have h3' : ((s[k].toNat : Int) == 58) = false := by simpa using h3
            have hr := Hyes.out (nameB_of _ (by omega) (by omega) h3')
            have Hr := Lib.hid hr
            clear hr h3
            go_wp2
            go_round
            case rel => exact ⟨k + 1, by omega, by go_num, Hr.out⟩
            case measure => simp [intOf]; omega
    · obtain rfl : k = s.size := by omega
      rw [take_full] at hall
      have hr : nameL (bs s) = decide (0 < s.size) := by
        unfold nameL
        rw [hall, Bool.true_and]
        have hl : (bs s).length = s.size := rfl
        cases hb : bs s with
        | nil => rw [hb] at hl; simp at hl; simp [← hl]
        | cons c l => rw [hb] at hl; simp at hl; simp [← hl]
      have Hr := Lib.hid hr
      clear hr hall
      go_wp2
      go_ret
      exact ⟨by rw [Hr.out]; simp, rfl⟩
end Go.Proofs.YtlbibklbckabnaaDoor
