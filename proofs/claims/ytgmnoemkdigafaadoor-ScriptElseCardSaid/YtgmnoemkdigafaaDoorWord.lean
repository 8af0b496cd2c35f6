/- The helper word of the statements: what it returns. -/
import Derived.Test.YtgmnoemkdigafaaDoorWhoPlain
import Derived.Test.YtgmnoemkdigafaaDoorFrozen
import Derived.Test.YtgmnoemkdigafaaDoorPick
import Derived.OpenShut
import Derived.RangeFuncOwn
import Derived.Deep.RegionWith
namespace Go.Proofs.YtgmnoemkdigafaaDoor
open Go.RowKit

theorem byteW_nat (c : UInt8) : ((byteW c).toNat : Int) = 97 + (c.toNat : Int) % 26 := by
  have h : (byteW c).toNat = 97 + c.toNat % 26 := by
    unfold byteW
    rw [UInt8.toNat_add, UInt8.toNat_mod]
    have : c.toNat % 26 < 26 := Nat.mod_lt _ (by decide)
    simp
    omega
  rw [h]; omega
theorem info_u8 : (Tryd.prog.info? 5).map (fun i => (i.zero, i.size, i.bytes)) = some (some (.int .u8 0), 1, 1) := by kernel_rfl

set_option maxHeartbeats 2000000 in
set_option maxRecDepth 100000 in
theorem word_calls (s : ByteArray) (hs : s.size ≤ 9223372036854775807) (w : World) :
    Calls Tryd.prog 30 #[.string s] w fun e w' => e = .returned (.string (mkS (wordL (bs s)))) ∧ Below w.heap.size w w' := by
  obtain ⟨i0, hi, hz0, hz1, hz2⟩ := info_parts info_u8
  go_enter Tryd.func30, Tryd.ntmps30
  go_wp2
  go_loopw [3, 4] (fun v i wr => ∃ k : Nat, k ≤ s.size ∧ k ≤ 8 ∧ i = .int .i64 k ∧ wr.ownsRow w.heap.size 5 1 v (((bs s).take k).map byteW).length (u8s (((bs s).take k).map byteW)) ∧ Below w.heap.size w wr) (fun _ i _ => 8 - (intOf i).toNat)
  case atStart => exact ⟨0, Nat.zero_le _, Nat.zero_le _, rfl, World.ownsRow_nil _ _ _ _, Below.refl _ _⟩
  case round =>
    obtain ⟨k, hk, hk8, rfl, hrow, hb⟩ := hrel
    have hml : (((bs s).take k).map byteW).length = k := by rw [List.length_map, List.length_take, bs_len, Nat.min_eq_left hk]
    by_cases hlt : k < s.size ∧ k < 8
    · obtain ⟨hlt1, hlt2⟩ := hlt
      have Hml := Lib.hid hml
      have hlm : (((bs s).take k).map byteW).length ≤ k := Nat.le_of_eq hml
      clear hml
      have hbw := byteW_nat s[k]
      have hcs := s[k].toNat_lt
      have hnew : ((bs s).take (k + 1)).map byteW = ((bs s).take k).map byteW ++ [byteW s[k]] := by rw [take_snoc s k hlt1, List.map_append]; rfl
      have Hbw := Lib.hid hbw
      have Hnew := Lib.hid hnew
      clear hbw hnew
      go_wp2_with (at_builtin; refine wpList_append_own _ rfl _ _ 99 rfl w.heap.size 5 i0 (.int .u8 0) 1 1 Tryd.underlying99 hi hz0 hz1 hz2 rfl (by decide) _ _ _ rfl (hrow.alloc _) ⟨wr.heap.size, 0, none⟩ 1 1 [.int .u8 (97 + (s[k].toNat : Int) % 26)] rfl rfl (new_cells _ [.int .u8 (97 + (s[k].toNat : Int) % 26)] _) (by simp [Value.oneCell']) (by unfold maxLen; omega) (by omega) (by have := hb.size; simp; omega) ?_; intro v' w1 hown' hgrow _)
      go_roundw
      case rel => exact ⟨k + 1, by omega, by omega, by go_num, by rw [Hnew.out, u8s_append, List.length_append]; rw [← Hbw.out] at hown'; exact hown', below_append hb hb.size hrow hgrow⟩
      case measure => simp [intOf]; omega
    · have htk : (bs s).take k = (bs s).take 8 := by
        by_cases h8 : k = 8
        · rw [h8]
        · have hk2 : k = s.size := by omega
          rw [hk2, take_full, List.take_of_length_le (by rw [bs_len]; omega)]
      by_cases h0 : k = 0
      · subst h0
        have hse : s.size = 0 := by omega
        have hr : wordL (bs s) = [120] := by
          rw [List.length_eq_zero_iff.1 (show (bs s).length = 0 from hse)]; rfl
        have Hr := Lib.hid hr
        obtain ⟨g, c, rfl⟩ : ∃ g c, u3 = .slice g 0 c := by
          rcases hrow.2 with ⟨h, _⟩ | ⟨g, cap, cur, h, _⟩
          · exact ⟨_, _, h⟩
          · exact ⟨_, _, h⟩
        clear hr hml htk
        go_wp2
        go_ret
        exact ⟨by rw [Hr.out]; rfl, hb⟩
      · have hr : wordL (bs s) = ((bs s).take k).map byteW := by
          unfold wordL
          rw [if_neg (by intro h; have h2 : (bs s).length = 0 := by rw [h]; rfl
                         rw [bs_len] at h2; omega), htk]; rfl
        rw [← hr] at hrow
        have hconv := conv_own Tryd.underlying99 Tryd.underlying5 Tryd.underlying9 hrow
        have hlen : (wordL (bs s)).length ≠ 0 := by rw [hr, hml]; exact h0
        obtain ⟨g, c, rfl⟩ : ∃ g c, u3 = .slice g (wordL (bs s)).length c := by
          rcases hrow.2 with ⟨rfl, h⟩ | ⟨g, cap, cur, h, _⟩
          · exact absurd h hlen
          · exact ⟨_, _, h⟩
        have hne : (((wordL (bs s)).length : Int) == 0) = false := by rw [beq_eq_false_iff_ne]; omega
        clear hr hml htk hlen
        generalize hwl : wordL (bs s) = wl at *
        have Hwl := Lib.hid hwl
        clear hwl
        go_wp2
        all_goals
          go_ret
          exact ⟨by rw [Hwl.out]; rfl, hb⟩

end Go.Proofs.YtgmnoemkdigafaaDoor
