/- The helper value of the statements: what it returns. -/
import Derived.Test.YtlbibklbckabnaaDoorLet1
import Derived.Laws.AppendOwn
namespace Go.Proofs.YtlbibklbckabnaaDoor
open Go.RowKit

theorem byte_is {c : UInt8} {n : Nat} (h : ((c.toNat : Int) == (n : Int)) = true) : c.toNat = n := by have := eq_of_beq h; omega
theorem byte_isnt {c : UInt8} {n : Nat} (h : ((c.toNat : Int) == (n : Int)) = false) : c.toNat ≠ n := by
  intro e; rw [e] at h; simp at h
theorem value_yes {n i : Nat} {c : UInt8} (h : ((c.toNat : Int) == 13) = true ∨ ((c.toNat : Int) == 10) = true ∨ (((c.toNat : Int) == 32) = true ∨ ((c.toNat : Int) == 9) = true) ∧ (((i : Int) == 0) = true ∨ ((i : Int) == (n : Int) - 1) = true ∨ ((i : Int) == 39) = true)) :
    valueC n i c = 121 := by
  unfold valueC
  rw [if_pos]
  have k : ∀ m : Nat, ((c.toNat : Int) == (m : Int)) = true → ∀ d : UInt8, d.toNat = m → c = d := fun m h d hd => UInt8.toNat_inj.1 (by rw [byte_is h, hd])
  rcases h with h | h | ⟨h1, h2⟩
  · exact .inl (k 13 h 13 rfl)
  · exact .inr (.inl (k 10 h 10 rfl))
  · refine .inr (.inr ⟨?_, ?_⟩)
    · rcases h1 with h | h
      · exact .inl (k 32 h 32 rfl)
      · exact .inr (k 9 h 9 rfl)
    · rcases h2 with h | h | h
      · exact .inl (by have := eq_of_beq h; omega)
      · exact .inr (.inl (by have := eq_of_beq h; omega))
      · exact .inr (.inr (by have := eq_of_beq h; omega))
theorem value_no {n i : Nat} {c : UInt8} (h13 : ((c.toNat : Int) == 13) = false) (h10 : ((c.toNat : Int) == 10) = false)
    (h : (((c.toNat : Int) == 32) = false ∧ ((c.toNat : Int) == 9) = false) ∨ (((i : Int) == 0) = false ∧ ((i : Int) == (n : Int) - 1) = false ∧ ((i : Int) == 39) = false)) : valueC n i c = c := by
  unfold valueC
  rw [if_neg]
  rintro (rfl | rfl | ⟨h1, h2⟩)
  · exact absurd h13 (by decide)
  · exact absurd h10 (by decide)
  · rcases h with ⟨a, b⟩ | ⟨a, b, d⟩
    · rcases h1 with rfl | rfl
      · exact absurd a (by decide)
      · exact absurd b (by decide)
    · rw [beq_eq_false_iff_ne] at a b d
      rcases h2 with h | h | h <;> omega
theorem info_u8L : (Tryd.prog.info? 5).map (fun i => (i.zero, i.size, i.bytes)) = some (some (.int .u8 0), 1, 1) := by kernel_rfl
def valK (s : ByteArray) (k : Nat) : List UInt8 := ((bs s).take k).mapIdx fun i c => valueC s.size i c
theorem valK_len (s : ByteArray) (k : Nat) (h : k ≤ s.size) : (valK s k).length = k := by
  unfold valK; rw [List.length_mapIdx, List.length_take, bs_len, Nat.min_eq_left h]
theorem valK_snoc (s : ByteArray) (k : Nat) (h : k < s.size) : valK s (k + 1) = valK s k ++ [valueC s.size k s[k]] := by
  unfold valK
  rw [take_snoc s k h, List.mapIdx_concat, List.length_take, bs_len, Nat.min_eq_left (by omega)]
theorem valK_end (s : ByteArray) (k : Nat) (h : k = 40 ∨ k = s.size ∧ k ≤ 40) : valK s k = valueL (bs s) := by
  unfold valK valueL
  rw [bs_len]
  rcases h with rfl | ⟨rfl, h⟩
  · rfl
  · rw [take_full, List.take_of_length_le (by rw [bs_len]; exact h)]

set_option maxHeartbeats 4000000 in
set_option maxRecDepth 100000 in
theorem value_calls (s : ByteArray) (hs : s.size ≤ 9223372036854775807) (w : World) :
    Calls Tryd.prog 35 #[.string s] w fun e w' => e = .returned (.string (mkS (valueL (bs s)))) ∧ Below w.heap.size w w' := by
  obtain ⟨i0, hi, hz0, hz1, hz2⟩ := info_parts info_u8L
  go_enter Tryd.func35, Tryd.ntmps35
  go_wp2
  go_loopw [3, 4, 5] (fun v i _ wr => ∃ k : Nat, k ≤ s.size ∧ k ≤ 40 ∧ i = .int .i64 k ∧ wr.ownsRow w.heap.size 5 1 v (valK s k).length (u8s (valK s k)) ∧ Below w.heap.size w wr) (fun _ i _ _ => 40 - (intOf i).toNat)
  case atStart => exact ⟨0, Nat.zero_le _, Nat.zero_le _, rfl, World.ownsRow_nil _ _ _ _, Below.refl _ _⟩
  case round =>
    obtain ⟨k, hk, hk8, rfl, hrow, hb⟩ := hrel
    have hml := valK_len s k hk
    by_cases hlt : k < s.size ∧ k < 40
    · obtain ⟨hlt1, hlt2⟩ := hlt
      have Hml := Lib.hid hml
      have hlm : (valK s k).length ≤ k := Nat.le_of_eq hml
      clear hml
      have Hnew := Lib.hid (valK_snoc s k hlt1)
      have hcs := s[k].toNat_lt
      rcases Bool.eq_false_or_eq_true ((s[k].toNat : Int) == 13) with e13 | e13
      · have Hv := Lib.hid (value_yes (n := s.size) (i := k) (.inl e13))
        go_wp2_with (at_builtin; refine wpList_append_own _ rfl _ _ 60 rfl w.heap.size 5 i0 (.int .u8 0) 1 1 Tryd.underlying60 hi hz0 hz1 hz2 rfl (by decide) _ _ _ rfl (hrow.alloc _) ⟨wr.heap.size, 0, none⟩ 1 1 [.int .u8 121] rfl rfl (new_cells _ [.int .u8 121] _) (by simp [Value.oneCell']) (by unfold maxLen; omega) (by omega) (by have := hb.size; simp; omega) ?_; intro v' w1 hown' hgrow _)
        go_roundw
        case rel => exact ⟨k + 1, by omega, by omega, by go_num, by rw [Hnew.out, Hv.out, u8s_append, List.length_append]; exact hown', below_append hb hb.size hrow hgrow⟩
        case measure => simp [intOf]; omega
      · rcases Bool.eq_false_or_eq_true ((s[k].toNat : Int) == 10) with e10 | e10
        · have Hv := Lib.hid (value_yes (n := s.size) (i := k) (.inr (.inl e10)))
          go_wp2_with (at_builtin; refine wpList_append_own _ rfl _ _ 60 rfl w.heap.size 5 i0 (.int .u8 0) 1 1 Tryd.underlying60 hi hz0 hz1 hz2 rfl (by decide) _ _ _ rfl (hrow.alloc _) ⟨wr.heap.size, 0, none⟩ 1 1 [.int .u8 121] rfl rfl (new_cells _ [.int .u8 121] _) (by simp [Value.oneCell']) (by unfold maxLen; omega) (by omega) (by have := hb.size; simp; omega) ?_; intro v' w1 hown' hgrow _)
          go_roundw
          case rel => exact ⟨k + 1, by omega, by omega, by go_num, by rw [Hnew.out, Hv.out, u8s_append, List.length_append]; exact hown', below_append hb hb.size hrow hgrow⟩
          case measure => simp [intOf]; omega
        · have hbl : ((s[k].toNat : Int) == 32) = true ∨ (((s[k].toNat : Int) == 32) = false ∧ ((s[k].toNat : Int) == 9) = true) ∨ (((s[k].toNat : Int) == 32) = false ∧ ((s[k].toNat : Int) == 9) = false) := by
            cases ((s[k].toNat : Int) == 32) <;> cases ((s[k].toNat : Int) == 9) <;> simp
          have hed : ((k : Int) == 0) = true ∨ (((k : Int) == 0) = false ∧ ((k : Int) == (s.size : Int) - 1) = true) ∨ (((k : Int) == 0) = false ∧ ((k : Int) == (s.size : Int) - 1) = false ∧ ((k : Int) == 39) = true) ∨ (((k : Int) == 0) = false ∧ ((k : Int) == (s.size : Int) - 1) = false ∧ ((k : Int) == 39) = false) := by
            cases ((k : Int) == 0) <;> cases ((k : Int) == (s.size : Int) - 1) <;> cases ((k : Int) == 39) <;> simp
          rcases hbl with e32 | ⟨e32, e9⟩ | ⟨e32, e9⟩
          · rcases hed with k0 | ⟨k0, kl⟩ | ⟨k0, kl, k39⟩ | ⟨k0, kl, k39⟩
            · have Hv := Lib.hid (value_yes (n := s.size) (i := k) (.inr (.inr ⟨(.inl e32), (.inl k0)⟩)))
              go_wp2_with (at_builtin; refine wpList_append_own _ rfl _ _ 60 rfl w.heap.size 5 i0 (.int .u8 0) 1 1 Tryd.underlying60 hi hz0 hz1 hz2 rfl (by decide) _ _ _ rfl (hrow.alloc _) ⟨wr.heap.size, 0, none⟩ 1 1 [.int .u8 121] rfl rfl (new_cells _ [.int .u8 121] _) (by simp [Value.oneCell']) (by unfold maxLen; omega) (by omega) (by have := hb.size; simp; omega) ?_; intro v' w1 hown' hgrow _)
              go_roundw
              case rel => exact ⟨k + 1, by omega, by omega, by go_num, by rw [Hnew.out, Hv.out, u8s_append, List.length_append]; exact hown', below_append hb hb.size hrow hgrow⟩
              case measure => simp [intOf]; omega
            · have Hv := Lib.hid (value_yes (n := s.size) (i := k) (.inr (.inr ⟨(.inl e32), (.inr (.inl kl))⟩)))
              go_wp2_with (at_builtin; refine wpList_append_own _ rfl _ _ 60 rfl w.heap.size 5 i0 (.int .u8 0) 1 1 Tryd.underlying60 hi hz0 hz1 hz2 rfl (by decide) _ _ _ rfl (hrow.alloc _) ⟨wr.heap.size, 0, none⟩ 1 1 [.int .u8 121] rfl rfl (new_cells _ [.int .u8 121] _) (by simp [Value.oneCell']) (by unfold maxLen; omega) (by omega) (by have := hb.size; simp; omega) ?_; intro v' w1 hown' hgrow _)
              go_roundw
              case rel => exact ⟨k + 1, by omega, by omega, by go_num, by rw [Hnew.out, Hv.out, u8s_append, List.length_append]; exact hown', below_append hb hb.size hrow hgrow⟩
              case measure => simp [intOf]; omega
            · have Hv := Lib.hid (value_yes (n := s.size) (i := k) (.inr (.inr ⟨(.inl e32), (.inr (.inr k39))⟩)))
              go_wp2_with (at_builtin; refine wpList_append_own _ rfl _ _ 60 rfl w.heap.size 5 i0 (.int .u8 0) 1 1 Tryd.underlying60 hi hz0 hz1 hz2 rfl (by decide) _ _ _ rfl (hrow.alloc _) ⟨wr.heap.size, 0, none⟩ 1 1 [.int .u8 121] rfl rfl (new_cells _ [.int .u8 121] _) (by simp [Value.oneCell']) (by unfold maxLen; omega) (by omega) (by have := hb.size; simp; omega) ?_; intro v' w1 hown' hgrow _)
              go_roundw
              case rel => exact ⟨k + 1, by omega, by omega, by go_num, by rw [Hnew.out, Hv.out, u8s_append, List.length_append]; exact hown', below_append hb hb.size hrow hgrow⟩
              case measure => simp [intOf]; omega
            · have Hv := Lib.hid (value_no (n := s.size) (i := k) e13 e10 (.inr ⟨k0, kl, k39⟩))
              go_wp2_with (at_builtin; refine wpList_append_own _ rfl _ _ 60 rfl w.heap.size 5 i0 (.int .u8 0) 1 1 Tryd.underlying60 hi hz0 hz1 hz2 rfl (by decide) _ _ _ rfl (hrow.alloc _) ⟨wr.heap.size, 0, none⟩ 1 1 [.int .u8 s[k].toNat] rfl rfl (new_cells _ [.int .u8 s[k].toNat] _) (by simp [Value.oneCell']) (by unfold maxLen; omega) (by omega) (by have := hb.size; simp; omega) ?_; intro v' w1 hown' hgrow _)
              go_roundw
              case rel => exact ⟨k + 1, by omega, by omega, by go_num, by rw [Hnew.out, Hv.out, u8s_append, List.length_append]; exact hown', below_append hb hb.size hrow hgrow⟩
              case measure => simp [intOf]; omega
          · rcases hed with k0 | ⟨k0, kl⟩ | ⟨k0, kl, k39⟩ | ⟨k0, kl, k39⟩
            · have Hv := Lib.hid (value_yes (n := s.size) (i := k) (.inr (.inr ⟨(.inr e9), (.inl k0)⟩)))
              go_wp2_with (at_builtin; refine wpList_append_own _ rfl _ _ 60 rfl w.heap.size 5 i0 (.int .u8 0) 1 1 Tryd.underlying60 hi hz0 hz1 hz2 rfl (by decide) _ _ _ rfl (hrow.alloc _) ⟨wr.heap.size, 0, none⟩ 1 1 [.int .u8 121] rfl rfl (new_cells _ [.int .u8 121] _) (by simp [Value.oneCell']) (by unfold maxLen; omega) (by omega) (by have := hb.size; simp; omega) ?_; intro v' w1 hown' hgrow _)
              go_roundw
              case rel => exact ⟨k + 1, by omega, by omega, by go_num, by rw [Hnew.out, Hv.out, u8s_append, List.length_append]; exact hown', below_append hb hb.size hrow hgrow⟩
              case measure => simp [intOf]; omega
            · have Hv := Lib.hid (value_yes (n := s.size) (i := k) (.inr (.inr ⟨(.inr e9), (.inr (.inl kl))⟩)))
              go_wp2_with (at_builtin; refine wpList_append_own _ rfl _ _ 60 rfl w.heap.size 5 i0 (.int .u8 0) 1 1 Tryd.underlying60 hi hz0 hz1 hz2 rfl (by decide) _ _ _ rfl (hrow.alloc _) ⟨wr.heap.size, 0, none⟩ 1 1 [.int .u8 121] rfl rfl (new_cells _ [.int .u8 121] _) (by simp [Value.oneCell']) (by unfold maxLen; omega) (by omega) (by have := hb.size; simp; omega) ?_; intro v' w1 hown' hgrow _)
              go_roundw
              case rel => exact ⟨k + 1, by omega, by omega, by go_num, by rw [Hnew.out, Hv.out, u8s_append, List.length_append]; exact hown', below_append hb hb.size hrow hgrow⟩
              case measure => simp [intOf]; omega
            · have Hv := Lib.hid (value_yes (n := s.size) (i := k) (.inr (.inr ⟨(.inr e9), (.inr (.inr k39))⟩)))
              go_wp2_with (at_builtin; refine wpList_append_own _ rfl _ _ 60 rfl w.heap.size 5 i0 (.int .u8 0) 1 1 Tryd.underlying60 hi hz0 hz1 hz2 rfl (by decide) _ _ _ rfl (hrow.alloc _) ⟨wr.heap.size, 0, none⟩ 1 1 [.int .u8 121] rfl rfl (new_cells _ [.int .u8 121] _) (by simp [Value.oneCell']) (by unfold maxLen; omega) (by omega) (by have := hb.size; simp; omega) ?_; intro v' w1 hown' hgrow _)
              go_roundw
              case rel => exact ⟨k + 1, by omega, by omega, by go_num, by rw [Hnew.out, Hv.out, u8s_append, List.length_append]; exact hown', below_append hb hb.size hrow hgrow⟩
              case measure => simp [intOf]; omega
            · have Hv := Lib.hid (value_no (n := s.size) (i := k) e13 e10 (.inr ⟨k0, kl, k39⟩))
              go_wp2_with (at_builtin; refine wpList_append_own _ rfl _ _ 60 rfl w.heap.size 5 i0 (.int .u8 0) 1 1 Tryd.underlying60 hi hz0 hz1 hz2 rfl (by decide) _ _ _ rfl (hrow.alloc _) ⟨wr.heap.size, 0, none⟩ 1 1 [.int .u8 s[k].toNat] rfl rfl (new_cells _ [.int .u8 s[k].toNat] _) (by simp [Value.oneCell']) (by unfold maxLen; omega) (by omega) (by have := hb.size; simp; omega) ?_; intro v' w1 hown' hgrow _)
              go_roundw
              case rel => exact ⟨k + 1, by omega, by omega, by go_num, by rw [Hnew.out, Hv.out, u8s_append, List.length_append]; exact hown', below_append hb hb.size hrow hgrow⟩
              case measure => simp [intOf]; omega
          · clear hed
            have Hv := Lib.hid (value_no (n := s.size) (i := k) e13 e10 (.inl ⟨e32, e9⟩))
            go_wp2_with (at_builtin; refine wpList_append_own _ rfl _ _ 60 rfl w.heap.size 5 i0 (.int .u8 0) 1 1 Tryd.underlying60 hi hz0 hz1 hz2 rfl (by decide) _ _ _ rfl (hrow.alloc _) ⟨wr.heap.size, 0, none⟩ 1 1 [.int .u8 s[k].toNat] rfl rfl (new_cells _ [.int .u8 s[k].toNat] _) (by simp [Value.oneCell']) (by unfold maxLen; omega) (by omega) (by have := hb.size; simp; omega) ?_; intro v' w1 hown' hgrow _)
            go_roundw
            case rel => exact ⟨k + 1, by omega, by omega, by go_num, by rw [Hnew.out, Hv.out, u8s_append, List.length_append]; exact hown', below_append hb hb.size hrow hgrow⟩
            case measure => simp [intOf]; omega
    · have hr := valK_end s k (by omega)
      rw [hr] at hrow
      have hconv := conv_own Tryd.underlying60 Tryd.underlying5 Tryd.underlying9 hrow
      have hlc : (¬ k < s.size) ∨ (k < s.size ∧ ¬ k < 40) := by omega
      clear hr hml
      rcases hlc with hlc | ⟨hlc1, hlc2⟩
      · go_wp2
        go_ret
        exact ⟨rfl, hb⟩
      · go_wp2
        go_ret
        exact ⟨rfl, hb⟩
end Go.Proofs.YtlbibklbckabnaaDoor
