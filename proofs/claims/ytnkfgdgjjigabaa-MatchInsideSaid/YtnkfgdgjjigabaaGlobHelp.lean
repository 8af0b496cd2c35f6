/- The helpers cut and masked of the laws on matching: what they return for every string. -/
import Derived.Test.YtnkfgdgjjigabaaProg
import Derived.Test.YtnkfgdgjjigabaaBytes
import Derived.Test.YtnkfgdgjjigabaaKit
namespace Go.Proofs.Ytnkfgdgjjigabaa
open Go.RowKit

def cutS (s : ByteArray) (n : Nat) : ByteArray := mkS ((bs s).take n)
theorem cutS_extract (s : ByteArray) (n : Nat) : s.extract 0 n = cutS s n := by rw [extract_mkS, List.drop_zero]; rfl
theorem cutS_all (s : ByteArray) (n : Nat) (h : s.size ≤ n) : cutS s n = s := by rw [← cutS_extract, extract_all s n h]

theorem cut_calls (s : ByteArray) (n : Int) (hn : 0 ≤ n) (hs : s.size ≤ 9223372036854775807) (w : World) :
    Calls Try.prog 13 #[.string s, .int .i64 n] w fun e w' => e = .returned (.string (cutS s n.toNat)) ∧ w = w' := by
  by_cases h : n < s.size
  · rw [← cutS_extract]
    go_enter Try.func13, Try.ntmps13
    go_wp2
    go_ret
    exact ⟨rfl, rfl⟩
  · rw [cutS_all s n.toNat (by omega)]
    go_enter Try.func13, Try.ntmps13
    go_wp2
    go_ret
    exact ⟨rfl, rfl⟩

/-- Each byte behind a backslash. -/
def maskL (l : List UInt8) : List UInt8 := l.flatMap fun c => [92, c]
theorem maskL_snoc (l : List UInt8) (c : UInt8) : maskL (l ++ [c]) = maskL l ++ [92, c] := by simp [maskL]
theorem maskL_len (l : List UInt8) : (maskL l).length = 2 * l.length := by
  induction l with
  | nil => rfl
  | cons x l ih => rw [maskL, List.flatMap_cons, List.length_append, ← maskL, ih]; simp; omega
theorem info_u8 : (Try.prog.info? 5).map (fun i => (i.zero, i.size, i.bytes)) = some (some (.int .u8 0), 1, 1) := by kernel_rfl

set_option maxHeartbeats 1000000 in
theorem masked_calls (s : ByteArray) (hs : s.size ≤ 100000) (w : World) :
    Calls Try.prog 14 #[.string s] w fun e w' => e = .returned (.string (mkS (maskL (bs s)))) ∧ Below w.heap.size w w' := by
  obtain ⟨i0, hi, hz0, hz1, hz2⟩ := info_parts info_u8
  go_enter Try.func14, Try.ntmps14
  go_wp2
  go_loopw [3, 4] (fun v i wr => ∃ k : Nat, k ≤ s.size ∧ i = .int .i64 k ∧ wr.ownsRow w.heap.size 5 1 v (maskL ((bs s).take k)).length (u8s (maskL ((bs s).take k))) ∧ Below w.heap.size w wr) (fun _ i _ => s.size - (intOf i).toNat)
  case atStart => exact ⟨0, Nat.zero_le _, rfl, World.ownsRow_nil _ _ _ _, Below.refl _ _⟩
  case round =>
    obtain ⟨k, hk, rfl, hrow, hb⟩ := hrel
    by_cases hlt : k < s.size
    · have hml : (maskL ((bs s).take k)).length = 2 * k := by rw [maskL_len, List.length_take, bs_len, Nat.min_eq_left hk]
      have Hml := Lib.hid hml
      have hlm : (maskL ((bs s).take k)).length ≤ 2 * k := Nat.le_of_eq hml
      clear hml
      go_wp2_with (at_builtin; refine wpList_append_own _ rfl _ _ 23 rfl w.heap.size 5 i0 (.int .u8 0) 1 1 Try.underlying23 hi hz0 hz1 hz2 rfl (by decide) _ _ _ rfl (hrow.alloc _) ⟨wr.heap.size, 0, none⟩ 2 2 [.int .u8 92, .int .u8 s[k].toNat] rfl rfl (new_cells _ [.int .u8 92, .int .u8 s[k].toNat] _) (by simp [Value.oneCell']) (by unfold maxLen; omega) (by omega) (by have := hb.size; simp; omega) ?_; intro v' w1 hown' hgrow _)
      go_roundw
      case rel => exact ⟨k + 1, by omega, by go_num, by rw [take_snoc s k hlt, maskL_snoc, u8s_append, List.length_append]; exact hown', below_append hb hb.size hrow hgrow⟩
      case measure => simp [intOf]; omega
    · obtain rfl : k = s.size := by omega
      rw [take_full] at hrow
      have hconv := conv_own Try.underlying23 Try.underlying5 Try.underlying9 hrow
      go_wp2
      go_ret
      exact ⟨rfl, hb⟩
end Go.Proofs.Ytnkfgdgjjigabaa
