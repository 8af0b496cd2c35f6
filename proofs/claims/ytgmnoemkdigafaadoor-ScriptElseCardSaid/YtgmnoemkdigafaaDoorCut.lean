/- The helper cut of the statements: what it returns for every string. -/
import Derived.Test.YtgmnoemkdigafaaDoorProg
import Derived.Test.YtgmnoemkdigafaaDoorBytes
import Derived.Test.YtgmnoemkdigafaaDoorKit
namespace Go.Proofs.YtgmnoemkdigafaaDoor
open Go.RowKit

def cutS (s : ByteArray) (n : Nat) : ByteArray := mkS ((bs s).take n)
theorem cutS_extract (s : ByteArray) (n : Nat) : s.extract 0 n = cutS s n := by rw [extract_mkS, List.drop_zero]; rfl
theorem cutS_all (s : ByteArray) (n : Nat) (h : s.size ≤ n) : cutS s n = s := by rw [← cutS_extract, extract_all s n h]
theorem cutS_size (s : ByteArray) (n : Nat) : (cutS s n).size ≤ n := by unfold cutS; rw [mkS_size, List.length_take]; omega
theorem cut_calls (s : ByteArray) (n : Int) (hn : 0 ≤ n) (hs : s.size ≤ 9223372036854775807) (w : World) :
    Calls Tryd.prog 46 #[.string s, .int .i64 n] w fun e w' => e = .returned (.string (cutS s n.toNat)) ∧ w = w' := by
  by_cases h : n < s.size
  · rw [← cutS_extract]
    go_enter Tryd.func46, Tryd.ntmps46
    go_wp2
    go_ret
    exact ⟨rfl, rfl⟩
  · rw [cutS_all s n.toNat (by omega)]
    go_enter Tryd.func46, Tryd.ntmps46
    go_wp2
    go_ret
    exact ⟨rfl, rfl⟩
end Go.Proofs.YtgmnoemkdigafaaDoor
