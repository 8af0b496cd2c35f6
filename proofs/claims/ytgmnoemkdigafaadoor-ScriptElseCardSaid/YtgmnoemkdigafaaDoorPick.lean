/- The helper picked of the statements: what it returns. -/
import Derived.Test.YtgmnoemkdigafaaDoorProg
import Derived.WalkKit
import Derived.Lib.Hide
import Derived.OpenShut
namespace Go.Proofs.YtgmnoemkdigafaaDoor
open Go.RowKit

/-- A number from 0 to m - 1. -/
def pickN (n m : Int) : Nat := (if n < 0 then (-(n + 1)).tmod m else n.tmod m).toNat
theorem pickN_lt (n m : Int) (hm : 0 < m) : (pickN n m : Int) < m := by
  unfold pickN
  split
  · have h1 := Int.tmod_lt_of_pos (-(n + 1)) hm
    omega
  · have h1 := Int.tmod_lt_of_pos n hm
    omega
set_option maxHeartbeats 1000000 in
theorem picked_calls (n m : Int) (w : World) (hn : (Lit.int .i64 n).wf = true) (hm : 0 < m) (hm2 : m ≤ 9223372036854775807) :
    Calls Tryd.prog 13 #[.int .i64 n, .int .i64 m] w fun e w' => e = .returned (.int .i64 (pickN n m)) ∧ w = w' := by
  have hb := bounds_i64 hn
  obtain ⟨b1, b2⟩ := hb
  by_cases h : n < 0
  · have hv : (pickN n m : Int) = (-(n + 1)).tmod m := by
      have := Int.tmod_nonneg m (show 0 ≤ -(n + 1) by omega)
      unfold pickN; rw [if_pos h]; omega
    have Hv := Lib.hid hv
    clear hv hn
    go_enter Tryd.func13, Tryd.ntmps13
    go_wp2
    go_ret
    exact ⟨by rw [Hv.out, Int.neg_tmod]; rfl, rfl⟩
  · have hv : (pickN n m : Int) = n.tmod m := by
      have := Int.tmod_nonneg m (show 0 ≤ n by omega)
      unfold pickN; rw [if_neg h]; omega
    have Hv := Lib.hid hv
    clear hv hn
    go_enter Tryd.func13, Tryd.ntmps13
    go_wp2
    go_ret
    exact ⟨by rw [Hv.out, Int.tmod_eq_emod_of_nonneg h]; rfl, rfl⟩
end Go.Proofs.YtgmnoemkdigafaaDoor
