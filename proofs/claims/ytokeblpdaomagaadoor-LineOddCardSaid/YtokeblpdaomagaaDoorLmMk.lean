/- Zero bytes made, and turned into a string. -/
import Derived.Test.YtokeblpdaomagaaDoorLmLgP
import Derived.Laws.MakeOwn
import Derived.Deep.OwnRows
namespace Go.Proofs.YtokeblpdaomagaaDoor
open Go.RowKit
set_option linter.unusedVariables false

theorem info_u8L : (Tryd.prog.info? 5).map (fun i => (i.zero, i.size, i.bytes)) = some (some (.int .u8 0), 1, 1) := by kernel_rfl
theorem make_u8 (k : Nat) (hk : k ≤ 1000) (W : World) : Sem.run Tryd.prog (Instr.makeSlice 40 (.int .i64 (k : Int)) (.int .i64 (k : Int))) W = .ok (.slice (some ⟨W.heap.size, 0, none⟩) k k) (W.alloc (.cells (madeCells #[.int .u8 0] k) 5)) := by
  obtain ⟨i0, hi, hz0, hz1, hz2⟩ := info_parts info_u8L
  have h := run_make (P := Tryd.prog) W 40 5 i0 _ Tryd.underlying40 hi hz0 .i64 .i64 k k (by omega) (by omega) (by rw [hz2]; omega) (by omega)
  rw [hz1] at h
  simp only [Int.toNat_natCast, Nat.mul_one] at h
  exact h
theorem conv_zer (k : Nat) (hk : 1 ≤ k) (W : World) : (convert 40 9 (.slice (some ⟨W.heap.size, 0, none⟩) k k)).run Tryd.prog (W.alloc (.cells (madeCells #[.int .u8 0] k) 5)) = .ok (.string (zerS k)) (W.alloc (.cells (madeCells #[.int .u8 0] k) 5)) := by
  have hr := World.rowIs_made W (.int .u8 0) k 5
  have h1 := run_convert_bytes_arg (P := Tryd.prog) (W.alloc (.cells (madeCells #[.int .u8 0] k) 5)) 40 5 Tryd.underlying40 Tryd.underlying5 W.heap.size 0 k k ((List.replicate k (0 : UInt8)).map fun c => (c.toNat : Int)) (by rw [List.length_map, List.length_replicate]) (fun i hi => by
    rw [Nat.zero_add, hr.cell hi]
    simp [List.getD_eq_getElem?_getD, hi]) 9 Tryd.underlying9
  rw [strOfNums_bytes] at h1
  exact h1
end Go.Proofs.YtokeblpdaomagaaDoor
