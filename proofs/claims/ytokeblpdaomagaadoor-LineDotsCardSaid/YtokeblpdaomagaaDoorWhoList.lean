/- The function List of package who: what it returns for every text. -/
import Derived.Test.YtokeblpdaomagaaDoorWhoRead4
import Derived.Defers
import Derived.RegionDies
import Derived.Deep.RegionHeld3
import Derived.Recover
import Derived.Laws.Pointers
namespace Go.Proofs.YtokeblpdaomagaaDoor
open Go.RowKit

theorem catch_idle (p q : Addr) (w : World) :
    CallsD Tryd.prog 65 #[.pointer (some p), .pointer (some q)] .returning w fun e u' w' => e = .returned (.tuple #[]) ∧ u' = .returning ∧ w' = w := by
  refine callsD_of_wpS Tryd.func65 rfl fun c₀ cs hu => ?_
  apply wpS_seq
  apply wpS_region
  simp [wpOpsS, go_sem, recoverD, hu, Tryd.ntmps65, Exit.thenS]
  apply wpS_seq
  apply wpS_region
  simp [wpOpsS, go_sem, Exit.thenS]
  refine wpS_cond (t := false) (by simp [Act.eval, Array.replicate]) ?_
  simp only [Bool.false_eq_true, if_false]
  refine wpS_of_wp (wp_skip ?_)
  cases c₀
  simp_all [bodyPostS, results, Tryd.results65]
theorem catch_panicking (p q : Addr) (x y : Value) (w : World) (hp : w.cell? p = some x) (hpz : w.frozen? p = false) (hq : w.cell? q = some y) (hqz : w.frozen? q = false) (hpq : p ≠ q) :
    CallsD Tryd.prog 65 #[.pointer (some p), .pointer (some q)] (.panicking formPanic) w fun e u' w' =>
      e = .returned (.tuple #[]) ∧ u' = .panicking [{ v := .iface 35 (.int .i64 3), recovered := true }] ∧ w' = ((w.setCell p (.slice none 0 0)).setCell q (.int .i64 3)).drew := by
  refine callsD_of_wpS Tryd.func65 rfl fun c₀ cs hu => ?_
  apply wpS_seq
  apply wpS_region
  simp [wpOpsS, go_sem, recoverD, hu, Tryd.ntmps65, Exit.thenS, formPanic]
  apply wpS_seq
  apply wpS_region
  simp [wpOpsS, go_sem, Exit.thenS]
  refine wpS_cond (t := true) (by simp [Act.eval, Array.replicate]) ?_
  simp only [if_true]
  refine wpS_of_wp ?_
  obtain ⟨I, hI⟩ : ∃ I, I = Value.iface 35 (.int .i64 3) := ⟨_, rfl⟩
  change Code.wp _ _ _ { tmps := #[Value.pointer (some p), Value.pointer (some q), Value.iface 35 (.int .i64 3), Value.iface 35 (.int .i64 3), Value.iface 35 (.int .i64 3), Value.bool true, undef, undef], defers := [] } w
  clear hI I
  have hta : ∀ w' : World, (Instr.typeAssert (.iface 35 (.int .i64 3)) 20 35 false).run Tryd.prog w' = .ok (.int .i64 3) w' := fun w' => by kernel_rfl
  have hq2 := World.cell?_setCell_other w p q (.slice none 0 0) hpq
  go_region
  simp [bodyPostS, results, Tryd.results65]
end Go.Proofs.YtokeblpdaomagaaDoor
