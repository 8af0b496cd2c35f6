/- What the cards of this seat share: the knob, the layout, and a world that holds what the rows list. -/
import Derived.Test.YtgmnoemkdigafaaDoorRows
import Derived.ProofKit
import Derived.Lib.LaidTab
import Derived.Deep.DeepHandedRow
namespace Go.Proofs.YtgmnoemkdigafaaDoor
theorem own : ownKnob Tryd.prog.godebug = none := by kernel_rfl
theorem laidOut : laidOutB Tryd.prog = true := by kernel_rfl
/-- A datum's cells, one behind the other. -/
def flatCells : Nat → DataW Unit → List Value
  | 0, _ => []
  | _ + 1, .lit (.int k x) => [.int k x]
  | _ + 1, .lit (.bool x) => [.bool x]
  | _ + 1, .lit (.string l) => [.string ⟨l.toArray⟩]
  | n + 1, .agg l => l.flatMap (flatCells n)
  | _, _ => []
/-- The settled world, each listed variable holding what its row lists. -/
noncomputable def laidWorld (laid : List (String × DataW Unit)) (os : Os) : World :=
  let w0 := World.holding Tryd.prog os ⟨#[], #[], []⟩
  { w0 with heap := laid.foldl (fun h x => match Tryd.prog.globalNamed x.1 with
      | none => h
      | some g => h.modify g (fun o => match o with
        | .cells _ t frozen => .cells (flatCells 5 x.2).toArray t frozen
        | o => o)) w0.heap }
end Go.Proofs.YtgmnoemkdigafaaDoor
