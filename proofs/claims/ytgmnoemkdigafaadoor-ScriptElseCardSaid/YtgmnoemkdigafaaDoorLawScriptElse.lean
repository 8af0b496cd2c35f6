/- An if alone in an else is an elsif: for every two sticks of raw numbers. -/
import Derived.Test.YtgmnoemkdigafaaDoorScrElseW
import Derived.Test.YtgmnoemkdigafaaDoorStkKind
namespace Go.Proofs.YtgmnoemkdigafaaDoor
open Go.RowKit

theorem scriptElse_walk (x : Stk) (vx : List Value) (y : Stk) (vy : List Value) (w : World) (hx : StkV w x vx) (hy : StkV w y vy) (htab : TabsAt w) :
    Calls Tryd.prog 5 #[.agg vx.toArray, .agg vy.toArray] w fun e w' => e = .returned (.bool true) ∧ Below w.heap.size w w' :=
  scriptElse_w x y vx vy w hx hy htab
end Go.Proofs.YtgmnoemkdigafaaDoor
