/- What is frozen stays so. -/
import Derived.Test.YtgmnoemkdigafaaDoorKit
import Derived.Test.YtgmnoemkdigafaaDoorPick
import Derived.OpenShut
import Derived.Deep.RegionWith
namespace Go.Proofs.YtgmnoemkdigafaaDoor
open Go.RowKit
theorem frozen_later {w w' : World} {a : Addr} {v : Value} (hb : Below w.heap.size w w') (h : w.cell? a = some v) (hf : w.frozen? a = false) : w'.frozen? a = false := by
  obtain ⟨o, ho, _⟩ := cells_of_cell h
  exact (hb.frozen (p := a) (Array.getElem?_eq_some_iff.1 ho).1).trans hf
end Go.Proofs.YtgmnoemkdigafaaDoor
