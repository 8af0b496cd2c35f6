/- The tables of package script, out of a row's list of package-level variables. -/
import Derived.Test.YtgmnoemkdigafaaDoorScrWTest
import Derived.Test.YtgmnoemkdigafaaDoorTab
namespace Go.Proofs.YtgmnoemkdigafaaDoor
open Go.RowKit

theorem tabsAt_of {laid : List (String × DataW Unit)} {W : World} (h : laidMet Tryd.prog laid W) (h1 : ("postroom/script.commands", strsData commandsW) ∈ laid) (h2 : ("postroom/script.tests", strsData testsW) ∈ laid)
    (h3 : ("postroom/script.matches", strsData matchesW) ∈ laid) (h4 : ("postroom/script.parts", strsData partsW) ∈ laid) : TabsAt W := by
  refine ⟨fun i hi => ?_, fun i hi => ?_, fun i hi => ?_, fun i hi => ?_⟩
  · exact strs_at (g := 3) (k := 11) (e := 9) h (by kernel_rfl) (by kernel_rfl) Tryd.underlying96 Tryd.underlying9 (by kernel_rfl) h2 i hi
  · exact strs_at (g := 4) (k := 4) (e := 9) h (by kernel_rfl) (by kernel_rfl) Tryd.underlying86 Tryd.underlying9 (by kernel_rfl) h4 i hi
  · exact strs_at (g := 5) (k := 4) (e := 9) h (by kernel_rfl) (by kernel_rfl) Tryd.underlying86 Tryd.underlying9 (by kernel_rfl) h3 i hi
  · exact strs_at (g := 2) (k := 11) (e := 9) h (by kernel_rfl) (by kernel_rfl) Tryd.underlying96 Tryd.underlying9 (by kernel_rfl) h1 i hi
end Go.Proofs.YtgmnoemkdigafaaDoor
