/- The kind of a list of whole numbers. -/
import Derived.Test.YtnkfgdgjjigabaaDoorKind
import Derived.Test.YtnkfgdgjjigabaaDoorProg
namespace Go.Proofs.YtnkfgdgjjigabaaDoor
open Go.RowKit

def kInt : Rk Int := Rk.int .i64
theorem kInts_opens : Opens Tryd.prog 22 kInt.slice :=
  opens_slice Tryd.underlying22 (by kernel_rfl) (by decide) (opens_int Tryd.underlying3)
end Go.Proofs.YtnkfgdgjjigabaaDoor
