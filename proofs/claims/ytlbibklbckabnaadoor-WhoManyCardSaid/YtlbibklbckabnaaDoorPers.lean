/- The kind of a list of persons. -/
import Derived.Test.YtlbibklbckabnaaDoorPer
namespace Go.Proofs.YtlbibklbckabnaaDoor
open Go.RowKit
theorem kPers_opens : Opens Tryd.prog 38 kPer.slice :=
  opens_slice Tryd.underlying38 (by kernel_rfl) (by decide) kPer_opens
end Go.Proofs.YtlbibklbckabnaaDoor
