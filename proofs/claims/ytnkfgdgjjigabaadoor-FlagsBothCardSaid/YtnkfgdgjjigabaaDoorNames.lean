/- The table of the flags' names, out of a row's list of package-level variables. -/
import Derived.Test.YtnkfgdgjjigabaaDoorFlags
import Derived.Test.YtnkfgdgjjigabaaDoorTab
namespace Go.Proofs.YtnkfgdgjjigabaaDoor
open Go.RowKit

theorem namesAt_of {laid : List (String × DataW Unit)} {W : World} (h : laidMet Tryd.prog laid W) (hm : ("postroom/rule.names", strsData namesL) ∈ laid) : NamesAt W := by
  intro i hi
  rw [Nat.zero_add]
  have h1 := strs_at (g := 0) (k := 5) (e := 9) h (by kernel_rfl) (by kernel_rfl) Tryd.underlying57 Tryd.underlying9 (by kernel_rfl) hm i (by simpa [namesB] using hi)
  rw [h1]
  have h2 : i < 5 := hi
  match i, h2 with
  | 0, _ => rfl
  | 1, _ => rfl
  | 2, _ => rfl
  | 3, _ => rfl
  | 4, _ => rfl
end Go.Proofs.YtnkfgdgjjigabaaDoor
