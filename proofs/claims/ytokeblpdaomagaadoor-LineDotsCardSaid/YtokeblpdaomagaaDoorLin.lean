/- The kind of a line in raw bytes (a name and a value), and of a list of them. -/
import Derived.Test.YtokeblpdaomagaaDoorKind
import Derived.Test.YtokeblpdaomagaaDoorLetPlain
import Derived.Test.YtokeblpdaomagaaDoorProg
namespace Go.Proofs.YtokeblpdaomagaaDoor
open Go.RowKit

def kLin : Rk Fld := (Rk.pair Rk.str (Rk.pair Rk.str Rk.unit)).iso fun p => (p.name, p.value, ())
theorem kLin_cells {w : World} {p : Fld} {cs : List Value} (h : kLin.K w p cs) : cs = [.string p.name, .string p.value] ∧ p.name.size ≤ maxLen ∧ p.value.size ≤ maxLen := by
  obtain ⟨_, _, rfl, ⟨rfl, h1⟩, _, _, rfl, ⟨rfl, h2⟩, rfl⟩ := h
  exact ⟨rfl, h1, h2⟩
theorem kLin_fields : OpensF Tryd.prog [⟨"Name", 9, 0, false, "", "", 0⟩, ⟨"Value", 9, 1, false, "", "", 16⟩] 0 (Rk.pair Rk.str (Rk.pair Rk.str Rk.unit)) :=
  opensF_cons (f := ⟨"Name", 9, 0, false, "", "", 0⟩) rfl (by kernel_rfl) (opens_str Tryd.underlying9)
    (opensF_cons (f := ⟨"Value", 9, 1, false, "", "", 16⟩) rfl (by kernel_rfl) (opens_str Tryd.underlying9) (opensF_nil _))
theorem kLin_opens : Opens Tryd.prog 77 kLin :=
  opens_iso (opens_struct Tryd.underlying77 (by kernel_rfl) kLin_fields) (fun a => ⟨a.1, a.2.1⟩) (fun _ => rfl)
theorem kLins_opens : Opens Tryd.prog 24 kLin.slice :=
  opens_slice Tryd.underlying24 (by kernel_rfl) (by decide) kLin_opens
end Go.Proofs.YtokeblpdaomagaaDoor
