/- The kind of a person's raw bytes. -/
import Derived.Test.YtokeblpdaomagaaDoorKind
import Derived.Test.YtokeblpdaomagaaDoorProg
namespace Go.Proofs.YtokeblpdaomagaaDoor
open Go.RowKit

structure Per where
  loc : ByteArray
  dom : ByteArray
  words : ByteArray
def kPer : Rk Per := (Rk.pair Rk.str (Rk.pair Rk.str (Rk.pair Rk.str Rk.unit))).iso fun p => (p.loc, p.dom, p.words, ())
theorem kPer_cells {w : World} {p : Per} {cs : List Value} (h : kPer.K w p cs) : cs = [.string p.loc, .string p.dom, .string p.words] ∧ p.loc.size ≤ maxLen ∧ p.dom.size ≤ maxLen ∧ p.words.size ≤ maxLen := by
  obtain ⟨_, _, rfl, ⟨rfl, h1⟩, _, _, rfl, ⟨rfl, h2⟩, _, _, rfl, ⟨rfl, h3⟩, rfl⟩ := h
  exact ⟨rfl, h1, h2, h3⟩
theorem kPer_fields : OpensF Tryd.prog [⟨"Local", 9, 0, false, "", "", 0⟩, ⟨"Domain", 9, 1, false, "", "", 16⟩, ⟨"Words", 9, 2, false, "", "", 32⟩] 0 (Rk.pair Rk.str (Rk.pair Rk.str (Rk.pair Rk.str Rk.unit))) :=
  opensF_cons (f := ⟨"Local", 9, 0, false, "", "", 0⟩) rfl (by kernel_rfl) (opens_str Tryd.underlying9)
    (opensF_cons (f := ⟨"Domain", 9, 1, false, "", "", 16⟩) rfl (by kernel_rfl) (opens_str Tryd.underlying9)
      (opensF_cons (f := ⟨"Words", 9, 2, false, "", "", 32⟩) rfl (by kernel_rfl) (opens_str Tryd.underlying9) (opensF_nil _)))
theorem kPer_opens : Opens Tryd.prog 23 kPer :=
  opens_iso (opens_struct Tryd.underlying23 (by kernel_rfl) kPer_fields) (fun a => ⟨a.1, a.2.1, a.2.2.1⟩) (fun _ => rfl)
end Go.Proofs.YtokeblpdaomagaaDoor
