/- The kind of a byte, and of a list of bytes. -/
import Derived.Test.YtpncahklapfoaaaDoorKind
import Derived.Test.YtpncahklapfoaaaDoorProg
import Derived.WideShapes
import Derived.OpenShut
import Derived.ProofKit
namespace Go.Proofs.YtpncahklapfoaaaDoor
open Go.RowKit Go.WideShapes

def kU8 : Rk UInt8 := (Rk.int .u8).iso fun c => (c.toNat : Int)
theorem kU8_cells {w : World} {p : UInt8} {cs : List Value} (h : kU8.K w p cs) : cs = [.int .u8 (p.toNat : Int)] := h.1
theorem kU8_opens : Opens Tryd.prog 5 kU8 := by
  intro H enc w base spare held fuel cs x h
  obtain ⟨n, e, hw⟩ := opens_int (P := Tryd.prog) (k := .u8) Tryd.underlying5 enc w base spare held fuel cs x h
  have hb := bounds_u8 hw
  have e2 : (((UInt8.ofNat n.toNat).toNat : Nat) : Int) = n := by rw [UInt8.toNat_ofNat']; omega
  exact ⟨UInt8.ofNat n.toNat, by show cs = [.int .u8 (((UInt8.ofNat n.toNat).toNat : Nat) : Int)] ∧ (Lit.int .u8 (((UInt8.ofNat n.toNat).toNat : Nat) : Int)).wf = true; rw [e2]; exact ⟨e, hw⟩⟩
theorem kU8s_opens : Opens Tryd.prog 27 kU8.slice :=
  opens_slice Tryd.underlying27 (by kernel_rfl) (by decide) kU8_opens
end Go.Proofs.YtpncahklapfoaaaDoor
