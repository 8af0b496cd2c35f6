/- The kind of a chore (an entry in raw numbers), and of a list of them. -/
import Derived.Test.YtpncahklapfoaaaDoorKind
import Derived.Test.YtpncahklapfoaaaDoorProg
namespace Go.Proofs.YtpncahklapfoaaaDoor
open Go.RowKit

structure Chr where
  kind : Int
  box : Int
  uid : Int
  flags : Int
  dst : Int
  text : ByteArray
def kChr : Rk Chr := (Rk.pair (Rk.int .i64) (Rk.pair (Rk.int .i64) (Rk.pair (Rk.int .i64) (Rk.pair (Rk.int .i64) (Rk.pair (Rk.int .i64) (Rk.pair Rk.str Rk.unit)))))).iso fun p => (p.kind, p.box, p.uid, p.flags, p.dst, p.text, ())
theorem kChr_cells {w : World} {p : Chr} {cs : List Value} (h : kChr.K w p cs) : cs = [.int .i64 p.kind, .int .i64 p.box, .int .i64 p.uid, .int .i64 p.flags, .int .i64 p.dst, .string p.text] ∧ p.text.size ≤ maxLen
    ∧ (Lit.int .i64 p.kind).wf = true ∧ (Lit.int .i64 p.box).wf = true ∧ (Lit.int .i64 p.uid).wf = true ∧ (Lit.int .i64 p.flags).wf = true ∧ (Lit.int .i64 p.dst).wf = true := by
  obtain ⟨_, _, rfl, ⟨rfl, h1⟩, _, _, rfl, ⟨rfl, h2⟩, _, _, rfl, ⟨rfl, h3⟩, _, _, rfl, ⟨rfl, h4⟩, _, _, rfl, ⟨rfl, h5⟩, _, _, rfl, ⟨rfl, h6⟩, rfl⟩ := h
  exact ⟨rfl, h6, h1, h2, h3, h4, h5⟩
theorem kChr_fields : OpensF Tryd.prog [⟨"Kind", 3, 0, false, "", "", 0⟩, ⟨"Box", 3, 1, false, "", "", 8⟩, ⟨"Uid", 3, 2, false, "", "", 16⟩, ⟨"Flags", 3, 3, false, "", "", 24⟩, ⟨"To", 3, 4, false, "", "", 32⟩, ⟨"Text", 9, 5, false, "", "", 40⟩] 0
    (Rk.pair (Rk.int .i64) (Rk.pair (Rk.int .i64) (Rk.pair (Rk.int .i64) (Rk.pair (Rk.int .i64) (Rk.pair (Rk.int .i64) (Rk.pair Rk.str Rk.unit)))))) :=
  opensF_cons (f := ⟨"Kind", 3, 0, false, "", "", 0⟩) rfl (by kernel_rfl) (opens_int Tryd.underlying3)
    (opensF_cons (f := ⟨"Box", 3, 1, false, "", "", 8⟩) rfl (by kernel_rfl) (opens_int Tryd.underlying3)
      (opensF_cons (f := ⟨"Uid", 3, 2, false, "", "", 16⟩) rfl (by kernel_rfl) (opens_int Tryd.underlying3)
        (opensF_cons (f := ⟨"Flags", 3, 3, false, "", "", 24⟩) rfl (by kernel_rfl) (opens_int Tryd.underlying3)
          (opensF_cons (f := ⟨"To", 3, 4, false, "", "", 32⟩) rfl (by kernel_rfl) (opens_int Tryd.underlying3)
            (opensF_cons (f := ⟨"Text", 9, 5, false, "", "", 40⟩) rfl (by kernel_rfl) (opens_str Tryd.underlying9) (opensF_nil _))))))
theorem kChr_opens : Opens Tryd.prog 73 kChr :=
  opens_iso (opens_struct Tryd.underlying73 (by kernel_rfl) kChr_fields) (fun a => ⟨a.1, a.2.1, a.2.2.1, a.2.2.2.1, a.2.2.2.2.1, a.2.2.2.2.2.1⟩) (fun _ => rfl)
theorem kChrs_opens : Opens Tryd.prog 22 kChr.slice :=
  opens_slice Tryd.underlying22 (by kernel_rfl) (by decide) kChr_opens
end Go.Proofs.YtpncahklapfoaaaDoor
