/- The kind of a post's raw bytes. -/
import Derived.Test.YtokeblpdaomagaaDoorLin
import Derived.Test.YtokeblpdaomagaaDoorPer
namespace Go.Proofs.YtokeblpdaomagaaDoor
open Go.RowKit

structure Post where
  frm : Per
  rcv : Per
  lines : List Fld
  body : ByteArray
def kPost : Rk Post := (Rk.pair kPer (Rk.pair kPer (Rk.pair kLin.slice (Rk.pair Rk.str Rk.unit)))).iso fun p => (p.frm, p.rcv, p.lines, p.body, ())
def postCells (p : Post) (A : Option Addr) (c : Nat) : List Value := [.string p.frm.loc, .string p.frm.dom, .string p.frm.words, .string p.rcv.loc, .string p.rcv.dom, .string p.rcv.words, .slice A p.lines.length c, .string p.body]
/-- A post that may come in. -/
structure PostOk (w : World) (p : Post) (A : Option Addr) (c : Nat) : Prop where
  f1 : p.frm.loc.size ≤ 9223372036854775807
  f2 : p.frm.dom.size ≤ 9223372036854775807
  f3 : p.frm.words.size ≤ 9223372036854775807
  r1 : p.rcv.loc.size ≤ 9223372036854775807
  r2 : p.rcv.dom.size ≤ 9223372036854775807
  r3 : p.rcv.words.size ≤ 9223372036854775807
  bo : p.body.size ≤ 9223372036854775807
  ll : p.lines.length ≤ c
  cm : c ≤ 9223372036854775807
  nn : A = none → c = 0
  row : kLin.Row w A p.lines
theorem PostOk.later {w w' : World} {p : Post} {A : Option Addr} {c : Nat} (h : PostOk w p A c) (hb : Below w.heap.size w w') : PostOk w' p A c :=
  ⟨h.f1, h.f2, h.f3, h.r1, h.r2, h.r3, h.bo, h.ll, h.cm, h.nn, h.row.later hb⟩
theorem kPost_cells {w : World} {p : Post} {cs : List Value} (h : kPost.K w p cs) : ∃ A c, cs = postCells p A c ∧ PostOk w p A c := by
  obtain ⟨_, _, rfl, h1, _, _, rfl, h2, _, _, rfl, ⟨A, c, rfl, h3, h4, h5, h6⟩, _, _, rfl, ⟨rfl, h7⟩, rfl⟩ := h
  obtain ⟨rfl, a1, a2, a3⟩ := kPer_cells h1
  obtain ⟨rfl, b1, b2, b3⟩ := kPer_cells h2
  simp only at a1 a2 a3 b1 b2 b3 h7
  unfold maxLen at a1 a2 a3 b1 b2 b3 h7 h4
  exact ⟨A, c, rfl, by omega, by omega, by omega, by omega, by omega, by omega, by omega, h3, by omega, h5, h6⟩
theorem kPost_fields : OpensF Tryd.prog [⟨"From", 23, 0, false, "", "", 0⟩, ⟨"To", 23, 3, false, "", "", 48⟩, ⟨"Lines", 24, 6, false, "", "", 96⟩, ⟨"Body", 9, 7, false, "", "", 120⟩] 0 (Rk.pair kPer (Rk.pair kPer (Rk.pair kLin.slice (Rk.pair Rk.str Rk.unit)))) :=
  opensF_cons (f := ⟨"From", 23, 0, false, "", "", 0⟩) rfl (by kernel_rfl) kPer_opens
    (opensF_cons (f := ⟨"To", 23, 3, false, "", "", 48⟩) rfl (by kernel_rfl) kPer_opens
      (opensF_cons (f := ⟨"Lines", 24, 6, false, "", "", 96⟩) rfl (by kernel_rfl) kLins_opens
        (opensF_cons (f := ⟨"Body", 9, 7, false, "", "", 120⟩) rfl (by kernel_rfl) (opens_str Tryd.underlying9) (opensF_nil _))))
theorem kPost_opens : Opens Tryd.prog 26 kPost :=
  opens_iso (opens_struct Tryd.underlying26 (by kernel_rfl) kPost_fields) (fun a => ⟨a.1, a.2.1, a.2.2.1, a.2.2.2.1⟩) (fun _ => rfl)
end Go.Proofs.YtokeblpdaomagaaDoor
