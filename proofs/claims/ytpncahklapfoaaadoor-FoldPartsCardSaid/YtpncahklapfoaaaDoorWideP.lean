/- Numbers as bytes; rows that grow. -/
import Derived.Test.YtpncahklapfoaaaDoorEntRow
import Derived.Maps.AppendAt
import Derived.Outline
namespace Go.Proofs.YtpncahklapfoaaaDoor
open Go.RowKit
set_option linter.unusedVariables false

theorem info_u8 : (Tryd.prog.info? 5).map (fun i => (i.zero, i.size, i.bytes)) = some (some (.int .u8 0), 1, 1) := by kernel_rfl
/-- A number as so many bytes, the highest one first. -/
def wideN : Nat → Nat → List UInt8
  | 0, _ => []
  | k + 1, n => UInt8.ofNat (n / 256 ^ k) :: wideN k n
theorem wideN_len (k n : Nat) : (wideN k n).length = k := by
  induction k with
  | zero => rfl
  | succ k ih => simp [wideN, ih]
theorem grown_trans {w w1 w2 : World} {r r1 : Option Nat} (h : w.grownBy w1 r) (h2 : w1.grownBy w2 r1) (hr : r1 = r ∨ ∀ k, r1 = some k → w.heap.size ≤ k) : w.grownBy w2 r := by
  refine ⟨h2.os.trans h.os, h2.tape.trans h.tape, h2.output.trans h.output, Nat.le_trans h.size h2.size, fun k hk hn => ?_⟩
  rw [h2.block k (Nat.lt_of_lt_of_le hk h.size) ?_, h.block k hk hn]
  rcases hr with rfl | hr
  · exact hn
  · intro he
    have := hr k he.symm
    omega
theorem grown_alloc {w w1 : World} {o : Obj} {r : Option Nat} (h : (w.alloc o).grownBy w1 r) : w.grownBy w1 r :=
  grown_trans (w1 := w.alloc o) ⟨rfl, rfl, rfl, by simp, fun k hk _ => ((Below.refl _ w).alloc (Nat.le_refl _) o).block k hk⟩ h (.inl rfl)
/-- The row of a value that grew: it is where it was, or it is new. -/
def OwnOr (w : World) (v v' : Value) : Prop := v'.ownBlock = v.ownBlock ∨ ∀ k, v'.ownBlock = some k → w.heap.size ≤ k
theorem OwnOr.trans {w w1 : World} {v v1 v2 : Value} (h : OwnOr w v v1) (h2 : OwnOr w1 v1 v2) (hs : w.heap.size ≤ w1.heap.size) : OwnOr w v v2 := by
  rcases h2 with h2 | h2
  · rcases h with h | h
    · exact .inl (h2.trans h)
    · exact .inr fun k hk => h k (h2 ▸ hk)
  · exact .inr fun k hk => Nat.le_trans hs (h2 k hk)
theorem below_grown {B : Nat} {w w1 : World} {e size n : Nat} {v : Value} {xs : List Value} (h : w.grownBy w1 v.ownBlock) (hrow : w.ownsRow B e size v n xs) (hB : B ≤ w.heap.size) : Below B w w1 :=
  (Below.refl B w).grown h hB (fun k e => own_base' hrow k e)
theorem byte_shr (n j : Nat) (hj : j ≤ 2) : ((UInt8.ofNat (n / 256 ^ j)).toNat : Int) = (n : Int) / 2 ^ (8 * j) % 256 := by
  have h : (256 : Nat) ^ j = 2 ^ (8 * j) := by rw [Nat.pow_mul]
  rw [UInt8.toNat_ofNat', h]
  simp
end Go.Proofs.YtpncahklapfoaaaDoor
