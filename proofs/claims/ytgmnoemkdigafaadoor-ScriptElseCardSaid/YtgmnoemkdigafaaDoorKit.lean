/- Small laws on memory that the walks share. -/
import Derived.WalkKit
import Derived.KernelRfl
import Derived.Below
import Derived.Laws.BytesArg
import Derived.Lib.Hide
import Derived.RangeFuncBox
import Derived.Deep.Draws
import Derived.Test.YtgmnoemkdigafaaDoorBytes
namespace Go.Proofs.YtgmnoemkdigafaaDoor
open Go.RowKit

theorem new_cells (w : World) (l : List Value) (t : TypeId) : ∀ (j : Nat) (u : Value), l[j]? = some u → (w.alloc (.cells l.toArray t)).cell? ((⟨w.heap.size, 0, none⟩ : Addr).add j) = some u := by
  intro j u hu
  have h0 := World.alloc_heap_new w (.cells l.toArray t)
  have hp : (⟨w.heap.size, 0, none⟩ : Addr).add j = ⟨w.heap.size, 0 + j, none⟩ := by unfold Addr.add; split <;> simp_all
  rw [hp, Nat.zero_add, ← hu]
  simp only [World.cell?, h0]
  simp

theorem own_base' {w : World} {base e size n : Nat} {v : Value} {xs : List Value} (h : w.ownsRow base e size v n xs) (k : Nat) (hk : v.ownBlock = some k) : base ≤ k := by
  rcases h.2 with ⟨rfl, _⟩ | ⟨g, cap, cur, rfl, hg, _⟩
  · simp [Value.ownBlock] at hk
  · obtain rfl : g = k := by simpa [Value.ownBlock] using hk
    exact hg

theorem below_append {w wr w1 : World} {B e size n : Nat} {v : Value} {xs : List Value} {o : Obj} (hb : Below B w wr) (hB : B ≤ wr.heap.size) (hrow : wr.ownsRow B e size v n xs) (hgrow : (wr.alloc o).grownBy w1 v.ownBlock) : Below B w w1 :=
  (hb.alloc hB o).grown hgrow (by simp; omega) (fun k e => own_base' hrow k e)

def u8s (l : List UInt8) : List Value := l.map fun c => .int .u8 c.toNat
theorem u8s_append (a b : List UInt8) : u8s (a ++ b) = u8s a ++ u8s b := by simp [u8s]
/-- What a row of bytes of one's own reads as. -/
theorem bytes_of_own {w : World} {base e : Nat} {v : Value} {l : List UInt8} (h : w.ownsRow base e 1 v l.length (u8s l)) :
    (v = .slice none 0 0 ∧ l = []) ∨ ∃ g c, v = .slice (some ⟨g, 0, none⟩) l.length c ∧ l.length ≤ c ∧ base ≤ g ∧ ∀ i, i < l.length → w.cell? ⟨g, 0 + i, none⟩ = some (.int .u8 ((l.map fun c => (c.toNat : Int)).getD i 0)) := by
  rcases h.2 with ⟨rfl, h0⟩ | ⟨g, cap, cur, rfl, hb, hgb, hn, hc, hcur, ht⟩
  · exact .inl ⟨rfl, List.length_eq_zero_iff.1 h0⟩
  · refine .inr ⟨g, cap, rfl, hn, hb, fun i hi => ?_⟩
    have h1 : (u8s l)[i]? = some (.int .u8 (l[i]).toNat) := by simp [u8s, hi]
    rw [← ht, List.getElem?_take_of_lt (by omega)] at h1
    rw [Nat.zero_add]
    simp only [World.cell?, hgb]
    rw [Array.getElem?_toList] at h1
    rw [h1]
    simp [List.getD, hi]
theorem strOfNums_bytes (l : List UInt8) : strOfNums (l.map fun c => (c.toNat : Int)) = mkS l := by
  simp only [strOfNums, mkS, List.map_map]
  congr 2
  conv => rhs; rw [← List.map_id l]
  apply List.map_congr_left
  intro c _
  simp
/-- '[]byte' of the call's own as a string. -/
theorem conv_own {P : Program} {src e dst : TypeId} (hs : P.underlying src = some (.slice e)) (he : P.underlying e = some (.int .u8)) (hd : P.underlying dst = some .string) {w : World} {base : Nat} {v : Value} {l : List UInt8} (h : w.ownsRow base e 1 v l.length (u8s l)) :
    (convert src dst v).run P w = .ok (.string (mkS l)) w := by
  rcases bytes_of_own h with ⟨rfl, rfl⟩ | ⟨g, c, rfl, _, _, hc⟩
  · exact run_convert_bytes_nil w src e hs he 0 0 dst hd
  · have h1 := run_convert_bytes_arg (P := P) w src e hs he g 0 l.length c _ (by rw [List.length_map]) hc dst hd
    rw [strOfNums_bytes] at h1
    exact h1

theorem take_snoc (s : ByteArray) (k : Nat) (h : k < s.size) : (bs s).take (k + 1) = (bs s).take k ++ [s[k]] := by
  have h' : k < (bs s).length := h
  rw [List.take_succ_eq_append_getElem h']; rfl
theorem take_full (s : ByteArray) : (bs s).take s.size = bs s := List.take_of_length_le (Nat.le_of_eq (bs_len s))
end Go.Proofs.YtgmnoemkdigafaaDoor
