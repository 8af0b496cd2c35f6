/- Plain words on byte strings: a string and the list of its bytes. -/
import Derived.Below
import Derived.Laws.Strings
namespace Go.Proofs.YtgmnoemkdigafaaDoor

/-- The string of these bytes. -/
def mkS (l : List UInt8) : ByteArray := ⟨l.toArray⟩
/-- The bytes of a string. -/
def bs (s : ByteArray) : List UInt8 := s.data.toList
theorem bs_mkS (l : List UInt8) : bs (mkS l) = l := rfl
theorem mkS_bs (s : ByteArray) : mkS (bs s) = s := rfl
theorem bs_len (s : ByteArray) : (bs s).length = s.size := rfl
theorem mkS_size (l : List UInt8) : (mkS l).size = l.length := by show l.toArray.size = _; rw [List.size_toArray]
theorem bs_inj {s t : ByteArray} (h : bs s = bs t) : s = t := by rw [← mkS_bs s, ← mkS_bs t, h]
theorem mkS_inj {s t : List UInt8} (h : mkS s = mkS t) : s = t := by rw [← bs_mkS s, ← bs_mkS t, h]
theorem bs_append (s t : ByteArray) : bs (s ++ t) = bs s ++ bs t := by simp [bs]
theorem append_mkS (s t : ByteArray) : s ++ t = mkS (bs s ++ bs t) := bs_inj (by rw [bs_append, bs_mkS])
theorem bs_extract (s : ByteArray) (a b : Nat) : bs (s.extract a b) = ((bs s).take b).drop a := by
  simp [bs, List.drop_take]
theorem extract_mkS (s : ByteArray) (a b : Nat) : s.extract a b = mkS (((bs s).take b).drop a) := bs_inj (by rw [bs_extract, bs_mkS])
theorem extract_all (s : ByteArray) (n : Nat) (h : s.size ≤ n) : s.extract 0 n = s := bs_inj (by rw [bs_extract, List.drop_zero, List.take_of_length_le (by rw [bs_len]; exact h)])
theorem toList_bs (s : ByteArray) : s.toList = bs s := Go.ByteArray.toList_eq s
end Go.Proofs.YtgmnoemkdigafaaDoor
