/- glob.Match where its answer is known; one byte as a string. -/
import Derived.Test.YtnkfgdgjjigabaaGlobMatch
import Derived.Test.YtnkfgdgjjigabaaGlobLaws
namespace Go.Proofs.Ytnkfgdgjjigabaa
open Go.RowKit

/-- glob.Match at 'matches', its answer known. -/
theorem match_glob_val (s p : ByteArray) (w : World) (hs : s.size ≤ 2000) (hp : p.size ≤ 100) (v : Bool) (h : mt (foldL (bs s)) (piecesL (foldL (bs p))) = v) :
    Calls Try.prog 15 #[.int .i64 3, .string s, .string p] w fun e w' => e = .returned (.tuple #[.bool v, .int .i64 0]) ∧ Below w.heap.size w w' := by
  have hh := match_glob s p w hs hp
  have e : mt (foldB s).data.toList (piecesL (foldB p).data.toList) = v := h
  rw [e] at hh
  exact hh

/-- One byte as a string. -/
theorem conv_one {P : Program} {src e dst : TypeId} (hs : P.underlying src = some (.slice e)) (he : P.underlying e = some (.int .u8)) (hd : P.underlying dst = some .string) (w : World) (c : UInt8) :
    (convert src dst (.slice (some ⟨w.heap.size, 0, none⟩) 1 1)).run P (w.alloc (.cells #[.int .u8 c.toNat] e)) = .ok (.string (mkS [c])) (w.alloc (.cells #[.int .u8 c.toNat] e)) := by
  have h1 := run_convert_bytes_arg (P := P) (w.alloc (.cells #[.int .u8 c.toNat] e)) src e hs he w.heap.size 0 1 1 [(c.toNat : Int)] rfl (fun i hi => by
    obtain rfl : i = 0 := by omega
    have h0 := World.alloc_heap_new w (.cells #[.int .u8 c.toNat] e)
    simp only [World.cell?, h0]; rfl) dst hd
  have h2 : strOfNums [(c.toNat : Int)] = mkS [c] := strOfNums_bytes [c]
  rw [h2] at h1
  exact h1

theorem conv_one_drew {P : Program} {src e dst : TypeId} (hs : P.underlying src = some (.slice e)) (he : P.underlying e = some (.int .u8)) (hd : P.underlying dst = some .string) (w : World) (c : UInt8) :
    (convert src dst (.slice (some ⟨w.heap.size, 0, none⟩) 1 1)).run P ((w.alloc (.cells #[.int .u8 c.toNat] e)).drew) = .ok (.string (mkS [c])) ((w.alloc (.cells #[.int .u8 c.toNat] e)).drew) := by
  have h1 := run_convert_bytes_arg (P := P) ((w.alloc (.cells #[.int .u8 c.toNat] e)).drew) src e hs he w.heap.size 0 1 1 [(c.toNat : Int)] rfl (fun i hi => by
    obtain rfl : i = 0 := by omega
    have h0 : ((w.alloc (.cells #[.int .u8 c.toNat] e)).drew).heap[w.heap.size]? = _ := World.alloc_heap_new w (.cells #[.int .u8 c.toNat] e)
    simp only [World.cell?, h0]; rfl) dst hd
  have h2 : strOfNums [(c.toNat : Int)] = mkS [c] := strOfNums_bytes [c]
  rw [h2] at h1
  exact h1
/-- .. in a later world. -/
theorem conv_after {P : Program} {src e dst : TypeId} (hs : P.underlying src = some (.slice e)) (he : P.underlying e = some (.int .u8)) (hd : P.underlying dst = some .string) {w w' : World} {c : UInt8} (hb : Below ((w.alloc (.cells #[.int .u8 c.toNat] e)).drew).heap.size ((w.alloc (.cells #[.int .u8 c.toNat] e)).drew) w') :
    (convert src dst (.slice (some ⟨w.heap.size, 0, none⟩) 1 1)).run P w' = .ok (.string (mkS [c])) w' := by
  have h1 := run_convert_bytes_arg (P := P) w' src e hs he w.heap.size 0 1 1 [(c.toNat : Int)] rfl (fun i hi => by
    obtain rfl : i = 0 := by omega
    have h0 : ((w.alloc (.cells #[.int .u8 c.toNat] e)).drew).heap[w.heap.size]? = _ := World.alloc_heap_new w (.cells #[.int .u8 c.toNat] e)
    have h0' := (hb.block w.heap.size (by simp)).trans h0
    simp only [World.cell?, h0']; rfl) dst hd
  have h2 : strOfNums [(c.toNat : Int)] = mkS [c] := strOfNums_bytes [c]
  rw [h2] at h1
  exact h1

theorem cutS_size (s : ByteArray) (n : Nat) : (cutS s n).size ≤ n := by rw [cutS, mkS_size]; exact List.length_take_le _ _

theorem append_size (s t : ByteArray) : (s ++ t).size = s.size + t.size := by
  rw [append_mkS, mkS_size, List.length_append, bs_len, bs_len]
theorem mask_size (s : ByteArray) : (mkS (maskL (bs s))).size = 2 * s.size := by rw [mkS_size, maskL_len, bs_len]
/-- glob.Match at 'is', its answer known. -/
theorem match_is_val (s p : ByteArray) (w : World) (hs : s.size ≤ 2000) (hp : p.size ≤ 100) (h : foldL (bs s) = foldL (bs p)) :
    Calls Try.prog 15 #[.int .i64 1, .string s, .string p] w fun e w' => e = .returned (.tuple #[.bool true, .int .i64 0]) ∧ Below w.heap.size w w' := by
  have hh := match_is s p w hs hp
  have e : ((foldB s).toList == (foldB p).toList) = true := by rw [toList_bs, toList_bs, bs_foldB, bs_foldB, h, beq_self_eq_true]
  rw [e] at hh
  exact hh
end Go.Proofs.Ytnkfgdgjjigabaa
