/- The two functions glob.small and glob.fold: what they return for every byte and every string. -/
import Derived.Test.YtokeblpdaomagaaDoorProg
import Derived.WalkKit
import Derived.KernelRfl
import Derived.Lib.ConvBytes
import Derived.Laws.BytesArg
import Derived.Below
namespace Go.Proofs.YtokeblpdaomagaaDoor
open Go.RowKit

/-- A byte's small letter. -/
def smallB (c : UInt8) : UInt8 := if 65 ≤ c ∧ c ≤ 90 then c + 32 else c
/-- A text in small letters. -/
def foldB (s : ByteArray) : ByteArray := ⟨(s.data.toList.map smallB).toArray⟩

theorem smallB_yes (c : UInt8) (h1 : 65 ≤ c.toNat) (h2 : c.toNat ≤ 90) : ((smallB c).toNat : Int) = (c.toNat : Int) + 97 - 65 := by
  have h : 65 ≤ c ∧ c ≤ 90 := ⟨UInt8.le_iff_toNat_le.2 h1, UInt8.le_iff_toNat_le.2 h2⟩
  unfold smallB
  rw [if_pos h, UInt8.toNat_add]
  simp
  omega
theorem smallB_no (c : UInt8) (h : ¬ (65 ≤ c.toNat ∧ c.toNat ≤ 90)) : smallB c = c := by
  unfold smallB
  rw [if_neg (fun hh => h ⟨by simpa using UInt8.le_iff_toNat_le.1 hh.1, by simpa using UInt8.le_iff_toNat_le.1 hh.2⟩)]

theorem small_calls (c : UInt8) (w : World) :
    Calls Tryd.prog 51 #[.int .u8 c.toNat] w fun e w' => e = .returned (.int .u8 (smallB c).toNat) ∧ w = w' := by
  have hc := c.toNat_lt
  by_cases h1 : 65 ≤ c.toNat
  · by_cases h2 : c.toNat ≤ 90
    · have hv := smallB_yes c h1 h2
      go_enter Tryd.func51, Tryd.ntmps51
      go_wp2
      go_ret
      exact ⟨by rw [hv]; rfl, rfl⟩
    · have hv := smallB_no c (fun h => h2 h.2)
      rw [hv]; clear hv
      go_enter Tryd.func51, Tryd.ntmps51
      go_wp2
      go_ret
      exact ⟨rfl, rfl⟩
  · have hv := smallB_no c (fun h => h1 h.1)
    rw [hv]; clear hv
    go_enter Tryd.func51, Tryd.ntmps51
    go_wp2
    go_ret
    exact ⟨rfl, rfl⟩

/-- What lies in the new row when k bytes have been turned. -/
def FoldSt (s : ByteArray) (b k : Nat) (w : World) : Prop :=
  ∀ j, (h : j < s.data.size) → w.cell? ⟨b, j, none⟩ = some (.int .u8 (if j < k then smallB s.data[j] else s.data[j]).toNat) ∧ w.frozen? ⟨b, j, none⟩ = false

theorem foldSt_begin (s : ByteArray) (e : TypeId) (w : World) : FoldSt s w.heap.size 0 (Lib.bytesWorld w e s) := by
  intro j hj
  refine ⟨?_, ?_⟩
  · rw [Lib.bytesWorld_cell w e s j hj]
    have hj' : s.data[j]? = some s.data[j] := by simp
    simp [List.getD, hj']
  · have h := Lib.bytesWorld_at_new w e s
    have hs : s.data.size ≤ (Lib.bytesCells w e s).size := by simp [Lib.bytesCells]
    simp [World.frozen?, h]
    omega

theorem foldSt_step {s : ByteArray} {b k : Nat} {w : World} (h : FoldSt s b k w) (hk : k < s.data.size) :
    FoldSt s b (k + 1) (w.setCell ⟨b, k, none⟩ (.int .u8 (smallB s.data[k]).toNat)) := by
  intro j hj
  obtain ⟨h1, h2⟩ := h j hj
  refine ⟨?_, by rw [World.frozen?_setCell]; exact h2⟩
  by_cases e : j = k
  · subst e
    rw [World.cell?_setCell_same' _ _ _ (by rw [h1]; rfl)]
    rw [if_pos (by omega)]
  · have hn : (if j < k + 1 then smallB s.data[j] else s.data[j]) = (if j < k then smallB s.data[j] else s.data[j]) := by
      by_cases hlt : j < k
      · rw [if_pos hlt, if_pos (by omega)]
      · rw [if_neg hlt, if_neg (by omega)]
    rw [hn, ← h1]
    exact World.cell?_setCell_other _ _ _ _ (by intro hh; injection hh with _ h2; exact e h2.symm)

theorem foldSt_end {s : ByteArray} {b : Nat} {w : World} (h : FoldSt s b s.data.size w) :
    strOfNums (s.data.toList.map fun c => ((smallB c).toNat : Int)) = foldB s ∧
    (∀ i, i < s.size → w.cell? ⟨b, 0 + i, none⟩ = some (.int .u8 ((s.data.toList.map fun c => ((smallB c).toNat : Int)).getD i 0))) := by
  refine ⟨?_, fun i hi => ?_⟩
  · simp [strOfNums, foldB]
  · have hi' : i < s.data.size := hi
    have hg : s.data[i]? = some s.data[i] := by simp
    rw [Nat.zero_add, (h i hi').1, if_pos hi']
    simp [List.getD, hg]

set_option maxHeartbeats 1000000 in
theorem fold_calls (s : ByteArray) (w : World) (hs : s.size ≤ 9223372036854775807) :
    Calls Tryd.prog 37 #[.string s] w fun e w' => e = .returned (.string (foldB s)) ∧ Below w.heap.size w w' := by
  have hconv := Lib.run_convert_string_bytes (P := Tryd.prog) w 9 40 5 s Tryd.underlying9 Tryd.underlying40 Tryd.underlying5
  have hb0 : Below w.heap.size w (Lib.bytesWorld w 5 s) :=
    ⟨rfl, rfl, rfl, by rw [Lib.bytesWorld_size]; omega, fun k hk => Lib.bytesWorld_at_old w _ s k hk⟩
  have hf0 := foldSt_begin s 5 w
  go_enter Tryd.func37, Tryd.ntmps37
  go_wp2
  clear hconv
  go_loopw [10] (fun i wr => ∃ k : Nat, k ≤ s.size ∧ i = .int .i64 k ∧ FoldSt s w.heap.size k wr ∧ Below w.heap.size w wr) (fun i _ => s.size - (intOf i).toNat)
  case atStart => exact ⟨0, Nat.zero_le _, rfl, hf0, hb0⟩
  case round =>
    obtain ⟨k, hk, rfl, hst, hb⟩ := hrel
    clear hf0 hb0
    by_cases hlt : k < s.size
    · obtain ⟨hc, hfz⟩ := hst k hlt
      rw [if_neg (Nat.lt_irrefl k)] at hc
      have hnew := foldSt_step hst hlt
      go_wp2_with (go_at_call 51; refine (small_calls _ _).mono ?_; rintro e w' ⟨rfl, rfl⟩)
      go_roundw
      case rel => exact ⟨k + 1, by omega, by go_num, hnew, hb.setCell (Nat.le_refl _) _⟩
      case measure => simp [intOf]; omega
    · obtain rfl : k = s.size := by omega
      obtain ⟨he, hcells⟩ := foldSt_end hst
      have hconv := run_convert_bytes_arg (P := Tryd.prog) wr 40 5 Tryd.underlying40 Tryd.underlying5 w.heap.size 0 s.size (grownCap w s.size 0 5) _ (by rw [List.length_map]; rfl) hcells 9 Tryd.underlying9
      rw [he] at hconv
      go_wp2
      go_ret
      exact ⟨rfl, hb⟩
end Go.Proofs.YtokeblpdaomagaaDoor
