/- What the laws on tapes share: Recover of a whole tape, of one that may not be; parts of lists of batches. -/
import Derived.Test.YtpncahklapfoaaaDoorBkRec
import Derived.Test.YtpncahklapfoaaaDoorBkTaped
import Derived.Test.YtpncahklapfoaaaDoorBkOf
import Derived.Test.YtpncahklapfoaaaDoorBkBegins
namespace Go.Proofs.YtpncahklapfoaaaDoor
open Go.RowKit
set_option linter.unusedVariables false

theorem recover_all (bs : List BatS) (sy : Nat) (A : Option Addr) (c : Nat) (m : Int) (w : World) (hA : BS w w.heap.size A c (tapeN bs)) (hg : ∀ b ∈ bs, GoodB b) (hl : bs.length ≤ 28) (hs : sy ≤ (tapeN bs).length) (hm : w.cell? ⟨0, 0, none⟩ = some (.int .i64 m)) :
    Calls Tryd.prog 19 #[.agg #[.slice A (tapeN bs).length c, .int .i64 sy]] w fun e w' => ∃ v A c, e = .returned (.tuple #[v, .agg #[.slice A (tapeN bs).length c, .int .i64 sy], .int .i64 0]) ∧ RowB w' w.heap.size v bs ∧ BS w' w'.heap.size A c (tapeN bs) ∧ Below w.heap.size w w' := by
  refine (recover_calls bs (tapeN bs).length sy A c m w (by rw [List.take_of_length_le (Nat.le_refl _)]; exact hA) hg hl (Nat.le_refl _) hs hm).mono ?_
  intro e w' h
  rw [whole_full bs _ (Nat.le_refl _)] at h
  unfold RecOk at h
  rw [List.take_length, Nat.min_eq_left hs] at h
  exact h
theorem recover_zero (bs : List BatS) (k : Nat) (A : Option Addr) (c : Nat) (m : Int) (w : World) (hA : BS w w.heap.size A c ((tapeN bs).take k)) (hg : ∀ b ∈ bs, GoodB b) (hl : bs.length ≤ 28) (hk : k ≤ (tapeN bs).length) (hm : w.cell? ⟨0, 0, none⟩ = some (.int .i64 m)) :
    Calls Tryd.prog 19 #[.agg #[.slice A k c, .int .i64 0]] w fun e w' => ∃ v A c, e = .returned (.tuple #[v, .agg #[.slice A (tapeN (bs.take (whole bs k))).length c, .int .i64 0], .int .i64 0]) ∧ RowB w' w.heap.size v (bs.take (whole bs k)) ∧ BS w' w'.heap.size A c (tapeN (bs.take (whole bs k))) ∧ Below w.heap.size w w' := by
  refine (recover_calls bs k 0 A c m w hA hg hl hk (Nat.zero_le _) hm).mono ?_
  intro e w' h
  unfold RecOk at h
  rw [Nat.zero_min] at h
  exact h
theorem recover_all0 (bs : List BatS) (A : Option Addr) (c : Nat) (m : Int) (w : World) (hA : BS w w.heap.size A c (tapeN bs)) (hg : ∀ b ∈ bs, GoodB b) (hl : bs.length ≤ 28) (hm : w.cell? ⟨0, 0, none⟩ = some (.int .i64 m)) :
    Calls Tryd.prog 19 #[.agg #[.slice A (tapeN bs).length c, .int .i64 0]] w fun e w' => ∃ v A c, e = .returned (.tuple #[v, .agg #[.slice A (tapeN bs).length c, .int .i64 0], .int .i64 0]) ∧ RowB w' w.heap.size v bs ∧ BS w' w'.heap.size A c (tapeN bs) ∧ Below w.heap.size w w' :=
  recover_all bs 0 A c m w hA hg hl (Nat.zero_le _) hm
set_option maxRecDepth 100000 in
set_option maxHeartbeats 1000000 in
theorem open_bad (w : World) :
    Calls Tryd.prog 32 #[.agg #[.slice none 0 0, .int .i64 1]] w fun e w' => e = .returned (.tuple #[.agg #[.slice none 0 0, .int .i64 0], .bool false]) ∧ Below w.heap.size w w' := by
  have hb1 : Below w.heap.size w ((w.alloc (.cells #[.slice none 0 0, .int .i64 1] 42)).alloc (.cells #[.slice none 0 0, .int .i64 0] 42)) := ((Below.refl _ w).alloc (Nat.le_refl _) _).alloc (by simp) _
  have hX := (Bk.new w [.slice none 0 0, .int .i64 1] 42).alloc (.cells #[.slice none 0 0, .int .i64 0] 42)
  have hR := Bk.new (w.alloc (.cells #[.slice none 0 0, .int .i64 1] 42)) [.slice none 0 0, .int .i64 0] 42
  rw [show (w.alloc (.cells #[.slice none 0 0, .int .i64 1] 42)).heap.size = w.heap.size + 1 by simp] at hR
  go_enter Tryd.func32, Tryd.ntmps32
  have x0 := hX.cell 0 _ rfl
  have x1 := hX.cell 1 _ rfl
  go_upto_region 2 with fail
  generalize (w.alloc (.cells #[.slice none 0 0, .int .i64 1] 42)).alloc (.cells #[.slice none 0 0, .int .i64 0] 42) = w1 at *
  have r0 := hR.cell 0 _ rfl
  have r1 := hR.cell 1 _ rfl
  have f0 := hR.frozen 0
  have f1 := hR.frozen 1
  have hZ := (hR.set 0 (.slice none 0 0)).set 1 (.int .i64 0)
  have z0 := hZ.cell 0 _ rfl
  have z1 := hZ.cell 1 _ rfl
  have hbz := (hb1.setCell (p := ⟨w.heap.size + 1, 0, none⟩) (by show w.heap.size ≤ w.heap.size + 1; omega) (.slice none 0 0)).setCell (p := ⟨w.heap.size + 1, 1, none⟩) (by show w.heap.size ≤ w.heap.size + 1; omega) (.int .i64 0)
  have Hbz := Lib.hid hbz
  clear hbz hb1 hX hR hZ
  go_wp2_with fail
  exact bodyPost_ret (v := .tuple #[.agg #[.slice none 0 0, .int .i64 0], .bool false]) (by simp [results, Tryd.results32, go_sem, z0, z1]) rfl ⟨rfl, Hbz.out⟩
set_option maxRecDepth 100000 in
set_option maxHeartbeats 1000000 in
theorem recover_bad (w : World) :
    Calls Tryd.prog 19 #[.agg #[.slice none 0 0, .int .i64 1]] w fun e w' => e = .returned (.tuple #[.slice none 0 0, .agg #[.slice none 0 0, .int .i64 0], .int .i64 11]) ∧ Below w.heap.size w w' := by
  obtain ⟨W, hW⟩ : ∃ W, W = (w.alloc (.cells #[.slice none 0 0, .int .i64 1] 42)).alloc (.cells #[.slice none 0 0, .int .i64 0] 42) := ⟨_, rfl⟩
  have hX : Bk W w.heap.size [.slice none 0 0, .int .i64 1] 42 := by rw [hW]; exact (Bk.new w [.slice none 0 0, .int .i64 1] _).alloc _
  have hR : Bk W (w.heap.size + 1) [.slice none 0 0, .int .i64 0] 42 := by
    have h := Bk.new (w.alloc (.cells #[.slice none 0 0, .int .i64 1] 42)) [.slice none 0 0, .int .i64 0] 42
    rw [show (w.alloc (.cells #[.slice none 0 0, .int .i64 1] 42)).heap.size = w.heap.size + 1 by simp] at h
    rw [hW]; exact h
  have hb1 : Below w.heap.size w W := by rw [hW]; exact ((Below.refl _ w).alloc (Nat.le_refl _) _).alloc (by simp) _
  have x0 := hX.cell 0 _ rfl
  have x1 := hX.cell 1 _ rfl
  go_enter Tryd.func19, Tryd.ntmps19
  go_wp2_with fail
  rw [← hW]
  clear hW
  refine (open_bad W).mono ?_
  rintro e w2 ⟨rfl, hb2⟩
  have hR2 := hR.later hb2
  have hb3 := btr hb1 hb2
  have hbA : Below w2.heap.size w2 (w2.alloc (.cells #[.slice none 0 0, .int .i64 0] 42)) := (Below.refl _ w2).alloc (Nat.le_refl _) _
  have hR3 := hR2.later hbA
  have hb4 := btr hb3 hbA
  clear hX hR x0 x1 hb1 hb2 hR2 hb3 hbA
  go_upto_region 3 with fail
  generalize w2.alloc (.cells #[.slice none 0 0, .int .i64 0] 42) = w3 at *
  have r0 := hR3.cell 0 _ rfl
  have r1 := hR3.cell 1 _ rfl
  have f0 := hR3.frozen 0
  have f1 := hR3.frozen 1
  have hZ := (hR3.set 0 (.slice none 0 0)).set 1 (.int .i64 0)
  have z0 := hZ.cell 0 _ rfl
  have z1 := hZ.cell 1 _ rfl
  have hbz := (hb4.setCell (p := ⟨w.heap.size + 1, 0, none⟩) (by show w.heap.size ≤ w.heap.size + 1; omega) (.slice none 0 0)).setCell (p := ⟨w.heap.size + 1, 1, none⟩) (by show w.heap.size ≤ w.heap.size + 1; omega) (.int .i64 0)
  have Hbz := Lib.hid hbz
  clear hbz hR3 hZ hb4
  go_wp2_with fail
  exact bodyPost_ret (v := .tuple #[.slice none 0 0, .agg #[.slice none 0 0, .int .i64 0], .int .i64 11]) (by simp [results, Tryd.results19, go_sem, z0, z1]) rfl ⟨rfl, Hbz.out⟩
theorem good_take {bs : List BatS} (h : ∀ b ∈ bs, GoodB b) (k : Nat) : ∀ b ∈ bs.take k, GoodB b := fun b hb => h b (List.mem_of_mem_take hb)
theorem take_pre (bs : List BatS) (j : Nat) : ∀ (k : Nat) b, (bs.take j)[k]? = some b → bs[k]? = some b := fun k b h => by
  rw [List.getElem?_take] at h
  split at h
  · exact h
  · cases h
/-- Are all there? Just if no byte is lacking. -/
theorem whole_iff (bs : List BatS) (k : Nat) (hk : k ≤ (tapeN bs).length) : ((bs.take (whole bs k)).length = bs.length) ↔ k = (tapeN bs).length := by
  have hw := whole_le bs k
  rw [List.length_take, Nat.min_eq_left hw]
  constructor
  · intro h
    have := whole_all bs k h
    omega
  · intro h
    exact whole_full bs k (by omega)
end Go.Proofs.YtpncahklapfoaaaDoor
