/- What the laws on tapes share: Recover of a whole tape, of one that may not be; parts of lists of batches. -/
import Derived.Test.YtpncahklapfoaaaDoorBkRec
import Derived.Test.YtpncahklapfoaaaDoorBkTaped
import Derived.Test.YtpncahklapfoaaaDoorBkOf
import Derived.Test.YtpncahklapfoaaaDoorBkBegins
namespace Go.Proofs.YtpncahklapfoaaaDoor
open Go.RowKit
set_option linter.unusedVariables false

theorem recover_all (bs : List BatS) (sy : Nat) (A : Option Addr) (c : Nat) (m : Int) (w : World) (hA : BS w w.heap.size A c (tapeN bs)) (hg : ∀ b ∈ bs, GoodB b) (hl : bs.length ≤ 28) (hs : sy ≤ (tapeN bs).length) (hm : w.cell? ⟨0, 0, none⟩ = some (.int .i64 m)) :
    Calls Tryd.prog 19 #[.agg #[.slice A (tapeN bs).length c, .int .i64 sy]] w fun e w' => ∃ v A c, e = .returned (.tuple #[v, .agg #[.slice A (tapeN bs).length c, .int .i64 sy], .int .i64 0]) ∧ RowB w' w.heap.size v bs ∧ BS w' w'.heap.size A c (tapeN bs) ∧ Below w.heap.size w w' := by
  refine (recover_calls bs (tapeN bs).length sy A c m w (by rw [List.take_of_length_le (Nat.le_refl _)]; exact hA) hg hl (Nat.le_refl _) hs hm).mono ?_
  intro e w' h
  rw [whole_full bs _ (Nat.le_refl _)] at h
  unfold RecOk at h
  rw [List.take_length, Nat.min_eq_left hs] at h
  exact h
theorem recover_zero (bs : List BatS) (k : Nat) (A : Option Addr) (c : Nat) (m : Int) (w : World) (hA : BS w w.heap.size A c ((tapeN bs).take k)) (hg : ∀ b ∈ bs, GoodB b) (hl : bs.length ≤ 28) (hk : k ≤ (tapeN bs).length) (hm : w.cell? ⟨0, 0, none⟩ = some (.int .i64 m)) :
    Calls Tryd.prog 19 #[.agg #[.slice A k c, .int .i64 0]] w fun e w' => ∃ v A c, e = .returned (.tuple #[v, .agg #[.slice A (tapeN (bs.take (whole bs k))).length c, .int .i64 0], .int .i64 0]) ∧ RowB w' w.heap.size v (bs.take (whole bs k)) ∧ BS w' w'.heap.size A c (tapeN (bs.take (whole bs k))) ∧ Below w.heap.size w w' := by
  refine (recover_calls bs k 0 A c m w hA hg hl hk (Nat.zero_le _) hm).mono ?_
  intro e w' h
  unfold RecOk at h
  rw [Nat.zero_min] at h
  exact h
theorem recover_all0 (bs : List BatS) (A : Option Addr) (c : Nat) (m : Int) (w : World) (hA : BS w w.heap.size A c (tapeN bs)) (hg : ∀ b ∈ bs, GoodB b) (hl : bs.length ≤ 28) (hm : w.cell? ⟨0, 0, none⟩ = some (.int .i64 m)) :
    Calls Tryd.prog 19 #[.agg #[.slice A (tapeN bs).length c, .int .i64 0]] w fun e w' => ∃ v A c, e = .returned (.tuple #[v, .agg #[.slice A (tapeN bs).length c, .int .i64 0], .int .i64 0]) ∧ RowB w' w.heap.size v bs ∧ BS w' w'.heap.size A c (tapeN bs) ∧ Below w.heap.size w w' :=
  recover_all bs 0 A c m w hA hg hl (Nat.zero_le _) hm
set_option maxRecDepth 100000 in
set_option maxHeartbeats 1000000 in
theorem open_bad (w : World) :
    Calls Tryd.prog 32 #[.agg #[.slice none 0 0, .int .i64 1]] w fun e w' => e = .returned (.tuple #[.agg #[.slice none 0 0, .int .i64 0], .bool false]) ∧ Below w.heap.size w w' := by
  have hb1 : Below w.heap.size w ((w.alloc (.cells #[.slice none 0 0, .int .i64 1] 42)).alloc (.cells #[.slice none 0 0, .int .i64 0] 42)) := ((Below.refl _ w).alloc (Nat.le_refl _) _).alloc (by simp) _
  have hX := (Bk.new w [.slice none 0 0, .int .i64 1] 42).alloc (.cells #[.slice none 0 0, .int .i64 0] 42)
  have hR := Bk.new (w.alloc (.cells #[.slice none 0 0, .int .i64 1] 42)) [.slice none 0 0, .int .i64 0] 42
  rw [show (w.alloc (.cells #[.slice none 0 0, .int .i64 1] 42)).heap.size = w.heap.size + 1 by simp] at hR
  go_enter Tryd.func32, Tryd.ntmps32
  have x0 := hX.cell 0 _ rfl
  have x1 := hX.cell 1 _ rfl
  go_upto_region 2 with fail
  generalize (w.alloc (.cells #[.slice none 0 0, .int .i64 1] 42)).alloc (.cells #[.slice none 0 0, .int .i64 0] 42) = w1 at *
  have r0 := hR.cell 0 _ rfl
  have r1 := hR.cell 1 _ rfl
  have f0 := hR.frozen 0
  have f1 := hR.frozen 1
  have hZ := (hR.set 0 (.slice none 0 0)).set 1 (.int .i64 0)
  have z0 := hZ.cell 0 _ rfl
  have z1 := hZ.cell 1 _ rfl
  have hbz := (hb1.setCell (p := ⟨w.heap.size + 1, 0, none⟩) (by show w.heap.size ≤ w.heap.size + 1; omega) (.slice none 0 0)).setCell (p := ⟨w.heap.size + 1, 1, none⟩) (by show w.heap.size ≤ w.heap.size + 1; omega) (.int .i64 0)
  have Hbz := Lib.hid hbz
  clear hbz hb1 hX hR hZ
  go_wp2_with fail
  exact bodyPost_ret (v := .tuple #[.agg #[.slice none 0 0, .int .i64 0], .bool false]) (by simp [results, Tryd.results32, go_sem, z0, z1]) rfl ⟨rfl, Hbz.out⟩
set_option maxRecDepth 100000 in
set_option maxHeartbeats 1000000 in
theorem recover_bad (w : World) :
    Calls Tryd.prog 19 #[.agg #[.slice none 0 0, .int .i64 1]] w fun e w' => e = .returned (.tuple #[.slice none 0 0, .agg #[.slice none 0 0, .int .i64 0], .int .i64 11]) ∧ Below w.heap.size w w' := by
  obtain ⟨W, hW⟩ : ∃ W, W = (w.alloc (.cells #[.slice none 0 0, .int .i64 1] 42)).alloc (.cells #[.slice none 0 0, .int .i64 0] 42) := ⟨_, rfl⟩
  have hX : Bk W w.heap.size [.slice none 0 0, .int .i64 1] 42 := by rw [hW]; exact (Bk.new w [.slice none 0 0, .int .i64 1] _).alloc _
  have hR : Bk W (w.heap.size + 1) [.slice none 0 0, .int .i64 0] 42 := by
    have h := Bk.new (w.alloc (.cells #[.slice none 0 0, .int .i64 1] 42)) [.slice none 0 0, .int .i64 0] 42
    rw [show (w.alloc (.cells #[.slice none 0 0, .int .i64 1] 42)).heap.size = w.heap.size + 1 by simp] at h
    rw [hW]; exact h
  have hb1 : Below w.heap.size w W := by rw [hW]; exact ((Below.refl _ w).alloc (Nat.le_refl _) _).alloc (by simp) _
  have x0 := hX.cell 0 _ rfl
  have x1 := hX.cell 1 _ rfl
  go_enter Tryd.func19, Tryd.ntmps19
  go_wp2_with fail
  rw [← hW]
  clear hW
  refine (open_bad W).mono ?_
  rintro e w2 ⟨rfl, hb2⟩
  have hR2 := hR.later hb2
  have hb3 := btr hb1 hb2
  have hbA : Below w2.heap.size w2 (w2.alloc (.cells #[.slice none 0 0, .int .i64 0] 42)) := (Below.refl _ w2).alloc (Nat.le_refl _) _
  have hR3 := hR2.later hbA
  have hb4 := btr hb3 hbA
  clear hX hR x0 x1 hb1 hb2 hR2 hb3 hbA
  go_upto_region 3 with fail
  generalize w2.alloc (.cells #[.slice none 0 0, .int .i64 0] 42) = w3 at *
  have r0 := hR3.cell 0 _ rfl
  have r1 := hR3.cell 1 _ rfl
  have f0 := hR3.frozen 0
  have f1 := hR3.frozen 1
  have hZ := (hR3.set 0 (.slice none 0 0)).set 1 (.int .i64 0)
  have z0 := hZ.cell 0 _ rfl
  have z1 := hZ.cell 1 _ rfl
  have hbz := (hb4.setCell (p := ⟨w.heap.size + 1, 0, none⟩) (by show w.heap.size ≤ w.heap.size + 1; omega) (.slice none 0 0)).setCell (p := ⟨w.heap.size + 1, 1, none⟩) (by show w.heap.size ≤ w.heap.size + 1; omega) (.int .i64 0)
  have Hbz := Lib.hid hbz
  clear hbz hR3 hZ hb4
  go_wp2_with fail
  exact bodyPost_ret (v := .tuple #[.slice none 0 0, .agg #[.slice none 0 0, .int .i64 0], .int .i64 11]) (by simp [results, Tryd.results19, go_sem, z0, z1]) rfl ⟨rfl, Hbz.out⟩
/-- Bytes are not touched by what is written into a block that holds none. -/
theorem BS.setT {W : World} {B c q : Nat} {A : Option Addr} {l : List UInt8} {cs : List Value} {t : TypeId} (h : BS W B A c l) (hb : Bk W q cs t) (hcs : ∀ v ∈ cs, ∀ x, v ≠ .int .u8 x) (j : Nat) (u : Value) : BS (W.setCell ⟨q, j, none⟩ u) B A c l := by
  refine ⟨h.1, ?_⟩
  rcases h.2 with h | ⟨b, off, e, hlt, hc⟩
  · exact .inl h
  · refine .inr ⟨b, off, e, hlt, fun i hi => ?_⟩
    have h1 := hc i hi
    by_cases hbq : q = b
    · subst hbq
      exfalso
      simp [World.cell?, show W.heap[q]? = _ from hb] at h1
      exact hcs _ (List.mem_of_getElem? h1) _ rfl
    · exact (World.cell?_setCell_far _ _ _ _ hbq).trans h1
/-- What stands behind Crash: the new tape in a block of its own. -/
structure CrK (wr W : World) (q : Nat) (A9 : Option Addr) (c9 n9 : Nat) (xs : List UInt8) : Prop where
  b : Bk W q [.slice A9 n9 c9, .int .i64 n9] 42
  l : Below wr.heap.size wr W
  q : wr.heap.size ≤ q
  o : BS W W.heap.size A9 c9 xs
theorem cr_set {wr w9 : World} {q n9 c9 : Nat} {A9 : Option Addr} {xs : List UInt8} (hd : Below wr.heap.size wr w9) (hB : Bk w9 q [.slice none 0 0, .int .i64 0] 42) (ho : BS w9 w9.heap.size A9 c9 xs) (hq : wr.heap.size ≤ q) :
    CrK wr ((w9.setCell ⟨q, 0, none⟩ (.slice A9 n9 c9)).setCell ⟨q, 1, none⟩ (.int .i64 n9)) q A9 c9 n9 xs :=
  ⟨(hB.set 0 _).set 1 _, (hd.setCell (p := ⟨q, 0, none⟩) hq _).setCell (p := ⟨q, 1, none⟩) hq _, hq, ((ho.setT hB (by simp) 0 _).setT (hB.set 0 _) (by simp) 1 _).mono (by simp)⟩
theorem cr_new {wr w9 : World} {n9 c9 : Nat} {A9 : Option Addr} {xs : List UInt8} (hd : Below wr.heap.size wr w9) (ho : BS w9 w9.heap.size A9 c9 xs) :
    CrK wr (w9.alloc (.cells #[.slice A9 n9 c9, .int .i64 n9] 42)) w9.heap.size A9 c9 n9 xs :=
  ⟨Bk.new w9 [.slice A9 n9 c9, .int .i64 n9] _, hd.alloc hd.size _, hd.size, ho.later ((Below.refl _ w9).alloc (Nat.le_refl _) _)⟩
/-- Sync of a tape of which nothing is synced. -/
theorem sync_zero (A : Option Addr) (c : Nat) (l : List UInt8) (w : World) (hA : BS w w.heap.size A c l) (hl : l.length ≤ 100000) :
    Calls Tryd.prog 23 #[.agg #[.slice A l.length c, .int .i64 0]] w fun e w' => ∃ A c, e = .returned (.tuple #[.agg #[.slice A l.length c, .int .i64 l.length], .int .i64 0]) ∧ w'.ownsRow w.heap.size 5 1 (.slice A l.length c) l.length (u8s l) ∧ Below w.heap.size w w' :=
  sync_calls A c l 0 w hA hl (Nat.zero_le _)
/-- Crash of a tape of which all is synced. -/
theorem crash_all (A : Option Addr) (c : Nat) (l : List UInt8) (keep : Nat) (w : World) (hA : BS w w.heap.size A c l) (hl : l.length ≤ 100000) (hk : keep ≤ 100000) :
    Calls Tryd.prog 21 #[.agg #[.slice A l.length c, .int .i64 l.length], .int .i64 keep] w fun e w' => ∃ A c, e = .returned (.tuple #[.agg #[.slice A l.length c, .int .i64 l.length], .int .i64 0]) ∧ BS w' w'.heap.size A c l ∧ Below w.heap.size w w' := by
  refine (crash_calls A c l l.length keep w hA hl (Nat.le_refl _) hk).mono ?_
  intro e w' h
  unfold CrashOk at h
  rw [Nat.sub_self, Nat.min_zero, Nat.add_zero, List.take_length] at h
  exact h
theorem crash_zero (A : Option Addr) (c : Nat) (l : List UInt8) (keep k : Nat) (w : World) (hA : BS w w.heap.size A c l) (hl : l.length ≤ 100000) (hk : keep ≤ 100000) (hkk : k = min keep l.length) :
    Calls Tryd.prog 21 #[.agg #[.slice A l.length c, .int .i64 0], .int .i64 keep] w fun e w' => ∃ A c, e = .returned (.tuple #[.agg #[.slice A k c, .int .i64 k], .int .i64 0]) ∧ BS w' w'.heap.size A c (l.take k) ∧ Below w.heap.size w w' := by
  refine (crash_calls A c l 0 keep w hA hl (Nat.zero_le _) hk).mono ?_
  intro e w' h
  unfold CrashOk at h
  rw [Nat.zero_add, Nat.sub_zero, ← hkk] at h
  exact h
/-- Crash of a tape of which so many bytes are synced. -/
theorem crash_part (A : Option Addr) (c : Nat) (l : List UInt8) (sy keep k : Nat) (w : World) (hA : BS w w.heap.size A c l) (hl : l.length ≤ 100000) (hs : sy ≤ l.length) (hk : keep ≤ 100000) (hkk : k = sy + min keep (l.length - sy)) :
    Calls Tryd.prog 21 #[.agg #[.slice A l.length c, .int .i64 sy], .int .i64 keep] w fun e w' => ∃ A c, e = .returned (.tuple #[.agg #[.slice A k c, .int .i64 k], .int .i64 0]) ∧ BS w' w'.heap.size A c (l.take k) ∧ Below w.heap.size w w' := by
  refine (crash_calls A c l sy keep w hA hl hs hk).mono ?_
  intro e w' h
  unfold CrashOk at h
  rw [← hkk] at h
  exact h
/-- Recover of a tape that was cut behind its synced bytes. -/
theorem recover_cut (bs : List BatS) (k : Nat) (A : Option Addr) (c : Nat) (m : Int) (w : World) (hA : BS w w.heap.size A c ((tapeN bs).take k)) (hg : ∀ b ∈ bs, GoodB b) (hl : bs.length ≤ 28) (hk : k ≤ (tapeN bs).length) (hm : w.cell? ⟨0, 0, none⟩ = some (.int .i64 m)) :
    Calls Tryd.prog 19 #[.agg #[.slice A k c, .int .i64 k]] w fun e w' => ∃ v A c, e = .returned (.tuple #[v, .agg #[.slice A (tapeN (bs.take (whole bs k))).length c, .int .i64 (tapeN (bs.take (whole bs k))).length], .int .i64 0]) ∧ RowB w' w.heap.size v (bs.take (whole bs k)) ∧ BS w' w'.heap.size A c (tapeN (bs.take (whole bs k))) ∧ Below w.heap.size w w' := by
  refine (recover_calls bs k k A c m w hA hg hl hk (Nat.le_refl _) hm).mono ?_
  intro e w' h
  unfold RecOk at h
  rw [Nat.min_eq_right (whole_len bs k)] at h
  exact h
theorem crash_zero_bad (A : Option Addr) (c : Nat) (l : List UInt8) (w : World) (hA : BS w w.heap.size A c l) (hl : l.length ≤ 100000) :
    Calls Tryd.prog 21 #[.agg #[.slice A l.length c, .int .i64 0], .int .i64 (-1)] w fun e w' => e = .returned (.tuple #[.agg #[.slice none 0 0, .int .i64 0], .int .i64 6]) ∧ Below w.heap.size w w' :=
  crash_bad A c l 0 w hA hl (Nat.zero_le _)
/-- What stands behind Append: the new tape in a block of its own. -/
structure TpS (wr W : World) (q : Nat) (A9 : Option Addr) (c9 n9 sy : Nat) (xs : List Value) : Prop where
  b : Bk W q [.slice A9 n9 c9, .int .i64 sy] 42
  l : Below wr.heap.size wr W
  q : wr.heap.size ≤ q
  o : W.ownsRow wr.heap.size 5 1 (.slice A9 n9 c9) n9 xs
theorem ts_set {wr w9 : World} {q n9 c9 : Nat} (sy : Nat) {A9 : Option Addr} {xs : List Value} (hd : Below wr.heap.size wr w9) (hB : Bk w9 q [.slice none 0 0, .int .i64 0] 42) (ho : w9.ownsRow wr.heap.size 5 1 (.slice A9 n9 c9) n9 xs) (hq : wr.heap.size ≤ q) :
    TpS wr ((w9.setCell ⟨q, 0, none⟩ (.slice A9 n9 c9)).setCell ⟨q, 1, none⟩ (.int .i64 sy)) q A9 c9 n9 sy xs :=
  ⟨(hB.set 0 _).set 1 _, (hd.setCell (p := ⟨q, 0, none⟩) hq _).setCell (p := ⟨q, 1, none⟩) hq _, hq, own_set (own_set ho hB (by decide) 0 _) (hB.set 0 _) (by decide) 1 _⟩
theorem ts_new {wr w9 : World} {n9 c9 : Nat} (sy : Nat) {A9 : Option Addr} {xs : List Value} (hd : Below wr.heap.size wr w9) (ho : w9.ownsRow wr.heap.size 5 1 (.slice A9 n9 c9) n9 xs) :
    TpS wr (w9.alloc (.cells #[.slice A9 n9 c9, .int .i64 sy] 42)) w9.heap.size A9 c9 n9 sy xs :=
  ⟨Bk.new w9 [.slice A9 n9 c9, .int .i64 sy] _, hd.alloc hd.size _, hd.size, row_later ((Below.refl _ w9).alloc (Nat.le_refl _) _) ho⟩
theorem tape_mono (bs : List BatS) {i j : Nat} (h : i ≤ j) : (tapeN (bs.take i)).length ≤ (tapeN (bs.take j)).length := by
  have e : bs.take j = bs.take i ++ (bs.take j).drop i := by
    conv => lhs; rw [← List.take_append_drop i (bs.take j)]
    rw [List.take_take, Nat.min_eq_left h]
  rw [e, tapeN_append, List.length_append]
  omega
theorem good_take {bs : List BatS} (h : ∀ b ∈ bs, GoodB b) (k : Nat) : ∀ b ∈ bs.take k, GoodB b := fun b hb => h b (List.mem_of_mem_take hb)
theorem take_pre (bs : List BatS) (j : Nat) : ∀ (k : Nat) b, (bs.take j)[k]? = some b → bs[k]? = some b := fun k b h => by
  rw [List.getElem?_take] at h
  split at h
  · exact h
  · cases h
/-- Are all there? Just if no byte is lacking. -/
theorem whole_iff (bs : List BatS) (k : Nat) (hk : k ≤ (tapeN bs).length) : ((bs.take (whole bs k)).length = bs.length) ↔ k = (tapeN bs).length := by
  have hw := whole_le bs k
  rw [List.length_take, Nat.min_eq_left hw]
  constructor
  · intro h
    have := whole_all bs k h
    omega
  · intro h
    exact whole_full bs k (by omega)
end Go.Proofs.YtpncahklapfoaaaDoor
