/- More words for the laws on states: Size, places of boxes and mails. -/
import Derived.Test.YtbddahdkjngecaaDoorBoxLaw
namespace Go.Proofs.YtbddahdkjngecaaDoor
open Go.RowKit
set_option linter.unusedVariables false

theorem Vld.okS {s : StS} (h : Vld s) : OkS s := check_ok s ((vld_iff s).2 h)
set_option maxRecDepth 100000 in
set_option maxHeartbeats 2000000 in
theorem sizeV_calls (s : StS) (hv : Vld s) (A A2 : Option Addr) (c c2 : Nat) (m : Int) (w : World) (hA : StAt w A c A2 c2 s) (hm : w.cell? ⟨0, 0, none⟩ = some (.int .i64 m)) :
    Calls Tryd.prog 18 #[.agg #[.slice A s.boxes.length c, .slice A2 s.spool.length c2]] w fun e w' => e = .returned (.tuple #[.int .i64 (sizeR s), .int .i64 0]) ∧ Below w.heap.size w w' := by
  have hb1 : Below w.heap.size w (w.alloc (.cells #[.slice A s.boxes.length c, .slice A2 s.spool.length c2] 28)) := (Below.refl _ w).alloc (Nat.le_refl _) _
  have hX := Bk.new w [.slice A s.boxes.length c, .slice A2 s.spool.length c2] 28
  have hck := checkS_calls s A A2 c c2 m _ (hA.later hb1) hv.okC (cell_later hb1 hm)
  have hsz := fun W (hW : StAt W A c A2 c2 s) => size_calls s A c (.slice A2 s.spool.length c2) W hW.bx hv.okS.z
  have HA := Lib.hid hA
  have Hck := Lib.hid hck
  have Hsz := Lib.hid hsz
  have Hz := Lib.hid ((vld_iff s).2 hv)
  have x0 := hX.cell 0 _ rfl
  have x1 := hX.cell 1 _ rfl
  clear hck hsz hA hv hm
  go_enter Tryd.func18, Tryd.ntmps18
  go_wp2_with fail
  generalize w.alloc (.cells #[.slice A s.boxes.length c, .slice A2 s.spool.length c2] 28) = w1 at *
  refine Hck.out.mono ?_
  rintro e w2 ⟨rfl, hb2⟩
  have hX2 := hX.later hb2
  have hb3 := bel_tr hb1 hb2
  have hs := Hsz.out _ (HA.out.later hb3)
  have Hs := Lib.hid hs
  clear hs Hsz Hck hX x0 x1 hb1 hb2
  have x0 := hX2.cell 0 _ rfl
  have x1 := hX2.cell 1 _ rfl
  rw [Hz.out]
  go_wp2_with fail
  refine Hs.out.mono ?_
  rintro e w3 ⟨rfl, hb4⟩
  have Hb5 := Lib.hid (bel_tr hb3 hb4)
  clear hX2 hb3 hb4 x0 x1 Hs
  go_wp2_with fail
  exact bodyPost_ret (v := .tuple #[.int .i64 (sizeR s), .int .i64 0]) (by simp [results, Tryd.results18, go_sem]) rfl ⟨rfl, Hb5.out⟩
theorem findR_names (l : List BoxS) (n : ByteArray) : findR l n = idxR (fun x => decide (x = n)) (l.map (·.name)) := by
  unfold findR idxR
  rw [List.findIdx_map, List.length_map]
  rfl
theorem find_set (l : List BoxS) (i : Nat) (b b' : BoxS) (h : l[i]? = some b) (hn : b'.name = b.name) (n : ByteArray) : findR (l.set i b') n = findR l n := by
  rw [findR_names, findR_names, names_set l i b b' h hn]
theorem idx_uids (l : List MailS) (u : Int) : idxR (uidB u) l = idxR (fun x => decide (x = u)) (l.map (·.uid)) := by
  unfold idxR
  rw [List.findIdx_map, List.length_map]
  rfl
theorem uid_set (l : List MailS) (i : Nat) (m m' : MailS) (h : l[i]? = some m) (hn : m'.uid = m.uid) (u : Int) : idxR (uidB u) (l.set i m') = idxR (uidB u) l := by
  rw [idx_uids, idx_uids, List.map_set, hn, set_same _ i _ (by simp [h])]
theorem uid_at (ms : List MailS) (hp : (ms.map (·.uid)).Pairwise (· < ·)) (k : Nat) (h : k < ms.length) (u : Int) : ms[k].uid = u ↔ idxR (uidB u) ms = k := by
  constructor
  · intro hu
    refine idxR_hit _ ms k h (by unfold uidB; simpa using hu) fun j hj hjk => ?_
    have := List.pairwise_iff_getElem.1 hp j k (by simpa using hj) (by simpa using h) hjk
    simp only [List.getElem_map] at this
    unfold uidB
    rw [decide_eq_false_iff_not]
    omega
  · intro hk
    unfold idxR at hk
    by_cases hl : ms.findIdx (uidB u) < ms.length
    · rw [if_pos hl] at hk
      have hf : ms.findIdx (uidB u) = k := by omega
      have := List.findIdx_getElem (w := hl)
      simp only [hf] at this
      unfold uidB at this
      simpa using this
    · rw [if_neg hl] at hk; omega
theorem find_box {l : List BoxS} {n : ByteArray} (h : 0 ≤ findR l n) : ∃ (i : Nat) (b : BoxS), findR l n = i ∧ i < l.length ∧ l[i]? = some b := by
  have hl := (idxR_lt (fun b : BoxS => decide (b.name = n)) l).2.2 h
  refine ⟨(findR l n).toNat, l[(findR l n).toNat]'hl, by omega, hl, List.getElem?_eq_getElem _⟩
theorem idx_mail {l : List MailS} {u : Int} (h : 0 ≤ idxR (uidB u) l) : ∃ (i : Nat) (m : MailS), idxR (uidB u) l = i ∧ i < l.length ∧ l[i]? = some m := by
  have hl := (idxR_lt (uidB u) l).2.2 h
  refine ⟨(idxR (uidB u) l).toNat, l[(idxR (uidB u) l).toNat]'hl, by omega, hl, by simp [List.getElem?_eq_getElem hl]⟩
end Go.Proofs.YtbddahdkjngecaaDoor
