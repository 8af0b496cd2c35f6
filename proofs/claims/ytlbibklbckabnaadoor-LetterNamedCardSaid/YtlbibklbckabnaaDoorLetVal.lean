/- The function Values of package letter, and the helper sameTexts of the statements. -/
import Derived.Test.YtlbibklbckabnaaDoorLetLaw2
import Derived.Test.YtlbibklbckabnaaDoorGlobFold
namespace Go.Proofs.YtlbibklbckabnaaDoor
open Go.RowKit
set_option linter.unusedVariables false

set_option maxRecDepth 100000 in
set_option maxHeartbeats 4000000 in
theorem match_isL (s p : ByteArray) (w : World) (hs : s.size ≤ 2000) (hp : p.size ≤ 100) :
    Calls Tryd.prog 41 #[.int .i64 1, .string s, .string p] w fun e w' => e = .returned (.tuple #[.bool ((foldB s).toList == (foldB p).toList), .int .i64 0]) ∧ Below w.heap.size w w' := by
  go_enter Tryd.func41, Tryd.ntmps41
  go_wp2_with fail
  refine (fold_calls s _ (by omega)).mono ?_
  rintro e w1 ⟨rfl, hb1⟩
  go_wp2_with fail
  refine (fold_calls p _ (by omega)).mono ?_
  rintro e w2 ⟨rfl, hb2⟩
  go_wp2
  go_ret2
  exact ⟨rfl, hb1.trans (hb2.mono hb1.size)⟩
/-- Is a field's name this one, of great or small letters? -/
def fitsN (n : ByteArray) (f : Fld) : Bool := (foldB f.name).toList == (foldB n).toList
def pickV (n : ByteArray) (fs : List Fld) : List ByteArray := (fs.filter (fitsN n)).map (·.value)
theorem pickV_snoc (n : ByteArray) (fs : List Fld) (f : Fld) : pickV n (fs ++ [f]) = if fitsN n f = true then pickV n fs ++ [f.value] else pickV n fs := by
  unfold pickV
  rw [List.filter_append, List.map_append]
  by_cases h : fitsN n f = true
  · rw [if_pos h, List.filter_cons_of_pos h]; rfl
  · rw [if_neg h, List.filter_cons_of_neg h]; simp
theorem pickV_len (n : ByteArray) (fs : List Fld) : (pickV n fs).length ≤ fs.length := by
  unfold pickV; rw [List.length_map]; exact List.length_filter_le _ _
def strVs (l : List ByteArray) : List Value := l.map Value.string
theorem info_str : (Tryd.prog.info? 9).map (fun i => (i.zero, i.size, i.bytes)) = some (some (.string ByteArray.empty), 1, 16) := by kernel_rfl
theorem row_strs {w : World} {base n : Nat} {v : Value} {l : List ByteArray} (h : w.ownsRow base 9 1 v n (strVs l)) (hl : l.length = n) (hs : ∀ s ∈ l, s.size ≤ 100000) :
    ∃ A c, v = .slice A n c ∧ Rk.str.Row w A l := by
  by_cases h0 : l = []
  · obtain ⟨A, c, rfl⟩ := own_slice h
    exact ⟨A, c, rfl, .inl h0⟩
  · obtain ⟨g, c, rfl⟩ := own_ptr h (by have := List.length_pos_iff.2 h0; omega)
    refine ⟨_, c, rfl, .inr ⟨g, 0, rfl, fun j hj => ?_⟩⟩
    have k1 := (h.cellAt j (by omega)).trans (show (strVs l)[j]? = some (.string l[j]) by unfold strVs; rw [List.getElem?_map, List.getElem?_eq_getElem hj]; rfl)
    have s1 := hs l[j] (List.getElem_mem hj)
    refine ⟨[.string l[j]], ⟨rfl, by unfold maxLen; omega⟩, ?_⟩
    intro i u hu
    match i, hu with
    | 0, hu =>
      simp at hu
      subst hu
      rw [show 0 + (j * Rk.str.sz + 0) = j by show 0 + (j * 1 + 0) = j; omega]
      exact k1
    | i + 1, hu => simp at hu
set_option maxRecDepth 100000 in
set_option maxHeartbeats 8000000 in
theorem values_calls (fs : List Fld) (A : Option Addr) (c : Nat) (body n : ByteArray) (m : Int) (w : World) (hA : kLin.Row w A fs) (hok : ∀ f ∈ fs, MayF f) (h30 : fs.length ≤ 30) (hsz : (showL fs (bs body)).length ≤ 2000) (hn : n.size ≤ 100) (hm : w.cell? ⟨0, 0, none⟩ = some (.int .i64 m)) :
    Calls Tryd.prog 27 #[.agg #[.slice A fs.length c, .string body], .string n] w fun e w' => ∃ v, e = .returned (.tuple #[v, .int .i64 0]) ∧ w'.ownsRow w.heap.size 9 1 v (pickV n fs).length (strVs (pickV n fs)) ∧ Below w.heap.size w w' := by
  obtain ⟨i0, hi, hz0, hz1, hz2⟩ := info_parts info_str
  have hb0 : Below w.heap.size w (w.alloc (.cells #[.slice A fs.length c, .string body] 45)) := (Below.refl _ w).alloc (Nat.le_refl _) _
  have hM0 : MB (w.alloc (.cells #[.slice A fs.length c, .string body] 45)) w.heap.size (.slice A fs.length c) body := World.alloc_heap_new w _
  have hck := check_msg fs A c body m _ (hA.later hb0) hok h30 (by omega) (cell_later hb0 hm)
  have hch : chkR (showL fs (bs body)).length = 0 := by unfold chkR; rw [if_neg (by omega)]
  rw [hch] at hck
  have HCk := Lib.hid hck
  have hsum : ∀ f ∈ fs, f.name.size ≤ 2000 := by
    intro f hf
    obtain ⟨k, hk, rfl⟩ := List.getElem_of_mem hf
    have h1 := fldsL_take fs k hk
    have h2 := fldsL_le fs (k + 1)
    rw [h1, List.length_append, fldL_len] at h2
    rw [showL_len] at hsz
    omega
  have Hsum := Lib.hid hsum
  go_enter Tryd.func27, Tryd.ntmps27
  clear hck hch hok hsum hsz
  go_wp2_with fail
  generalize w.alloc (.cells #[.slice A fs.length c, .string body] 45) = W0 at *
  refine HCk.out.mono ?_
  rintro e w1 ⟨rfl, hb1⟩
  have hM1 := hM0.below hb1 hM0.lt
  have m0 := hM1.c0
  have m1 := hM1.c1
  have hbw1 := hb0.trans (hb1.mono hb0.size)
  have Hbw1 := Lib.hid hbw1
  clear hb0 hM0 hb1 hM1 hbw1 HCk hm
  go_wp2_with fail
  clear m0 m1
  go_loopw [7, 20] (fun v t wr => ∃ k : Nat, k ≤ fs.length ∧ t = .int .i64 k ∧ wr.ownsRow w.heap.size 9 1 v (pickV n (fs.take k)).length (strVs (pickV n (fs.take k))) ∧ Hid (Below w.heap.size w wr)) (fun _ t _ => fs.length - (intOf t).toNat)
  case atStart => exact ⟨0, Nat.zero_le _, rfl, World.ownsRow_nil _ _ _ _, Hbw1⟩
  case round =>
    obtain ⟨k, hk, rfl, hrow, Hb⟩ := hrel
    clear Hbw1
    have Row := Lib.hid hrow
    by_cases hlt : k < fs.length
    · have hget : fs[k]? = some fs[k] := List.getElem?_eq_getElem hlt
      obtain ⟨g, off, rfl, c0, c1⟩ := row_cells (hA.later Hb.out) hget
      have hnm := Hsum.out fs[k] (List.getElem_mem hlt)
      have hst := pickV_snoc n (fs.take k) fs[k]
      rw [← List.take_succ_eq_append_getElem hlt] at hst
      have hpl : (pickV n (fs.take k)).length ≤ 30 := by have := pickV_len n (fs.take k); rw [List.length_take] at this; omega
      clear hget hrow
      generalize fs[k] = z at *
      have hma := fun W => match_isL z.name n W hnm hn
      have HMa := Lib.hid hma
      have hk0 : (0 : Int) ≤ (k : Int) := by omega
      have hkn : (k : Int) < (fs.length : Int) := by omega
      have hba : Below wr.heap.size wr (wr.alloc (.cells #[.string z.name, .string z.value] 48)) := (Below.refl _ wr).alloc (Nat.le_refl _) _
      have f1 : (wr.alloc (.cells #[.string z.name, .string z.value] 48)).cell? ⟨wr.heap.size, 1, none⟩ = some (.string z.value) := by rw [World.cell?_alloc_at _ _ _ _ rfl]; rfl
      have Hba := Lib.hid hba
      obtain ⟨fit, hfit⟩ : ∃ fit, fitsN n z = fit := ⟨_, rfl⟩
      have hf2 : ((foldB z.name).toList == (foldB n).toList) = fit := hfit
      have HF2 := Lib.hid hf2
      rw [hfit] at hst
      have Hst := Lib.hid hst
      clear hma hba hfit hf2 hst
      go_wp2_with fail
      generalize wr.alloc (.cells #[.string z.name, .string z.value] 48) = wa at *
      refine (HMa.out _).mono ?_
      rintro e w2 ⟨rfl, hb2⟩
      rw [HF2.out]
      have f2 := cell_later hb2 f1
      have hrow2 := ownsRow_laterE hb2 (ownsRow_laterE Hba.out Row.out)
      have hsw : w.heap.size ≤ wr.heap.size := Hb.out.size
      have hsw2 : w.heap.size ≤ wa.heap.size := Nat.le_trans hsw Hba.out.size
      have hb3 := (Hb.out.trans (Hba.out.mono hsw)).trans (hb2.mono hsw2)
      have Hb3 := Lib.hid hb3
      have hsw3 := hb3.size
      clear HMa hb2 hb3 f1
      cases fit with
      | false =>
        have Row2 := Lib.hid hrow2
        clear hrow2
        go_wp2
        go_roundw
        case rel => exact ⟨k + 1, by omega, by go_num, by rw [Hst.out]; exact Row2.out, Hb3⟩
        case measure => simp [intOf]; omega
      | true =>
        go_wp2_with (at_builtin; refine wpList_append_own _ rfl _ _ 39 rfl w.heap.size 9 i0 (.string ByteArray.empty) 1 16 Tryd.underlying39 hi hz0 hz1 hz2 rfl (by decide) _ _ _ rfl (hrow2.alloc _) ⟨w2.heap.size, 0, none⟩ 1 1 [.string z.value] rfl rfl (new_cells _ [.string z.value] _) (by simp [Value.oneCell']) (by unfold maxLen; omega) (by omega) (by simp; omega) ?_; intro v' w4 hown' hgrow _; have Hb4 := Lib.hid (below_append Hb3.out hsw3 hrow2 hgrow); have Row4 := Lib.hid hown'; clear hown' hgrow)
        go_roundw
        case rel => exact ⟨k + 1, by omega, by go_num, by rw [Hst.out, if_pos trivial, List.length_append]; show World.ownsRow _ _ _ _ _ _ (strVs (pickV n (fs.take k) ++ [z.value])); unfold strVs; rw [List.map_append]; exact Row4.out, Hb4⟩
        case measure => simp [intOf]; omega
    · obtain rfl : k = fs.length := by omega
      rw [List.take_length] at hrow
      have Row2 := Lib.hid hrow
      clear hrow Row
      go_wp2
      go_ret2
      exact ⟨_, rfl, Row2.out, Hb.out⟩
theorem str_cell {W : World} {A : Option Addr} {l : List ByteArray} {k : Nat} {z : ByteArray} (h : Rk.str.Row W A l) (hk : l[k]? = some z) : ∃ g off, A = some ⟨g, off, none⟩ ∧ W.cell? ⟨g, off + k, none⟩ = some (.string z) := by
  obtain ⟨hlt, rfl⟩ := List.getElem?_eq_some_iff.1 hk
  obtain ⟨g, off, e, cs, ⟨rfl, _⟩, hcs⟩ := h.get k hlt
  have h0 := hcs 0 _ rfl
  rw [show off + (k * Rk.str.sz + 0) = off + k by show off + (k * 1 + 0) = _; omega] at h0
  exact ⟨g, off, e, h0⟩
set_option maxRecDepth 100000 in
set_option maxHeartbeats 4000000 in
theorem same_texts (l : List ByteArray) (A B : Option Addr) (c d : Nat) (w : World) (hA : Rk.str.Row w A l) (hB : Rk.str.Row w B l) (h30 : l.length ≤ 100000) :
    Calls Tryd.prog 28 #[.slice A l.length c, .slice B l.length d] w fun e w' => e = .returned (.bool true) ∧ Below w.heap.size w w' := by
  go_enter Tryd.func28, Tryd.ntmps28
  go_wp2_with fail
  go_loopw [5] (fun t wr => ∃ k : Nat, k ≤ l.length ∧ t = .int .i64 k ∧ Hid (Below w.heap.size w wr)) (fun t _ => l.length - (intOf t).toNat)
  case atStart => exact ⟨0, Nat.zero_le _, rfl, Lib.hid (Below.refl _ _)⟩
  case round =>
    obtain ⟨k, hk, rfl, Hb⟩ := hrel
    by_cases hlt : k < l.length
    · have hget : l[k]? = some l[k] := List.getElem?_eq_getElem hlt
      obtain ⟨g, off, rfl, c0⟩ := str_cell (hA.later Hb.out) hget
      obtain ⟨g2, off2, rfl, e0⟩ := str_cell (hB.later Hb.out) hget
      clear hget
      generalize l[k] = z at *
      have hk0 : (0 : Int) ≤ (k : Int) := by omega
      have hkn : (k : Int) < (l.length : Int) := by omega
      go_wp2_with fail
      go_quiet (fail)
      go_wp2
      go_roundw
      case rel => exact ⟨k + 1, by omega, by go_num, Lib.hid (bel_dN Hb.out _)⟩
      case measure => simp [intOf]; omega
    · obtain rfl : k = l.length := by omega
      go_wp2
      go_ret
      exact ⟨rfl, Hb.out⟩
end Go.Proofs.YtlbibklbckabnaaDoor
