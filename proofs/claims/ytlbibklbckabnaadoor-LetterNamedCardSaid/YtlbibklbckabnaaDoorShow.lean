/- The functions show, Check and Show of package letter at messages whose fields may be. -/
import Derived.Test.YtlbibklbckabnaaDoorBuild
import Derived.Test.YtlbibklbckabnaaDoorLetLaw
import Derived.Deep.RegionHeld3
namespace Go.Proofs.YtlbibklbckabnaaDoor
open Go.RowKit
set_option linter.unusedVariables false

theorem fldsL_take (fs : List Fld) (k : Nat) (h : k < fs.length) : fldsL (fs.take (k + 1)) = fldsL (fs.take k) ++ fldL fs[k] := by
  unfold fldsL
  rw [List.take_succ_eq_append_getElem h, List.flatMap_append, List.flatMap_cons, List.flatMap_nil, List.append_nil]
theorem fldsL_le (fs : List Fld) (k : Nat) : (fldsL (fs.take k)).length ≤ (fldsL fs).length := by
  conv => rhs; rw [← List.take_append_drop k fs]
  unfold fldsL
  rw [List.flatMap_append, List.length_append]
  omega
theorem fldL_len (f : Fld) : (fldL f).length = f.name.size + f.value.size + 4 := by
  unfold fldL
  simp only [List.length_append, List.length_cons, List.length_nil, bs_len]
  omega
theorem showL_len (fs : List Fld) (body : List UInt8) : (showL fs body).length = (fldsL fs).length + 2 + body.length := by
  unfold showL
  simp only [List.length_append, List.length_cons]
  omega
theorem fld_bytes (z : Fld) : bs (z.name ++ ⟨#[58, 32]⟩ ++ z.value ++ ⟨#[13, 10]⟩) = fldL z := by
  rw [bs_append, bs_append, bs_append]
  show bs z.name ++ [58, 32] ++ bs z.value ++ [13, 10] = _
  simp [fldL]

theorem cellB {w w' : World} {a : Addr} {v : Value} (hb : Below w.heap.size w w') (h : w.cell? a = some v) : w'.cell? a = some v := cell_later hb h
def BldF (B b : Nat) (l : List UInt8) (W : World) : Prop := Lib.IsBuilderF 92 5 B b (Lib.byteCells l) W
theorem string_keep (l : List UInt8) (w W : World) (body : ByteArray) (hS : W.cell? ⟨w.heap.size, 1, none⟩ = some (.string body) ∧ Below w.heap.size w W ∧ BldF (w.heap.size + 1) (w.heap.size + 1) l W ∧ w.heap.size + 2 ≤ W.heap.size) :
    Calls Tryd.prog 56 #[.pointer (some ⟨w.heap.size + 1, 0, none⟩)] W fun e w' => e = .returned (.string (mkS l)) ∧ (w'.cell? ⟨w.heap.size, 1, none⟩ = some (.string body) ∧ Below w.heap.size w w' ∧ BldF (w.heap.size + 1) (w.heap.size + 1) l w' ∧ w.heap.size + 2 ≤ w'.heap.size) := by
  obtain ⟨h, hb, hF, hz⟩ := hS
  refine (Tryd.Builder_String_any_f _ _ l W hF (by omega)).mono ?_
  rintro e w' ⟨he, hF2, hb2⟩
  have h2 := hb2.block w.heap.size (Nat.lt_succ_self _)
  refine ⟨he, ?_, hb.trans (hb2.mono (by omega)), hF2, Nat.le_trans hz hb2.size⟩
  rw [show w'.cell? ⟨w.heap.size, 1, none⟩ = W.cell? ⟨w.heap.size, 1, none⟩ by simp [World.cell?, h2]]
  exact h
set_option maxRecDepth 100000 in
set_option maxHeartbeats 8000000 in
theorem show_calls (fs : List Fld) (A : Option Addr) (c : Nat) (body : ByteArray) (w : World) (hA : kLin.Row w A fs) (hsz : (showL fs (bs body)).length ≤ 100000) :
    Calls Tryd.prog 39 #[.agg #[.slice A fs.length c, .string body]] w fun e w' => e = .returned (.string (mkS (showL fs (bs body)))) ∧ Below w.heap.size w w' := by
  rw [showL_len, bs_len] at hsz
  have hn30 : fs.length ≤ 100000 := by
    have h : ∀ l : List Fld, l.length ≤ (fldsL l).length := by
      intro l
      induction l with
      | nil => exact Nat.zero_le _
      | cons f l ih => unfold fldsL at ih ⊢; rw [List.flatMap_cons, List.length_append, fldL_len, List.length_cons]; omega
    have := h fs
    omega
  have hbod : body.size ≤ 100000 := by omega
  have hfl : (fldsL fs).length ≤ 100000 := by omega
  have Hsz := Lib.hid hsz
  go_enter Tryd.func39, Tryd.ntmps39
  go_wp2_with fail
  obtain ⟨W0, hW0⟩ : ∃ W0 : World, W0 = (w.alloc (.cells #[.slice A fs.length c, .string body] 45)).alloc (.cells #[.pointer none, .slice none 0 0] 92) := ⟨_, rfl⟩
  have hsA : (w.alloc (.cells #[.slice A fs.length c, .string body] 45)).heap.size = w.heap.size + 1 := by simp
  have hbA : Below w.heap.size w (w.alloc (.cells #[.slice A fs.length c, .string body] 45)) := (Below.refl _ w).alloc (Nat.le_refl _) _
  have hbB : Below (w.heap.size + 1) (w.alloc (.cells #[.slice A fs.length c, .string body] 45)) W0 := by rw [hW0, ← hsA]; exact (Below.refl _ _).alloc (Nat.le_refl _) _
  have hB0 : Bld (w.heap.size + 1) (w.heap.size + 1) [] W0 := by
    have h := Lib.fresh_isBuilder 92 5 (w.alloc (.cells #[.slice A fs.length c, .string body] 45))
    rw [hsA] at h
    rw [hW0]
    exact h
  have hM0 : MB W0 w.heap.size (.slice A fs.length c) body := (hbB.block w.heap.size (by omega)).trans (World.alloc_heap_new w _)
  have hb0 : Below w.heap.size w W0 := hbA.trans (hbB.mono (by omega))
  have hz0 : w.heap.size + 2 ≤ W0.heap.size := by rw [hW0]; simp
  rw [← hW0]
  clear hW0 hsA hbA hbB
  go_loopw [9] (fun t wr => ∃ k : Nat, k ≤ fs.length ∧ t = .int .i64 k ∧ Hid (Bld (w.heap.size + 1) (w.heap.size + 1) (fldsL (fs.take k)) wr) ∧ Hid (Below w.heap.size w wr) ∧ MB wr w.heap.size (.slice A fs.length c) body ∧ w.heap.size + 2 ≤ wr.heap.size) (fun t _ => fs.length - (intOf t).toNat)
  case atStart => exact ⟨0, Nat.zero_le _, rfl, Lib.hid hB0, Lib.hid hb0, hM0, hz0⟩
  case round =>
    obtain ⟨k, hk, rfl, HB, Hb, hM, hz⟩ := hrel
    clear hB0 hb0 hM0 hz0
    have m0 := hM.c0
    have m1 := hM.c1
    have HM := Lib.hid hM
    clear hM
    by_cases hlt : k < fs.length
    · obtain ⟨g, off, rfl, cs, hkk, hcs⟩ := hA.get k hlt
      obtain ⟨rfl, q1, q2⟩ := kLin_cells hkk
      have c0 := cellB Hb.out (hcs 0 _ rfl)
      have c1 := cellB Hb.out (hcs 1 _ rfl)
      rw [show off + (k * kLin.sz + 0) = off + k * 2 from rfl] at c0
      rw [show off + (k * kLin.sz + 1) = off + k * 2 + 1 from rfl] at c1
      have hnew := fldsL_take fs k hlt
      have hle := fldsL_le fs (k + 1)
      rw [hnew, List.length_append, fldL_len] at hle
      have hs1 : fs[k].name.size + fs[k].value.size ≤ 100000 := by omega
      have hs2 : (fldsL (fs.take k)).length + (fs[k].name.size + fs[k].value.size + 4) ≤ 100000 := by omega
      have Hnew := Lib.hid hnew
      have Hs2 := Lib.hid hs2
      clear hcs hkk hnew hle hs2 q1 q2
      generalize fs[k] = z at *
      have hk0 : (0 : Int) ≤ (k : Int) := by omega
      have hkn : (k : Int) < (fs.length : Int) := by omega
      have hB1 := HB.out.later ((Below.refl wr.heap.size wr).alloc (Nat.le_refl _) (.cells #[.string z.name, .string z.value] 48))
      have hw := writeString_calls _ _ _ (z.name ++ ⟨#[58, 32]⟩ ++ z.value ++ ⟨#[13, 10]⟩) _ hB1 (by have := Hs2.out; rw [ByteArray.size_append, ByteArray.size_append, ByteArray.size_append]; show _ + (z.name.size + 2 + z.value.size + 2) ≤ _; omega) (by simp; omega)
      have HW := Lib.hid hw
      clear hB1 hw
      go_wp2_with fail
      refine HW.out.mono ?_
      rintro e w2 ⟨rfl, hB2, hb2⟩
      rw [fld_bytes, ← Hnew.out] at hB2
      have HB2 := Lib.hid hB2
      have HM2 := Lib.hid ((HM.out.below ((Below.refl wr.heap.size wr).alloc (Nat.le_refl _) (.cells #[.string z.name, .string z.value] 48)) HM.out.lt).below hb2 (Nat.lt_succ_self _))
      have Hb2 := Lib.hid ((Hb.out.alloc (by omega) (.cells #[.string z.name, .string z.value] 48)).trans (hb2.mono (by omega)))
      have hz2 : w.heap.size + 2 ≤ w2.heap.size := by have := hb2.size; simp at this; omega
      clear HW hB2 hb2
      go_wp2
      go_roundw
      case rel => exact ⟨k + 1, by omega, by go_num, HB2, Hb2, HM2.out, hz2⟩
      case measure => simp [intOf]; omega
    · obtain rfl : k = fs.length := by omega
      have hB := HB.out
      rw [List.take_length] at hB
      have HF := Lib.hid (show BldF (w.heap.size + 1) (w.heap.size + 1) (fldsL fs) wr.drew from Lib.IsBuilderF.of (hB.later ⟨rfl, rfl, rfl, Nat.le_refl _, fun _ _ => rfl⟩))
      have hstr := fun W hS => string_keep (fldsL fs) w W body hS
      have HST := Lib.hid hstr
      have hs3 : (mkS (fldsL fs)).size ≤ 100000 := by rw [mkS_size]; exact hfl
      have hfin : mkS (fldsL fs) ++ ⟨#[13, 10]⟩ ++ body = mkS (showL fs (bs body)) := by
        apply bs_inj
        rw [bs_append, bs_append, bs_mkS, bs_mkS]
        show fldsL fs ++ [13, 10] ++ bs body = _
        simp [showL]
      have Hfin := Lib.hid hfin
      have g1 : ¬ 9223372036854775807 < (mkS (fldsL fs)).size + 2 := by omega
      have g2 : ¬ 9223372036854775807 < (mkS (fldsL fs)).size + 2 + body.size := by omega
      clear hB hstr hfin
      generalize mkS (fldsL fs) = p at *
      go_wp2_with fail
      go_region_held3 (fun w' => w'.cell? ⟨w.heap.size, 1, none⟩ = some (.string body) ∧ Below w.heap.size w w' ∧ BldF (w.heap.size + 1) (w.heap.size + 1) (fldsL fs) w' ∧ w.heap.size + 2 ≤ w'.heap.size) (first | exact hKK | exact ⟨m1, Hb.out.drew, HF.out, hz⟩)
        (first | (go_at_call 56; (with_reducible refine (HST.out _ ?_).mono ?_); (first | assumption | exact hS); rintro e w9 ⟨rfl, hKK⟩))
      go_wp2
      go_ret
      exact ⟨by rw [← Hfin.out]; rfl, hKK.2.1⟩
end Go.Proofs.YtlbibklbckabnaaDoor
