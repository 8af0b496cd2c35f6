/- The method body of lmtp's session. -/
import Derived.Test.YtokeblpdaomagaaDoorLmCmd
namespace Go.Proofs.YtokeblpdaomagaaDoor
open Go.RowKit
set_option linter.unusedVariables false

theorem undot_eq (line : ByteArray) : (⟨(Lib.trimPrefix line.data.toList (⟨#[46]⟩ : ByteArray).data.toList).toArray⟩ : ByteArray) = undot line := by
  unfold undot Lib.trimPrefix Lib.hasPrefix
  rw [Lib.toList_data]
  have e : (⟨#[46]⟩ : ByteArray).data.toList = [46] := rfl
  rw [e]
  cases hl : line.data.toList with
  | nil =>
    rw [if_neg (by simp), if_neg (by simp)]
    rw [← hl]
  | cons a l =>
    by_cases ha : a = 46
    · subst ha
      rw [if_pos (by simp), if_pos (by simp)]
      apply ByteArray.ext
      apply Array.toList_inj.1
      show _ = (line.extract 1 line.size).data.toList
      have e3 := Lib.extract_toList line 1 line.size
      rw [Lib.toList_data] at e3
      rw [e3, hl]
      simp only [List.drop_succ_cons, List.drop_zero, List.length_singleton]
      rw [List.take_of_length_le]
      have := congrArg List.length hl
      simp only [Array.length_toList, List.length_cons] at this
      have e2 : line.size = line.data.size := rfl
      omega
    · rw [if_neg (by simp [Ne.symm ha]), if_neg (by simp [ha])]
      rw [← hl]
theorem undot_size (line : ByteArray) : (undot line).size ≤ line.size := by
  unfold undot
  split
  · rw [ByteArray.size_extract]; omega
  · exact Nat.le_refl _
theorem SB.large {W : World} {c : Nat} {x : Ses} (h : SB W c x) (k : Bool) : SB (W.setCell ⟨c, 5, none⟩ (.bool k)) c { x with large := k } := by
  obtain ⟨A, cx, h1, h2⟩ := h
  exact ⟨A, cx, h1.set 5 _, own_set h2 h1 (by decide) 5 _⟩
theorem SB.text {W : World} {c : Nat} {x : Ses} (h : SB W c x) (k : ByteArray) : SB (W.setCell ⟨c, 4, none⟩ (.string k)) c { x with text := k } := by
  obtain ⟨A, cx, h1, h2⟩ := h
  exact ⟨A, cx, h1.set 4 _, own_set h2 h1 (by decide) 4 _⟩
set_option maxRecDepth 100000 in
set_option maxHeartbeats 4000000 in
theorem body_calls (c : Nat) (x : Ses) (line : ByteArray) (w : World) (h : SB w c x) (hl : line.size ≤ 2000) (ht : x.text.size ≤ 2000) :
    Calls Tryd.prog 18 #[.pointer (some ⟨c, 0, none⟩), .string line] w fun e w' => e = .returned (.tuple #[]) ∧ SB w' c (bodyR x line) ∧ Mv c w w' := by
  have hus := undot_size line
  have hp := Tryd.strings_TrimPrefix line ⟨#[46]⟩
  rw [undot_eq] at hp
  have hr : bodyR x line = if x.large = true ∨ 2000 < x.text.size + (undot line).size + 2 then { x with large := true } else { x with text := x.text ++ (undot line ++ ⟨#[13, 10]⟩) } := rfl
  have H := Lib.hid h
  have Hp := Lib.hid hp
  generalize undot line = u at *
  obtain ⟨s0, s1, s2, ⟨As, cs, s3⟩, s4, s5, hf⟩ := h.cells
  have f4 := hf 4
  have f5 := hf 5
  have Hr := Lib.hid hr
  clear hr h hp hf
  have hw := Mv.refl c w
  have Hw := Lib.hid hw
  clear hw
  by_cases hc : 2000 < x.text.size + u.size + 2
  · have hc' : (2000 : Int) < (x.text.size : Int) + (u.size : Int) + 2 := by omega
    have hr := Hr.out
    rw [if_pos (.inr hc)] at hr
    have Hr := Lib.hid hr
    clear hr
    go_enter Tryd.func18, Tryd.ntmps18
    go_wp2_with fail
    refine (Hp.out _).mono ?_
    rintro e w1 ⟨rfl, rfl⟩
    go_wp2_with fail
    go_end0
    exact ⟨rfl, by rw [Hr.out]; exact H.out.large true, Hw.out.set 5 _⟩
  · have hc' : ¬ (2000 : Int) < (x.text.size : Int) + (u.size : Int) + 2 := by omega
    cases hlg : x.large with
    | true =>
      have hr := Hr.out
      rw [if_pos (.inl hlg)] at hr
      have Hr := Lib.hid hr
      rw [hlg] at s5
      have Hl := Lib.hid hlg
      clear hr hlg
      go_enter Tryd.func18, Tryd.ntmps18
      go_wp2_with fail
      refine (Hp.out _).mono ?_
      rintro e w1 ⟨rfl, rfl⟩
      go_wp2_with fail
      go_end0
      have e : ({ x with large := true } : Ses) = x := by rw [← Hl.out]
      exact ⟨rfl, by rw [Hr.out, e]; exact H.out, Hw.out⟩
    | false =>
      have hr := Hr.out
      rw [if_neg (by rintro (h | h); · rw [hlg] at h; cases h
                     · exact hc h)] at hr
      have Hr := Lib.hid hr
      rw [hlg] at s5
      clear hr hlg
      go_enter Tryd.func18, Tryd.ntmps18
      go_wp2_with fail
      refine (Hp.out _).mono ?_
      rintro e w1 ⟨rfl, rfl⟩
      go_wp2_with fail
      go_end0
      exact ⟨rfl, by rw [Hr.out]; exact H.out.text _, Hw.out.set 4 _⟩
end Go.Proofs.YtokeblpdaomagaaDoor
