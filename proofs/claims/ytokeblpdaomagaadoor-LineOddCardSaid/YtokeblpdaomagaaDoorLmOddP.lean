/- Plain words: lines that are no command change nothing. -/
import Derived.Test.YtokeblpdaomagaaDoorLmOrdP
import Derived.Test.YtokeblpdaomagaaDoorLmLgP
namespace Go.Proofs.YtokeblpdaomagaaDoor
open Go.RowKit
set_option linter.unusedVariables false

theorem mailR_bad (x : Ses) (t : ByteArray) (h : (addrR t).2 = false) : 500 ≤ (mailR x t).1 ∧ (mailR x t).2 = x := by
  unfold mailR
  by_cases h1 : x.step ≠ 1
  · rw [if_pos h1]; exact ⟨by show (500 : Int) ≤ 503; decide, rfl⟩
  · rw [if_neg h1, if_pos h]; exact ⟨by show (500 : Int) ≤ 501; decide, rfl⟩
theorem rcptR_bad (x : Ses) (t : ByteArray) (known : List ByteArray) (h : (addrR t).2 = false ∨ Lib.containsS known (addrR t).1.loc = false) : 500 ≤ (rcptR x t known).1 ∧ (rcptR x t known).2 = x := by
  unfold rcptR
  by_cases h1 : x.step ≠ 2 ∧ x.step ≠ 3
  · rw [if_pos h1]; exact ⟨by show (500 : Int) ≤ 503; decide, rfl⟩
  · rw [if_neg h1]
    by_cases h2 : (addrR t).2 = false
    · rw [if_pos h2]; exact ⟨by show (500 : Int) ≤ 501; decide, rfl⟩
    · rw [if_neg h2, if_pos (h.resolve_left h2)]; exact ⟨by show (500 : Int) ≤ 550; decide, rfl⟩
/-- An address behind a byte other than the bracket is none. -/
theorem addrR_first (c : UInt8) (hc : c ≠ 60) (l : List UInt8) : (addrR (mkS (c :: l))).2 = false := by
  unfold addrR
  split
  · next a ha =>
    show ((mkS (c :: l)).toList == ((⟨#[60]⟩ : ByteArray) ++ adrT a ++ ⟨#[62]⟩).toList) = false
    rw [beq_eq_false_iff_ne]
    intro h
    rw [toList_bs, toList_bs, bs_mkS, bs_append, bs_append] at h
    have h2 : c :: l = 60 :: (bs (adrT a) ++ bs (⟨#[62]⟩ : ByteArray)) := h
    exact hc (List.cons.inj h2).1
  · rfl
theorem cmd_bad0 (x : Ses) (known : List ByteArray) (line : ByteArray) (hs : line.size ≤ 300) (h : restR line lhlo = none ∧ restR line mailF = none ∧ restR line rcptT = none) (hw : foldB line ≠ wData ∧ foldB line ≠ wRset ∧ foldB line ≠ wNoop ∧ foldB line ≠ wQuit) : 500 ≤ (cmdR x line known).1 ∧ (cmdR x line known).2 = x := by
  rw [cmd_word x known line wData hs h]
  unfold wordR
  rw [if_neg hw.1, if_neg hw.2.1, if_neg hw.2.2.1, if_neg hw.2.2.2]
  exact ⟨by show (500 : Int) ≤ 500; decide, rfl⟩
theorem cmd_badL (x : Ses) (known : List ByteArray) (line name : ByteArray) (hs : line.size ≤ 300) (h : restR line lhlo = some name) (hc : checkA ⟨⟨#[120]⟩, name⟩ ≠ 0) : 500 ≤ (cmdR x line known).1 ∧ (cmdR x line known).2 = x := by
  unfold cmdR
  rw [if_neg (by omega), h]
  show 500 ≤ (if checkA ⟨⟨#[120]⟩, name⟩ ≠ 0 then ((501 : Int), x) else (250, readyS 1)).1 ∧ (if checkA ⟨⟨#[120]⟩, name⟩ ≠ 0 then ((501 : Int), x) else (250, readyS 1)).2 = x
  rw [if_pos hc]
  exact ⟨by show (500 : Int) ≤ 501; decide, rfl⟩
theorem cmd_badM (x : Ses) (known : List ByteArray) (line t : ByteArray) (hs : line.size ≤ 300) (h : restR line lhlo = none ∧ restR line mailF = some t) (ht : (addrR t).2 = false) : 500 ≤ (cmdR x line known).1 ∧ (cmdR x line known).2 = x := by
  unfold cmdR
  rw [if_neg (by omega), h.1, h.2]
  exact mailR_bad x t ht
theorem cmd_badR (x : Ses) (known : List ByteArray) (line t : ByteArray) (hs : line.size ≤ 300) (h : restR line lhlo = none ∧ restR line mailF = none ∧ restR line rcptT = some t) (ht : (addrR t).2 = false ∨ Lib.containsS known (addrR t).1.loc = false) : 500 ≤ (cmdR x line known).1 ∧ (cmdR x line known).2 = x := by
  unfold cmdR
  rw [if_neg (by omega), h.1, h.2.1, h.2.2]
  exact rcptR_bad x t known ht
theorem cmd_badS (x : Ses) (known : List ByteArray) (line : ByteArray) (hs : 300 < line.size) : 500 ≤ (cmdR x line known).1 ∧ (cmdR x line known).2 = x := by
  unfold cmdR
  rw [if_pos hs]
  exact ⟨by show (500 : Int) ≤ 500; decide, rfl⟩
def mailB : List UInt8 := [77, 65, 73, 76, 32, 70, 82, 79, 77, 58, 32]
/-- The odd lines. -/
def oddL (a : Adr) : List ByteArray := [⟨#[]⟩, ⟨#[72, 69, 76, 79, 32, 97]⟩, ⟨#[76, 72, 76, 79]⟩, ⟨#[76, 72, 76, 79, 32]⟩, ⟨#[76, 72, 76, 79, 32, 97, 32, 98]⟩, mkS (mailB ++ angL a), ⟨#[77, 65, 73, 76, 32, 70, 82, 79, 77, 58, 60, 62]⟩, ⟨#[82, 67, 80, 84, 32, 84, 79, 58, 60, 97, 64, 98, 62, 32]⟩, ⟨#[82, 67, 80, 84, 32, 84, 79, 58, 60, 110, 48, 110, 101, 64, 98, 62]⟩, ⟨#[100, 97, 116, 97, 32]⟩, ⟨#[78, 79, 79, 80, 32, 120]⟩, ⟨#[113, 117, 105, 116, 46]⟩, ⟨#[82, 67, 80, 84, 32, 84, 79, 58, 120, 32, 60, 97, 64, 98, 62]⟩, zerS 400]
theorem wordL_ge (l : List UInt8) : ∀ c ∈ wordL l, 97 ≤ c := by
  intro c hc
  unfold wordL at hc
  split at hc
  · simp only [List.mem_singleton] at hc
    subst hc; decide
  · obtain ⟨b, _, rfl⟩ := List.mem_map.1 hc
    have : ∀ i : Fin 256, (97 : UInt8) ≤ 97 + (UInt8.ofNat i) % 26 := by decide +kernel
    have h := this ⟨b.toNat, UInt8.toNat_lt b⟩
    simpa using h
theorem n0ne_not (l d : ByteArray) : Lib.containsS [(adrOf l d).loc] (⟨#[110, 48, 110, 101]⟩ : ByteArray) = false := by
  rw [Bool.eq_false_iff]
  intro h
  rw [Lib.containsS_iff] at h
  simp only [List.mem_singleton] at h
  have h1 := congrArg bs h
  rw [adrOf_loc] at h1
  have h2 : (48 : UInt8) ∈ wordL (bs l) := by
    rw [← h1]
    show (48 : UInt8) ∈ [110, 48, 110, 101]
    decide
  exact absurd (wordL_ge _ _ h2) (by decide)
theorem odd_line (l d : ByteArray) (x : Ses) (k : Nat) (hk : k < 14) : 500 ≤ (cmdR x ((oddL (adrOf l d)).getD k ⟨#[]⟩) [(adrOf l d).loc]).1 ∧ (cmdR x ((oddL (adrOf l d)).getD k ⟨#[]⟩) [(adrOf l d).loc]).2 = x := by
  have hsz := adrOf_size l d
  rcases (show k = 0 ∨ k = 1 ∨ k = 2 ∨ k = 3 ∨ k = 4 ∨ k = 5 ∨ k = 6 ∨ k = 7 ∨ k = 8 ∨ k = 9 ∨ k = 10 ∨ k = 11 ∨ k = 12 ∨ k = 13 by omega) with rfl | rfl | rfl | rfl | rfl | rfl | rfl | rfl | rfl | rfl | rfl | rfl | rfl | rfl
  · exact cmd_bad0 x _ ⟨#[]⟩ (by decide) (by decide +kernel) (by decide +kernel)
  · exact cmd_bad0 x _ ⟨#[72, 69, 76, 79, 32, 97]⟩ (by decide) (by decide +kernel) (by decide +kernel)
  · exact cmd_bad0 x _ ⟨#[76, 72, 76, 79]⟩ (by decide) (by decide +kernel) (by decide +kernel)
  · exact cmd_badL x _ ⟨#[76, 72, 76, 79, 32]⟩ ⟨#[]⟩ (by decide) (by decide +kernel) (by decide +kernel)
  · exact cmd_badL x _ ⟨#[76, 72, 76, 79, 32, 97, 32, 98]⟩ ⟨#[97, 32, 98]⟩ (by decide) (by decide +kernel) (by decide +kernel)
  · show 500 ≤ (cmdR x (mkS (mailL ++ (32 :: angL (adrOf l d)))) _).1 ∧ (cmdR x (mkS (mailL ++ (32 :: angL (adrOf l d)))) _).2 = x
    refine cmd_badM x _ _ (mkS (32 :: angL (adrOf l d))) ?_ (mail_rest _) (addrR_first 32 (by decide) _)
    rw [mkS_size, List.length_append, List.length_cons, angL_len]
    show 10 + _ ≤ 300
    omega
  · exact cmd_badM x _ ⟨#[77, 65, 73, 76, 32, 70, 82, 79, 77, 58, 60, 62]⟩ ⟨#[60, 62]⟩ (by decide) (by decide +kernel) (by kernel_rfl)
  · exact cmd_badR x _ ⟨#[82, 67, 80, 84, 32, 84, 79, 58, 60, 97, 64, 98, 62, 32]⟩ ⟨#[60, 97, 64, 98, 62, 32]⟩ (by decide) (by decide +kernel) (.inl (by kernel_rfl))
  · refine cmd_badR x _ ⟨#[82, 67, 80, 84, 32, 84, 79, 58, 60, 110, 48, 110, 101, 64, 98, 62]⟩ ⟨#[60, 110, 48, 110, 101, 64, 98, 62]⟩ (by decide) (by decide +kernel) (.inr ?_)
    have h : (addrR ⟨#[60, 110, 48, 110, 101, 64, 98, 62]⟩).1.loc = ⟨#[110, 48, 110, 101]⟩ := by kernel_rfl
    rw [h]
    exact n0ne_not l d
  · exact cmd_bad0 x _ ⟨#[100, 97, 116, 97, 32]⟩ (by decide) (by decide +kernel) (by decide +kernel)
  · exact cmd_bad0 x _ ⟨#[78, 79, 79, 80, 32, 120]⟩ (by decide) (by decide +kernel) (by decide +kernel)
  · exact cmd_bad0 x _ ⟨#[113, 117, 105, 116, 46]⟩ (by decide) (by decide +kernel) (by decide +kernel)
  · exact cmd_badR x _ ⟨#[82, 67, 80, 84, 32, 84, 79, 58, 120, 32, 60, 97, 64, 98, 62]⟩ ⟨#[120, 32, 60, 97, 64, 98, 62]⟩ (by decide) (by decide +kernel) (.inl (by kernel_rfl))
  · exact cmd_badS x _ (zerS 400) (by rw [zerS_size]; decide)
theorem oddL_size (l d : ByteArray) (k : Nat) (hk : k < 14) : ((oddL (adrOf l d)).getD k ⟨#[]⟩).size ≤ 2000 := by
  have hsz := adrOf_size l d
  rcases (show k = 0 ∨ k = 1 ∨ k = 2 ∨ k = 3 ∨ k = 4 ∨ k = 5 ∨ k = 6 ∨ k = 7 ∨ k = 8 ∨ k = 9 ∨ k = 10 ∨ k = 11 ∨ k = 12 ∨ k = 13 by omega) with rfl | rfl | rfl | rfl | rfl | rfl | rfl | rfl | rfl | rfl | rfl | rfl | rfl | rfl
  case inr.inr.inr.inr.inr.inl =>
    show (mkS (mailB ++ angL (adrOf l d))).size ≤ 2000
    rw [mkS_size, List.length_append, angL_len]
    show 11 + _ ≤ 2000
    omega
  case inr.inr.inr.inr.inr.inr.inr.inr.inr.inr.inr.inr.inr =>
    show (zerS 400).size ≤ 2000
    rw [zerS_size]; decide
  all_goals exact Nat.le_of_ble_eq_true rfl
def lLhloU : ByteArray := ⟨#[76, 72, 76, 79, 32, 97]⟩
/-- The lines that lead on, in LineOdd. -/
def ordM (a : Adr) (k : Nat) : ByteArray := match k with
  | 0 => lLhloU
  | 1 => mkS (mailL ++ angL a)
  | _ => mkS (rcptU ++ angL a)
theorem ord_nextM (l d : ByteArray) (j : Nat) (hj : j < 3) : lineR (ordS (adrOf l d) j) [(adrOf l d).loc] (ordM (adrOf l d) j) = (ordS (adrOf l d) (j + 1), 250, false) := by
  rcases (show j = 0 ∨ j = 1 ∨ j = 2 by omega) with rfl | rfl | rfl
  · rw [lineR_cmd _ (ordS_step _ _).1 (ordS_step _ _).2]
    show ((cmdR _ lLhloU _).2, (cmdR _ lLhloU _).1, false) = _
    rw [cmd_lhlo _ _ lLhloU ⟨#[97]⟩ (by decide +kernel) (by decide) (by decide +kernel)]; rfl
  · exact ord_next l d 1 (by omega)
  · exact ord_next l d 2 (by omega)
theorem ordM_size (l d : ByteArray) (k : Nat) : (ordM (adrOf l d) k).size ≤ 300 := by
  rcases k with _ | _ | k
  · show lLhloU.size ≤ 300; decide
  · exact ordN_size l d 1
  · exact ordN_size l d 2
theorem ordM_cell (a : Adr) (j : Nat) (hj : j < 3) : ([.string lLhloU, .string (mkS (mailL ++ angL a)), .string (mkS (rcptU ++ angL a))] : List Value)[j]? = some (.string (ordM a j)) := by
  rcases (show j = 0 ∨ j = 1 ∨ j = 2 by omega) with rfl | rfl | rfl <;> rfl
theorem oddL_cell (a : Adr) (j : Nat) (hj : j < 14) : ((oddL a).map Value.string)[j]? = some (.string ((oddL a).getD j ⟨#[]⟩)) := by
  rw [List.getElem?_map, List.getD_eq_getElem?_getD]
  have hl : j < (oddL a).length := hj
  rw [List.getElem?_eq_getElem hl]
  rfl
end Go.Proofs.YtokeblpdaomagaaDoor
