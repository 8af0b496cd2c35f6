/- Plain words: the lines of LineOrder and LineOdd, and what a session says to each. -/
import Derived.Test.YtokeblpdaomagaaDoorLmWords
namespace Go.Proofs.YtokeblpdaomagaaDoor
open Go.RowKit
set_option linter.unusedVariables false

theorem lineR_cmd (x : Ses) (h1 : x.step ≠ 5) (h2 : x.step ≠ 4) (K : List ByteArray) (l : ByteArray) : lineR x K l = ((cmdR x l K).2, (cmdR x l K).1, false) := by unfold lineR; rw [if_neg h1, if_pos h2]
def lNoop : ByteArray := ⟨#[78, 79, 79, 80]⟩
def lRset : ByteArray := ⟨#[82, 83, 69, 84]⟩
def lQuit : ByteArray := ⟨#[81, 85, 73, 84]⟩
theorem cmd_word (x : Ses) (known : List ByteArray) (line word : ByteArray) (hs : line.size ≤ 300) (h : restR line lhlo = none ∧ restR line mailF = none ∧ restR line rcptT = none) : cmdR x line known = wordR x line := by
  unfold cmdR
  rw [if_neg (by omega), h.1, h.2.1, h.2.2]
theorem cmd_noop (x : Ses) (known : List ByteArray) : cmdR x lNoop known = (250, x) := by
  rw [cmd_word x known lNoop wNoop (by decide) (by decide +kernel)]
  unfold wordR
  rw [show foldB lNoop = wNoop by decide +kernel, if_neg (by decide), if_neg (by decide), if_pos rfl]
theorem cmd_rset (x : Ses) (known : List ByteArray) : cmdR x lRset known = (250, readyS (min x.step 1)) := by
  rw [cmd_word x known lRset wRset (by decide) (by decide +kernel)]
  unfold wordR
  rw [show foldB lRset = wRset by decide +kernel, if_neg (by decide), if_pos rfl]
theorem cmd_quit (x : Ses) (known : List ByteArray) : cmdR x lQuit known = (221, readyS 5) := by
  rw [cmd_word x known lQuit wQuit (by decide) (by decide +kernel)]
  unfold wordR
  rw [show foldB lQuit = wQuit by decide +kernel, if_neg (by decide), if_neg (by decide), if_neg (by decide), if_pos rfl]
/-- The sessions, step by step. -/
def ordS (a : Adr) (k : Nat) : Ses := match k with
  | 0 => readyS 0
  | 1 => readyS 1
  | 2 => ⟨2, a, [], ⟨#[]⟩, false⟩
  | _ => ⟨3, a, [a], ⟨#[]⟩, false⟩
theorem ordS_step (a : Adr) (k : Nat) : (ordS a k).step ≠ 5 ∧ (ordS a k).step ≠ 4 := by
  rcases (show k = 0 ∨ k = 1 ∨ k = 2 ∨ ∃ j, k = j + 3 by
    rcases k with _ | _ | _ | k
    · exact .inl rfl
    · exact .inr (.inl rfl)
    · exact .inr (.inr (.inl rfl))
    · exact .inr (.inr (.inr ⟨k, rfl⟩))) with rfl | rfl | rfl | ⟨j, rfl⟩
  · show (0 : Int) ≠ 5 ∧ (0 : Int) ≠ 4; decide
  · show (1 : Int) ≠ 5 ∧ (1 : Int) ≠ 4; decide
  · show (2 : Int) ≠ 5 ∧ (2 : Int) ≠ 4; decide
  · show (3 : Int) ≠ 5 ∧ (3 : Int) ≠ 4; decide
theorem ordS_end (a : Adr) : ordS a 4 = ordS a 3 := rfl
/-- MAIL, RCPT and DATA. -/
def ordL (a : Adr) (k : Nat) : ByteArray := match k with
  | 0 => mkS (mailL ++ angL a)
  | 1 => mkS (rcptU ++ angL a)
  | _ => lData
def canJ (j k : Nat) : Bool := (j == 1 && k == 0) || (j == 2 && k == 1) || (j == 3 && decide (0 < k))
theorem ord_line (l d : ByteArray) (j k : Nat) (hj : j < 4) (hk : k < 3) : ((cmdR (ordS (adrOf l d) j) (ordL (adrOf l d) k) [(adrOf l d).loc]).1 == 503) = !(canJ j k) := by
  rcases (show k = 0 ∨ k = 1 ∨ k = 2 by omega) with rfl | rfl | rfl
  · show ((cmdR _ (mkS (mailL ++ angL (adrOf l d))) _).1 == 503) = _
    rw [cmd_mail]
    rcases (show j = 0 ∨ j = 1 ∨ j = 2 ∨ j = 3 by omega) with rfl | rfl | rfl | rfl
    · rw [if_pos (by show (0 : Int) ≠ 1; decide)]; rfl
    · rw [if_neg (by show ¬ ((1 : Int) ≠ 1); decide)]; rfl
    · rw [if_pos (by show (2 : Int) ≠ 1; decide)]; rfl
    · rw [if_pos (by show (3 : Int) ≠ 1; decide)]; rfl
  · show ((cmdR _ (mkS (rcptU ++ angL (adrOf l d))) _).1 == 503) = _
    rw [cmd_rcpt rcptU (.inl rfl) _ _ _ _ rfl]
    rcases (show j = 0 ∨ j = 1 ∨ j = 2 ∨ j = 3 by omega) with rfl | rfl | rfl | rfl
    · rw [if_pos (by show (0 : Int) ≠ 2 ∧ (0 : Int) ≠ 3; decide)]; rfl
    · rw [if_pos (by show (1 : Int) ≠ 2 ∧ (1 : Int) ≠ 3; decide)]; rfl
    · rw [if_neg (by show ¬ ((2 : Int) ≠ 2 ∧ (2 : Int) ≠ 3); decide), if_neg (by show ¬ (_ ∈ ([] : List Adr)); simp), if_neg (by show ¬ (0 = 5); decide)]; rfl
    · rw [if_neg (by show ¬ ((3 : Int) ≠ 2 ∧ (3 : Int) ≠ 3); decide), if_pos (by show _ ∈ [adrOf l d]; simp)]; rfl
  · show ((cmdR _ lData _).1 == 503) = _
    rw [cmd_data]
    rcases (show j = 0 ∨ j = 1 ∨ j = 2 ∨ j = 3 by omega) with rfl | rfl | rfl | rfl
    · rw [if_pos (by show (0 : Int) ≠ 3; decide)]; rfl
    · rw [if_pos (by show (1 : Int) ≠ 3; decide)]; rfl
    · rw [if_pos (by show (2 : Int) ≠ 3; decide)]; rfl
    · rw [if_neg (by show ¬ ((3 : Int) ≠ 3); decide)]; rfl
/-- The lines that lead on. -/
def ordN (a : Adr) (k : Nat) : ByteArray := match k with
  | 0 => lLhloA
  | 1 => mkS (mailL ++ angL a)
  | 2 => mkS (rcptU ++ angL a)
  | _ => lNoop
theorem ord_next (l d : ByteArray) (j : Nat) (hj : j < 4) : lineR (ordS (adrOf l d) j) [(adrOf l d).loc] (ordN (adrOf l d) j) = (ordS (adrOf l d) (j + 1), 250, false) := by
  rw [lineR_cmd _ (ordS_step _ _).1 (ordS_step _ _).2]
  rcases (show j = 0 ∨ j = 1 ∨ j = 2 ∨ j = 3 by omega) with rfl | rfl | rfl | rfl
  · show ((cmdR _ lLhloA _).2, (cmdR _ lLhloA _).1, false) = _
    rw [cmd_lhloA]; rfl
  · show ((cmdR _ (mkS (mailL ++ angL (adrOf l d))) _).2, (cmdR _ (mkS (mailL ++ angL (adrOf l d))) _).1, false) = _
    rw [cmd_mail, if_neg (by show ¬ ((1 : Int) ≠ 1); decide)]; rfl
  · show ((cmdR _ (mkS (rcptU ++ angL (adrOf l d))) _).2, (cmdR _ (mkS (rcptU ++ angL (adrOf l d))) _).1, false) = _
    rw [cmd_rcpt rcptU (.inl rfl) _ _ _ _ rfl, if_neg (by show ¬ ((2 : Int) ≠ 2 ∧ (2 : Int) ≠ 3); decide), if_neg (by show ¬ (_ ∈ ([] : List Adr)); simp), if_neg (by show ¬ (0 = 5); decide)]; rfl
  · show ((cmdR _ lNoop _).2, (cmdR _ lNoop _).1, false) = _
    rw [cmd_noop]; rfl
theorem ord_vld (l d : ByteArray) : ∀ k, k ≤ 4 → VldS (ordS (adrOf l d) k)
  | 0, _ => vld_ready 0 (.inl ⟨by decide, by decide⟩)
  | k + 1, h => by
    have h1 := vld_line (ord_vld l d k (by omega)) [(adrOf l d).loc] (ordN (adrOf l d) k)
    rw [ord_next l d k (by omega)] at h1
    exact h1
def endL (k : Nat) : ByteArray := match k with
  | 0 => lRset
  | _ => lQuit
def endC (k : Nat) : Int := match k with
  | 0 => 250
  | _ => 221
def endT (k : Nat) : Int := match k with
  | 0 => 1
  | _ => 5
theorem ord_end (a : Adr) (K : List ByteArray) (k : Nat) (hk : k < 2) : lineR (ordS a 4) K (endL k) = (readyS (endT k), endC k, false) := by
  rw [lineR_cmd _ (ordS_step _ _).1 (ordS_step _ _).2]
  rcases (show k = 0 ∨ k = 1 by omega) with rfl | rfl
  · show ((cmdR _ lRset _).2, (cmdR _ lRset _).1, false) = _
    rw [cmd_rset]; rfl
  · show ((cmdR _ lQuit _).2, (cmdR _ lQuit _).1, false) = _
    rw [cmd_quit]; rfl
theorem ordL_size (l d : ByteArray) (k : Nat) : (ordL (adrOf l d) k).size ≤ 300 := by
  have h := adrOf_size l d
  rcases k with _ | _ | k
  · show (mkS (mailL ++ angL _)).size ≤ 300
    rw [mkS_size, List.length_append, angL_len]; show 10 + _ ≤ 300; omega
  · show (mkS (rcptU ++ angL _)).size ≤ 300
    rw [mkS_size, List.length_append, angL_len]; show 8 + _ ≤ 300; omega
  · show lData.size ≤ 300; decide
theorem ordN_size (l d : ByteArray) (k : Nat) : (ordN (adrOf l d) k).size ≤ 300 := by
  have h := adrOf_size l d
  rcases k with _ | _ | _ | k
  · show lLhloA.size ≤ 300; decide
  · show (mkS (mailL ++ angL _)).size ≤ 300
    rw [mkS_size, List.length_append, angL_len]; show 10 + _ ≤ 300; omega
  · show (mkS (rcptU ++ angL _)).size ≤ 300
    rw [mkS_size, List.length_append, angL_len]; show 8 + _ ≤ 300; omega
  · show lNoop.size ≤ 300; decide
theorem bytes_ang (a : Adr) (P : List UInt8) : (mkS P : ByteArray) ++ ((⟨#[60]⟩ : ByteArray) ++ a.loc ++ ⟨#[64]⟩ ++ a.dom ++ ⟨#[62]⟩) = mkS (P ++ angL a) := by
  apply bs_inj
  rw [bs_append, bs_append, bs_append, bs_append, bs_append, bs_mkS, bs_mkS]
  show P ++ ([60] ++ bs a.loc ++ [64] ++ bs a.dom ++ [62]) = _
  simp [angL]
end Go.Proofs.YtokeblpdaomagaaDoor
