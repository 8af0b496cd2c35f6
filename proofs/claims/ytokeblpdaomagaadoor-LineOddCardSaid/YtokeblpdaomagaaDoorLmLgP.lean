/- Plain words: a letter of many lines of zero bytes, and how much of it a session keeps. -/
import Derived.Test.YtokeblpdaomagaaDoorLmWords
namespace Go.Proofs.YtokeblpdaomagaaDoor
open Go.RowKit
set_option linter.unusedVariables false

/-- So many zero bytes. -/
def zerS (k : Nat) : ByteArray := mkS (List.replicate k 0)
theorem zerS_size (k : Nat) : (zerS k).size = k := by rw [zerS, mkS_size, List.length_replicate]
theorem undot_zer (k : Nat) : undot (zerS k) = zerS k := by
  unfold undot
  rw [if_neg]
  rw [toList_bs, zerS, bs_mkS]
  cases k with
  | zero => simp
  | succ k => rw [List.replicate_succ]; show ¬ (some (0 : UInt8) = some 46); decide
theorem zer_dot (k : Nat) : zerS k ≠ dotS1 := by
  intro h
  have h1 := congrArg bs h
  rw [zerS, bs_mkS] at h1
  have h2 : bs dotS1 = [46] := rfl
  rw [h2] at h1
  cases k with
  | zero => cases h1
  | succ k =>
    rw [List.replicate_succ] at h1
    exact absurd (List.cons.inj h1).1 (by decide)
/-- The session behind so many such lines. -/
def lgS (a b : Adr) (k : Nat) : Nat → Ses
  | 0 => rdyS a b 4
  | i + 1 => bodyR (lgS a b k i) (zerS k)
theorem lgS_facts (a b : Adr) (k : Nat) : ∀ i, (lgS a b k i).step = 4 ∧ (lgS a b k i).rcp.length = 1 ∧ (lgS a b k i).text.size = min i (2000 / (k + 2)) * (k + 2) ∧ (lgS a b k i).large = decide (2000 / (k + 2) < i)
  | 0 => ⟨rfl, rfl, by rw [Nat.zero_min, Nat.zero_mul]; rfl, by rw [decide_eq_false (Nat.not_lt_zero _)]; rfl⟩
  | i + 1 => by
    obtain ⟨h1, h2, h3, h4⟩ := lgS_facts a b k i
    have hd := Nat.div_mul_le_self 2000 (k + 2)
    have hm := Nat.lt_div_mul_add (a := 2000) (b := k + 2) (by omega)
    generalize hM : 2000 / (k + 2) = M at *
    unfold lgS
    unfold bodyR
    rw [h4, h3, undot_zer, zerS_size]
    by_cases hi : M < i
    · rw [if_pos (.inl (decide_eq_true hi))]
      refine ⟨h1, h2, ?_, ?_⟩
      · show (lgS a b k i).text.size = _
        rw [h3, Nat.min_eq_right (by omega), Nat.min_eq_right (by omega)]
      · show true = _
        rw [decide_eq_true (by omega)]
    · by_cases he : i = M
      · subst he
        rw [if_pos (.inr (by rw [Nat.min_self]; omega))]
        refine ⟨h1, h2, ?_, ?_⟩
        · show (lgS a b k i).text.size = _
          rw [h3, Nat.min_self, Nat.min_eq_right (by omega)]
        · show true = _
          rw [decide_eq_true (by omega)]
      · have hs : (i + 1) * (k + 2) ≤ M * (k + 2) := Nat.mul_le_mul_right _ (by omega)
        have hs2 : (i + 1) * (k + 2) = i * (k + 2) + (k + 2) := by rw [Nat.add_mul, Nat.one_mul]
        rw [if_neg (by rw [decide_eq_false hi, Nat.min_eq_left (by omega)]; rintro (h | h); cases h; omega)]
        refine ⟨h1, h2, ?_, ?_⟩
        · show ((lgS a b k i).text ++ (zerS k ++ ⟨#[13, 10]⟩)).size = _
          rw [ByteArray.size_append, ByteArray.size_append, h3, zerS_size, Nat.min_eq_left (by omega), Nat.min_eq_left (by omega), hs2]
          show _ + (k + 2) = _
          rfl
        · show decide (M < i) = _
          rw [decide_eq_false hi, decide_eq_false (by omega)]
theorem lg_line (a b : Adr) (k i : Nat) (K : List ByteArray) : lineR (lgS a b k i) K (zerS k) = (lgS a b k (i + 1), 0, false) := by
  have h := (lgS_facts a b k i).1
  unfold lineR
  rw [if_neg (by rw [h]; decide), if_neg (by rw [h]; decide), if_pos (zer_dot k)]
  rfl
theorem lg_vld (p q r s : ByteArray) (k : Nat) : ∀ i, VldS (lgS (adrOf p q) (adrOf r s) k i)
  | 0 => vld_rdy p q r s 4 (by omega)
  | i + 1 => by
    have h := vld_line (lg_vld p q r s k i) [] (zerS k)
    rw [lg_line] at h
    exact h
/-- What the statement looks at. -/
theorem lg_end (a b : Adr) (k m : Nat) : if (m * (k + 2) : Nat) ≤ 2000 then (lgS a b k m).large = false ∧ (lgS a b k m).text.size = m * (k + 2) else (lgS a b k m).large = true ∧ (lgS a b k m).text.size = 2000 / (k + 2) * (k + 2) := by
  obtain ⟨h1, h2, h3, h4⟩ := lgS_facts a b k m
  rw [h3, h4]
  have hle := Nat.le_div_iff_mul_le (k := k + 2) (x := m) (y := 2000) (by omega)
  split
  · next h =>
    have := hle.2 h
    exact ⟨decide_eq_false (by omega), by rw [Nat.min_eq_left this]⟩
  · next h =>
    have : ¬ m ≤ 2000 / (k + 2) := fun h2 => h (hle.1 h2)
    exact ⟨decide_eq_true (by omega), by rw [Nat.min_eq_right (by omega)]⟩
end Go.Proofs.YtokeblpdaomagaaDoor
