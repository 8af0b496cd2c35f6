/- Plain words: five to whom, and no more. -/
import Derived.Test.YtokeblpdaomagaaDoorLmPlain
import Derived.Test.YtokeblpdaomagaaDoorKeep
namespace Go.Proofs.YtokeblpdaomagaaDoor
open Go.RowKit

def uS : ByteArray := ⟨#[117]⟩
/-- The i-th to whom. -/
def dA (i : Nat) : Adr := ⟨uS, mkS [100, 97 + UInt8.ofNat i]⟩
/-- The line that names him. -/
def dLine (i : Nat) : ByteArray := mkS ([82, 67, 80, 84, 32, 84, 79, 58, 60, 117, 64, 100] ++ [97 + UInt8.ofNat i] ++ [62])
def dTail (i : Nat) : ByteArray := mkS ([60, 117, 64, 100] ++ [97 + UInt8.ofNat i] ++ [62])
def vLine : ByteArray := mkS [82, 67, 80, 84, 32, 84, 79, 58, 60, 118, 64, 100, 97, 62]
def sM (a : Adr) (k : Nat) : Ses := ⟨if k = 0 then 2 else 3, a, (List.range (min k 5)).map dA, ⟨#[]⟩, false⟩
theorem dLine_rest (i : Nat) (h : i < 10) : restR (dLine i) lhlo = none ∧ restR (dLine i) mailF = none ∧ restR (dLine i) rcptT = some (dTail i) ∧ (dLine i).size = 14 ∧ addrR (dTail i) = (dA i, true) := by
  have : ∀ i : Fin 10, restR (dLine i) lhlo = none ∧ restR (dLine i) mailF = none ∧ restR (dLine i) rcptT = some (dTail i) ∧ (dLine i).size = 14 ∧ addrR (dTail i) = (dA i, true) := by decide +kernel
  exact this ⟨i, h⟩
theorem vLine_rest : restR vLine lhlo = none ∧ restR vLine mailF = none ∧ restR vLine rcptT = some (mkS [60, 118, 64, 100, 97, 62]) ∧ vLine.size = 14 ∧ addrR (mkS [60, 118, 64, 100, 97, 62]) = (⟨⟨#[118]⟩, mkS [100, 97]⟩, true) := by decide +kernel
theorem known_u : Lib.containsS [uS] uS = true := by decide +kernel
theorem known_v : Lib.containsS [uS] ⟨#[118]⟩ = false := by decide +kernel
theorem dA_inj (i : Nat) (h : i < 10) : ∀ k ≤ 5, dA i ∈ (List.range k).map dA ↔ i < k := by
  have : ∀ i : Fin 10, ∀ k : Fin 6, dA i ∈ (List.range k).map dA ↔ i.val < k.val := by decide +kernel
  exact fun k hk => this ⟨i, h⟩ ⟨k, by omega⟩
theorem cmd_d (a : Adr) (k i : Nat) (hi : i < 10) : cmdR (sM a k) (dLine i) [uS] = if i < min k 5 then (250, sM a k) else if 5 ≤ k then (452, sM a k) else (250, { sM a k with step := 3, rcp := (sM a k).rcp ++ [dA i] }) := by
  obtain ⟨h1, h2, h3, h4, h5⟩ := dLine_rest i hi
  have hin := dA_inj i hi (min k 5) (by omega)
  have hlen : (sM a k).rcp.length = min k 5 := by simp [sM]
  have hmem : (dA i, true).fst ∈ (sM a k).rcp ↔ i < min k 5 := hin
  unfold cmdR
  rw [if_neg (by omega), h1, h2, h3]
  show rcptR (sM a k) (dTail i) [uS] = _
  unfold rcptR
  rw [h5]
  have hst : ¬ ((sM a k).step ≠ 2 ∧ (sM a k).step ≠ 3) := by
    unfold sM
    split <;> simp
  rw [if_neg hst, if_neg (by simp)]
  rw [if_neg (by show ¬ Lib.containsS [uS] uS = false; rw [known_u]; simp)]
  by_cases c1 : i < min k 5
  · rw [if_pos (hmem.2 c1), if_pos c1]
  · rw [if_neg (fun h => c1 (hmem.1 h)), if_neg c1, hlen]
    by_cases c2 : 5 ≤ k
    · rw [if_pos (by omega), if_pos c2]
    · rw [if_neg (by omega), if_neg c2]
theorem cmd_next (a : Adr) (i : Nat) (hi : i < 10) : cmdR (sM a i) (dLine i) [uS] = (if 5 ≤ i then 452 else 250, sM a (i + 1)) := by
  rw [cmd_d a i i hi, if_neg (by omega)]
  by_cases c : 5 ≤ i
  · rw [if_pos c, if_pos c]
    have e : sM a i = sM a (i + 1) := by
      unfold sM
      rw [if_neg (by omega), if_neg (by omega), show min i 5 = 5 by omega, show min (i + 1) 5 = 5 by omega]
    rw [e]
  · rw [if_neg c, if_neg c]
    unfold sM
    rw [if_neg (show ¬ i + 1 = 0 by omega), show min i 5 = i by omega, show min (i + 1) 5 = i + 1 by omega, List.range_succ, List.map_append]
    rfl
/-- One more time the first. -/
theorem cmd_again (a : Adr) (k : Nat) : (cmdR (sM a k) (dLine 0) [uS]).1 = 250 ∧ (cmdR (sM a k) (dLine 0) [uS]).2.rcp.length = max 1 (min k 5) := by
  rw [cmd_d a k 0 (by omega)]
  by_cases c : 0 < min k 5
  · rw [if_pos c]
    refine ⟨rfl, ?_⟩
    show (sM a k).rcp.length = _
    simp [sM]; omega
  · rw [if_neg c, if_neg (by omega)]
    refine ⟨rfl, ?_⟩
    show ((sM a k).rcp ++ [dA 0]).length = _
    simp [sM]; omega
theorem cmd_v (a : Adr) (k : Nat) : (cmdR (sM a k) vLine [uS]) = (550, sM a k) := by
  obtain ⟨h1, h2, h3, h4, h5⟩ := vLine_rest
  unfold cmdR
  rw [if_neg (by omega), h1, h2, h3]
  show rcptR (sM a k) _ [uS] = _
  unfold rcptR
  rw [h5]
  have hst : ¬ ((sM a k).step ≠ 2 ∧ (sM a k).step ≠ 3) := by
    unfold sM
    split <;> simp
  rw [if_neg hst, if_neg (by simp), if_pos known_v]
theorem sM_step (a : Adr) (k : Nat) : (sM a k).step ≠ 5 ∧ (sM a k).step ≠ 4 := by
  unfold sM
  split <;> simp
theorem line_sM (a : Adr) (k : Nat) (known : List ByteArray) (line : ByteArray) : lineR (sM a k) known line = ((cmdR (sM a k) line known).2, (cmdR (sM a k) line known).1, false) := by
  unfold lineR
  rw [if_neg (sM_step a k).1, if_pos (sM_step a k).2]
theorem vld_sM (a : Adr) (ha : checkA a = 0) : ∀ k, k ≤ 10 → VldS (sM a k)
  | 0, _ => ⟨by show (0 : Int) ≤ 2 ∧ (2 : Int) ≤ 5; decide, by show if (2 : Int) ≤ 2 ∧ (2 : Int) ≤ 4 then _ else _; rw [if_pos (by decide)]; exact ha, by show if (3 : Int) ≤ 2 ∧ (2 : Int) ≤ 4 then _ else ([] : List Adr) = []; rw [if_neg (by decide)], Nat.zero_le _, fun _ => ⟨rfl, rfl⟩, Nat.zero_le _⟩
  | k + 1, h => by
    have h1 := vld_line (vld_sM a ha k (by omega)) [uS] (dLine k)
    rw [line_sM, cmd_next a k (by omega)] at h1
    exact h1
end Go.Proofs.YtokeblpdaomagaaDoor
