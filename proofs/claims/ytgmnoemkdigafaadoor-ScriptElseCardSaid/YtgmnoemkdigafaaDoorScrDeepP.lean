/- Plain words: deep tests, deep commands, long chains of elsifs. -/
import Derived.Test.YtgmnoemkdigafaaDoorScrPlain
namespace Go.Proofs.YtgmnoemkdigafaaDoor
set_option linter.unusedVariables false

def trueT : Tst := .mk 1 0 0 [] [] false 0 []
def falseT : Tst := .mk 2 0 0 [] [] false 0 []
def chainT : Nat → Tst
  | 0 => trueT
  | n + 1 => .mk 3 0 0 [] [] false 0 [chainT n]
def chainC : Nat → Cmd
  | 0 => .mk 2 [] trueT [] []
  | n + 1 => .mk 2 [] trueT [chainC n] []
def elseC : Nat → Cmd
  | 0 => .mk 2 [] trueT [] []
  | n + 1 => .mk 2 [] falseT [] [elseC n]
theorem chkTs_one (t : Tst) (d : Int) : chkTs [t] d = chkT t d := by
  unfold chkTs
  by_cases h : chkT t d ≠ 0
  · rw [if_pos h]
  · rw [if_neg h]
    unfold chkTs
    exact (Decidable.not_not.1 h).symm
theorem chkCs_one (c : Cmd) (d : Int) : chkCs [c] d = chkC c d := by
  unfold chkCs
  by_cases h : chkC c d ≠ 0
  · rw [if_pos h]
  · rw [if_neg h]
    unfold chkCs
    exact (Decidable.not_not.1 h).symm
theorem chkT_leaf (k : Int) (hk : k = 1 ∨ k = 2) (d : Int) : chkT (.mk k 0 0 [] [] false 0 []) d = if 6 < d then 1 else 0 := by
  unfold chkT
  rw [if_neg (by omega)]
  by_cases h : 6 < d
  · rw [if_pos h, if_pos h]
  · rw [if_neg h, if_neg h]
    have hf : formT k 0 0 ([] : List ByteArray).length ([] : List ByteArray).length false 0 ([] : List Tst).length = true := by
      rcases hk with rfl | rfl <;> rfl
    rw [hf, if_neg (by simp)]
    unfold chkTs
    rfl
theorem chkT_chain : ∀ (n : Nat) (d : Int), chkT (chainT n) d = if 6 < d + n then 1 else 0
  | 0, d => by
    have h := chkT_leaf 1 (.inl rfl) d
    rw [show d + ((0 : Nat) : Int) = d by simp]
    exact h
  | n + 1, d => by
    unfold chainT
    unfold chkT
    rw [if_neg (by decide)]
    by_cases h : 6 < d
    · rw [if_pos h, if_pos (by omega)]
    · rw [if_neg h]
      have hf : formT 3 0 0 ([] : List ByteArray).length ([] : List ByteArray).length false 0 [chainT n].length = true := rfl
      rw [hf, if_neg (by simp), chkTs_one, chkT_chain n (d + 1)]
      rw [show d + 1 + (n : Int) = d + ((n + 1 : Nat) : Int) by omega]
theorem chkC_if (t : Tst) (th el : List Cmd) (d : Int) (hd : ¬ 6 < d) (ht : chkT t 1 = 0) (hth : chkCs th (d + 1) = 0) : chkC (.mk 2 [] t th el) d = chkCs el (if lone el = true then d else d + 1) := by
  unfold chkC
  rw [if_neg (by decide), if_neg hd, if_pos rfl, if_neg (by simp), if_neg (by rw [ht]; simp), if_neg (by rw [hth]; simp)]
theorem chkCs_nil (d : Int) : chkCs [] d = 0 := by unfold chkCs; rfl
theorem chkC_chain : ∀ (n : Nat) (d : Int), chkC (chainC n) d = if 6 < d + n then 1 else 0
  | 0, d => by
    rw [show d + ((0 : Nat) : Int) = d by simp]
    unfold chainC
    by_cases h : 6 < d
    · rw [if_pos h]
      unfold chkC
      rw [if_neg (by decide), if_pos h]
    · rw [if_neg h, chkC_if _ _ _ _ h (show chkT trueT 1 = 0 from chkT_chain 0 1) (chkCs_nil _), chkCs_nil]
  | n + 1, d => by
    unfold chainC
    by_cases h : 6 < d
    · rw [if_pos (by omega)]
      unfold chkC
      rw [if_neg (by decide), if_pos h]
    · have hr := chkC_chain n (d + 1)
      rw [show d + 1 + (n : Int) = d + ((n + 1 : Nat) : Int) by omega] at hr
      by_cases h2 : 6 < d + ((n + 1 : Nat) : Int)
      · rw [if_pos h2] at hr ⊢
        unfold chkC
        rw [if_neg (by decide), if_neg h, if_pos rfl, if_neg (by simp), if_neg (by rw [show chkT trueT 1 = 0 from chkT_chain 0 1]; simp), chkCs_one, if_pos (by rw [hr]; decide), hr]
      · rw [if_neg h2] at hr ⊢
        rw [chkC_if _ _ _ _ h (show chkT trueT 1 = 0 from chkT_chain 0 1) (by rw [chkCs_one]; exact hr), chkCs_nil]
theorem kind_else (n : Nat) : (elseC n).kind = 2 := by cases n <;> rfl
theorem chkC_else : ∀ (n : Nat) (d : Int), ¬ 6 < d → chkC (elseC n) d = 0
  | 0, d, h => by
    unfold elseC
    rw [chkC_if _ _ _ _ h (show chkT trueT 1 = 0 from chkT_chain 0 1) (chkCs_nil _), chkCs_nil]
  | n + 1, d, h => by
    unfold elseC
    have ht : chkT falseT 1 = 0 := chkT_leaf 2 (.inr rfl) 1
    have hl : lone [elseC n] = true := by
      show decide ((elseC n).kind = 2) = true
      rw [kind_else]; rfl
    rw [chkC_if _ _ _ _ h ht (chkCs_nil _), hl, if_pos rfl, chkCs_one]
    exact chkC_else n d h
theorem testTk_chain : ∀ n : Nat, (testTk (chainT n)).length = n + 1
  | 0 => by unfold chainT; rfl
  | n + 1 => by
    unfold chainT
    unfold testTk
    rw [if_pos (.inl rfl), if_pos rfl]
    unfold testsTk1
    rw [List.length_cons, testTk_chain n]
theorem cmdTk_if (t : Tst) (th el : List Cmd) : (cmdTk (.mk 2 [] t th el)).length = 3 + (testTk t).length + (cmdsTk th).length + (elseTk el).length := by
  unfold cmdTk
  rw [if_pos rfl]
  simp only [List.length_cons, List.length_append, List.length_nil]
  omega
theorem cmdsTk_one (c : Cmd) : cmdsTk [c] = cmdTk c := by
  unfold cmdsTk
  unfold cmdsTk
  rw [List.append_nil]
theorem cmdTk_chain : ∀ n : Nat, (cmdTk (chainC n)).length = 4 * n + 4
  | 0 => by unfold chainC; rfl
  | n + 1 => by
    unfold chainC
    rw [cmdTk_if, cmdsTk_one, cmdTk_chain n]
    have h1 : (testTk trueT).length = 1 := testTk_chain 0
    have h2 : (elseTk []).length = 0 := rfl
    omega
theorem cmdTk_pos (c : Cmd) : 0 < (cmdTk c).length := by
  cases c
  unfold cmdTk
  simp
theorem cmdTk_else : ∀ n : Nat, (cmdTk (elseC n)).length = 4 * n + 4
  | 0 => by unfold elseC; rfl
  | n + 1 => by
    unfold elseC
    rw [cmdTk_if]
    have h1 : (testTk falseT).length = 1 := rfl
    have h2 : (cmdsTk []).length = 0 := rfl
    have h3 : (elseTk [elseC n]).length = (cmdTk (elseC n)).length := by
      unfold elseTk
      rw [if_pos ⟨rfl, kind_else n⟩, List.length_cons, List.length_tail]
      have := cmdTk_pos (elseC n)
      omega
    rw [h3, cmdTk_else n]
    omega
/-- A script of one command, as it stands under an if. -/
def deepT (k : Nat) : Cmd := .mk 2 [] (chainT k) [] []
theorem chkC_deepT (k : Nat) : chkC (deepT k) 0 = if 6 < 1 + (k : Int) then 1 else 0 := by
  unfold deepT
  by_cases h : 6 < 1 + (k : Int)
  · rw [if_pos h]
    have hc := chkT_chain k 1
    rw [if_pos h] at hc
    unfold chkC
    rw [if_neg (by decide), if_neg (by decide), if_pos rfl, if_neg (by simp), if_pos (by rw [hc]; decide), hc]
  · have hc := chkT_chain k 1
    rw [if_neg h] at hc
    rw [if_neg h, chkC_if _ _ _ _ (by decide) hc (chkCs_nil _), chkCs_nil]
theorem cmdTk_deepT (k : Nat) : (cmdTk (deepT k)).length = k + 4 := by
  unfold deepT
  rw [cmdTk_if, testTk_chain]
  have h1 : (cmdsTk []).length = 0 := rfl
  have h2 : (elseTk []).length = 0 := rfl
  omega
end Go.Proofs.YtgmnoemkdigafaaDoor
