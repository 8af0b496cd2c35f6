/- Plain words: how often a word stands among a script's tokens. -/
import Derived.Test.YtgmnoemkdigafaaDoorScrStk
import Derived.Test.YtgmnoemkdigafaaDoorScrList
import Derived.Test.YtgmnoemkdigafaaDoorScrMk
namespace Go.Proofs.YtgmnoemkdigafaaDoor
open Go.RowKit
set_option linter.unusedVariables false
set_option linter.unusedSimpArgs false

def isW (s : ByteArray) (t : Tok) : Bool := decide (t.kind = 1 ∧ t.text = s)
def cntW (s : ByteArray) (l : List Tok) : Nat := l.countP (isW s)
def elseS : ByteArray := mkS [101, 108, 115, 101]
def elsifS : ByteArray := mkS [101, 108, 115, 105, 102]
theorem cntW_append (s : ByteArray) (a b : List Tok) : cntW s (a ++ b) = cntW s a + cntW s b := List.countP_append
theorem cntW_cons (s : ByteArray) (t : Tok) (l : List Tok) : cntW s (t :: l) = cntW s l + (if isW s t = true then 1 else 0) := List.countP_cons
theorem cntW_nil (s : ByteArray) : cntW s [] = 0 := rfl
theorem isW_word (s u : List UInt8) : isW (mkS s) (wordTk (mkS u)) = decide (u = s) := by
  unfold isW wordTk
  by_cases h : u = s
  · subst h; simp
  · have : mkS u ≠ mkS s := fun e => h (mkS_inj e)
    simp [h, this]
theorem isW_mark (s : ByteArray) (c : UInt8) : isW s (markTk c) = false := by unfold isW markTk; simp
theorem isW_kind {s : ByteArray} {t : Tok} (h : t.kind ≠ 1) : isW s t = false := by unfold isW; simp [h]
theorem cntW_kind (s : ByteArray) : ∀ l : List Tok, (∀ t ∈ l, t.kind ≠ 1) → cntW s l = 0
  | [], _ => rfl
  | t :: l, h => by
    rw [cntW_cons, cntW_kind s l (fun t ht => h t (by simp [ht])), isW_kind (h t (by simp))]; rfl
theorem listTks_kind : ∀ (l : List ByteArray) (i : Nat), ∀ t ∈ listTks i l, t.kind ≠ 1
  | [], i, t, h => by simp [listTks] at h
  | s :: l, i, t, h => by
    rw [listTks] at h
    rcases List.mem_cons.1 h with rfl | h
    · show (5 : Int) ≠ 1; decide
    · rcases List.mem_cons.1 h with rfl | h
      · show (4 : Int) ≠ 1; decide
      · exact listTks_kind l (i + 1) t h
theorem listTk_kind (l : List ByteArray) : ∀ t ∈ listTk l, t.kind ≠ 1 := by
  intro t h
  match l with
  | [] => exact (by
      rw [listTk_many [] (by simp)] at h
      simp only [listTks, List.nil_append, List.mem_singleton] at h
      subst h; show (5 : Int) ≠ 1; decide)
  | [s] =>
    simp only [listTk, List.mem_singleton] at h
    subst h; show (4 : Int) ≠ 1; decide
  | a :: b :: r =>
    rw [listTk_many _ (by simp)] at h
    rcases List.mem_append.1 h with h | h
    · exact listTks_kind _ _ t h
    · obtain rfl := List.mem_singleton.1 h
      show (5 : Int) ≠ 1; decide
/-- A leaf's tokens: a word, and none behind it. -/
theorem leaf_tail (k : Int) (h3 : ¬ (3 ≤ k ∧ k ≤ 5)) (x : Stk) : ∃ l, testTk (leafT k x) = wordTk (wAt testsW k) :: l ∧ ∀ t ∈ l, t.kind ≠ 1 := by
  obtain ⟨k', a, b, s, t, inn⟩ := x
  have hN := listTk_kind [hdrN b]
  have hE := listTk_kind [envN b]
  have hK := listTk_kind (keysT a s t)
  have hX := listTk_kind (namesE a b s)
  have e2 : ∀ u : ByteArray, (tagTk u).kind ≠ 1 := fun u => by show (2 : Int) ≠ 1; decide
  unfold leafT
  dsimp only
  split
  · rename_i h; subst h
    refine ⟨_, by rw [testTk], ?_⟩
    intro u hu
    simp only [Int.reduceEq, Int.reduceLE, or_self, and_self, if_false, if_true, ite_true, ite_false, List.nil_append, List.mem_cons, List.mem_append] at hu
    rcases hu with rfl | hu | hu
    · exact e2 _
    · exact hN u hu
    · exact hK u hu
  split
  · rename_i h; subst h
    refine ⟨_, by rw [testTk], ?_⟩
    intro u hu
    simp only [Int.reduceEq, Int.reduceLE, or_self, and_self, if_false, if_true, ite_true, ite_false, List.cons_append, List.nil_append, List.mem_cons, List.mem_append] at hu
    rcases hu with rfl | rfl | hu | hu
    · exact e2 _
    · exact e2 _
    · exact hN u hu
    · exact hK u hu
  split
  · rename_i h; subst h
    refine ⟨_, by rw [testTk], ?_⟩
    intro u hu
    simp only [Int.reduceEq, Int.reduceLE, or_self, and_self, if_false, if_true, ite_true, ite_false, List.cons_append, List.nil_append, List.mem_cons, List.mem_append] at hu
    rcases hu with rfl | rfl | hu | hu
    · exact e2 _
    · exact e2 _
    · exact hE u hu
    · exact hK u hu
  split
  · rename_i h; subst h
    refine ⟨_, by rw [testTk], ?_⟩
    intro u hu
    simp only [Int.reduceEq, Int.reduceLE, or_self, and_self, and_false, false_and, if_false, if_true, ite_true, ite_false] at hu
    exact hX u hu
  split
  · rename_i h; subst h
    refine ⟨_, by rw [testTk], ?_⟩
    intro u hu
    simp only [Int.reduceEq, Int.reduceLE, or_self, and_self, and_false, false_and, if_false, if_true, ite_true, ite_false, List.mem_cons, List.not_mem_nil, or_false] at hu
    rcases hu with rfl | rfl
    · exact e2 _
    · show (3 : Int) ≠ 1; decide
  · refine ⟨_, by rw [testTk], ?_⟩
    intro u hu
    rw [if_neg (by omega), if_neg (by omega), if_neg (by omega), if_neg (by omega)] at hu
    simp at hu
theorem cnt_leaf (s : List UInt8) (hs : ∀ k : Nat, k < 11 → testsW.getD k [] ≠ s) (k : Int) (h1 : 1 ≤ k) (h2 : k ≤ 10) (h3 : ¬ (3 ≤ k ∧ k ≤ 5)) (x : Stk) : cntW (mkS s) (testTk (leafT k x)) = 0 := by
  obtain ⟨l, e, hl⟩ := leaf_tail k h3 x
  rw [e, cntW_cons, cntW_kind _ l hl]
  unfold wAt
  rw [isW_word, decide_eq_false (hs k.toNat (by omega))]
  rfl
theorem cnt_test0 (s : List UInt8) (hs : ∀ k : Nat, k < 11 → testsW.getD k [] ≠ s) (x : Stk) : cntW (mkS s) (testTk (testN 0 x)) = 0 := by
  obtain ⟨h1, h2⟩ := k0_le x
  unfold testN
  exact cnt_leaf s hs _ (by split <;> omega) (by split <;> omega) (by split <;> omega) x
def cA (x y : Stk) : Cmd := .mk 2 [] (testN 0 x) [] [.mk 2 [] (testN 0 y) [] []]
def cB (x y : Stk) : Cmd := .mk 2 [] (testN 0 x) [] [.mk 3 [] zeroT [] [], .mk 2 [] (testN 0 y) [] []]
theorem tk_if0 (t : Tst) : cmdTk (.mk 2 [] t [] []) = wordTk (wAt commandsW 2) :: (testTk t ++ [markTk 123, markTk 125]) := by
  rw [cmdTk, if_pos rfl, cmdsTk, elseTk_nil]; simp
theorem tk_A (x y : Stk) : cmdsTk [cA x y] = wordTk (wAt commandsW 2) :: (testTk (testN 0 x) ++ [markTk 123, markTk 125]) ++ wordTk elsifS :: (testTk (testN 0 y) ++ [markTk 123, markTk 125]) := by
  rw [cmdsTk_single]
  unfold cA
  rw [cmdTk, if_pos rfl, cmdsTk, elseTk_one _ rfl, tk_if0, List.tail_cons]
  simp [elsifS]
theorem tk_B (x y : Stk) : cmdsTk [cB x y] = wordTk (wAt commandsW 2) :: (testTk (testN 0 x) ++ [markTk 123, markTk 125]) ++ wordTk elseS :: (markTk 123 :: (wordTk (wAt commandsW 3) :: markTk 59 :: (wordTk (wAt commandsW 2) :: (testTk (testN 0 y) ++ [markTk 123, markTk 125])) ++ [markTk 125])) := by
  rw [cmdsTk_single]
  unfold cB
  have h3 : cmdTk (.mk 3 [] zeroT [] []) = [wordTk (wAt commandsW 3), markTk 59] := by rw [cmdTk, if_neg (by decide)]; simp
  rw [cmdTk, if_pos rfl, cmdsTk, elseTk_many (by simp) rfl, cmdsTk, cmdsTk_single, h3, tk_if0]
  simp [elseS]
theorem marks0 (s : ByteArray) : cntW s [markTk 123, markTk 125] = 0 := by
  rw [cntW_cons, cntW_cons, isW_mark, isW_mark]; rfl
theorem cnt_A (x y : Stk) : cntW elsifS (cmdsTk [cA x y]) = 1 ∧ cntW elseS (cmdsTk [cA x y]) = 0 := by
  rw [tk_A]
  constructor
  · have h := cnt_test0 [101, 108, 115, 105, 102] (by decide)
    unfold elsifS
    simp only [cntW_append, cntW_cons, h, marks0, wAt, isW_word, List.cons_append]
    rfl
  · have h := cnt_test0 [101, 108, 115, 101] (by decide)
    unfold elseS elsifS
    simp only [cntW_append, cntW_cons, h, marks0, wAt, isW_word, List.cons_append]
    rfl
theorem cnt_B (x y : Stk) : cntW elseS (cmdsTk [cB x y]) = 1 := by
  rw [tk_B]
  have h := cnt_test0 [101, 108, 115, 101] (by decide)
  unfold elseS
  simp only [cntW_append, cntW_cons, h, marks0, wAt, isW_word, isW_mark, List.cons_append, cntW_nil]
  rfl
theorem len_A (x y : Stk) : (cmdsTk [cA x y]).length ≤ 40 := by
  rw [tk_A]
  have h1 := testNTk_le 0 x
  have h2 := testNTk_le 0 y
  simp only [maxTk] at h1 h2
  simp; omega
theorem len_B (x y : Stk) : (cmdsTk [cB x y]).length ≤ 40 := by
  rw [tk_B]
  have h1 := testNTk_le 0 x
  have h2 := testNTk_le 0 y
  simp only [maxTk] at h1 h2
  simp; omega
theorem ok_A (x y : Stk) : okC (cA x y) := okC_if (okT_testN 0 x) okCs_nil (okCs_one (okC_if (okT_testN 0 y) okCs_nil okCs_nil))
theorem okC_keep : okC (.mk 3 [] zeroT [] []) := by unfold okC; exact .inr ⟨by decide, by decide, by decide, rfl, rfl, rfl, rfl⟩
theorem ok_B (x y : Stk) : okC (cB x y) := okC_if (okT_testN 0 x) okCs_nil (by unfold okCs; exact ⟨okC_keep, okCs_one (okC_if (okT_testN 0 y) okCs_nil okCs_nil)⟩)
theorem leaf_shape (k : Int) (x : Stk) : ∃ (k1 m p : Int) (ns ks : List ByteArray) (o : Bool) (lm : Int), leafT k x = .mk k1 m p ns ks o lm [] := by
  obtain ⟨k', a, b, s, t, inn⟩ := x
  unfold leafT
  dsimp only
  split
  · exact ⟨_, _, _, _, _, _, _, rfl⟩
  split
  · exact ⟨_, _, _, _, _, _, _, rfl⟩
  split
  · exact ⟨_, _, _, _, _, _, _, rfl⟩
  split
  · exact ⟨_, _, _, _, _, _, _, rfl⟩
  split
  · exact ⟨_, _, _, _, _, _, _, rfl⟩
  · exact ⟨_, _, _, _, _, _, _, rfl⟩
theorem chk_leaf (k : Int) (h1 : 1 ≤ k) (h2 : k ≤ 10) (h3 : ¬ (3 ≤ k ∧ k ≤ 5)) (x : Stk) : chkT (leafT k x) 1 = 0 := by
  have hok := okT_leafT k h1 h2 h3 x
  obtain ⟨k1, m, p, ns, ks, o, lm, e⟩ := leaf_shape k x
  rw [e] at hok ⊢
  rw [chkT_ok hok, if_neg (by decide), chkTs]
theorem chk_test0 (x : Stk) : chkT (testN 0 x) 1 = 0 := by
  obtain ⟨h1, h2⟩ := k0_le x
  unfold testN
  exact chk_leaf _ (by split <;> omega) (by split <;> omega) (by split <;> omega) x
theorem chkC_leaf (x : Stk) (d : Int) (hd : ¬ 6 < d) : chkC (.mk 2 [] (testN 0 x) [] []) d = 0 := by
  rw [chkC_if _ _ _ _ hd (chk_test0 x) (chkCs_nil _), chkCs_nil]
theorem chk_A (x y : Stk) : chkC (cA x y) 0 = 0 := by
  unfold cA
  rw [chkC_if _ _ _ _ (by decide) (chk_test0 x) (chkCs_nil _), show lone [Cmd.mk 2 [] (testN 0 y) [] []] = true from rfl, if_pos rfl, chkCs_one]
  exact chkC_leaf y 0 (by decide)
theorem chk_B (x y : Stk) : chkC (cB x y) 0 = 0 := by
  unfold cB
  rw [chkC_if _ _ _ _ (by decide) (chk_test0 x) (chkCs_nil _), show lone [Cmd.mk 3 [] zeroT [] [], Cmd.mk 2 [] (testN 0 y) [] []] = false from rfl, if_neg (by decide)]
  have h1 : chkC (.mk 3 [] zeroT [] []) (0 + 1) = 0 := by rw [chkC_other (by decide) (by decide) (by decide) rfl]; rfl
  rw [chkCs, if_neg (by rw [h1]; simp), chkCs_one]
  exact chkC_leaf y (0 + 1) (by decide)
theorem new_set {wa wb W W5 : World} {B cb : Nat} (hm : Mv cb wb W5) (hne : ∀ k, B ≤ k → k < wa.heap.size → k ≠ cb) (h : Below wa.heap.size wa wb) (h3 : Below W5.heap.size W5 W) : New B wa W := fun k h1 h2 => by
  have hs := h.size
  have hm2 := hm.size
  rw [h3.block k (by omega), hm.block k (by omega) (hne k h1 h2), h.block k h2]
theorem new_set2 {wb W W5 : World} {B cb : Nat} (hm : Mv cb wb W5) (hB : cb < B) (h3 : Below W5.heap.size W5 W) : New B wb W := fun k h1 h2 => by
  have hm2 := hm.size
  rw [h3.block k (by omega), hm.block k h2 (by omega)]
/-- What a first call has made stands behind a second one. -/
theorem new_of {w0 wa wb W : World} {B : Nat} (h1 : Below w0.heap.size w0 wa) (h2 : Below wa.heap.size wa wb) (h3 : Below wb.heap.size wb W) : New B wa W := New.of_below (btr h2 h3)
end Go.Proofs.YtgmnoemkdigafaaDoor
