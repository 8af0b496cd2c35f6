/- Plain words on addresses: atoms, dotted texts, the word that raw bytes make. -/
import Derived.Test.YtgmnoemkdigafaaDoorKit
import Derived.Lib.Split
import Derived.Lib.SplitLaws
namespace Go.Proofs.YtgmnoemkdigafaaDoor
open Go.RowKit

def marks : List UInt8 := [33, 35, 36, 37, 38, 39, 42, 43, 45, 47, 61, 63, 94, 95, 123, 124, 125, 126, 96]
/-- May a byte be in an atom? -/
def atomB (c : UInt8) : Bool := (97 ≤ c && c ≤ 122) || (65 ≤ c && c ≤ 90) || (48 ≤ c && c ≤ 57) || marks.contains c
theorem indexByte_iff (c : UInt8) : ∀ l : List UInt8, decide ((0 : Int) ≤ Lib.indexByte l c) = l.contains c
  | [] => rfl
  | b :: l => by
    have ih := indexByte_iff c l
    have hg := Lib.indexByte_ge l c
    rw [Lib.indexByte, List.contains_cons]
    by_cases h : b = c
    · subst h; simp
    · have h1 : (b == c) = false := by simpa using h
      have h2 : (c == b) = false := by simpa using fun e : c = b => h e.symm
      rw [h1, h2, Bool.false_or, ← ih]
      simp only [Bool.false_eq_true, if_false]
      by_cases hm : Lib.indexByte l c = -1
      · rw [hm]; rfl
      · rw [if_neg (by simpa using hm)]
        rw [Bool.eq_iff_iff, decide_eq_true_iff, decide_eq_true_iff]
        omega

/-- A text cut at its dots. -/
def segs : List UInt8 → List (List UInt8)
  | [] => [[]]
  | c :: l => if c = 46 then [] :: segs l else match segs l with
    | x :: xs => (c :: x) :: xs
    | [] => [[c]]
theorem segs_ne (l : List UInt8) : segs l ≠ [] := by
  cases l with
  | nil => simp [segs]
  | cons c l =>
    rw [segs]
    split
    · simp
    · split <;> simp

theorem index_dot (b : UInt8) (l : List UInt8) : Lib.index (b :: l) [46] = if b = 46 then 0 else if Lib.index l [46] = -1 then -1 else Lib.index l [46] + 1 := by
  rw [Lib.index]
  by_cases h : b = 46
  · subst h; simp [List.isPrefixOf]
  · have h' : ¬ (46 : UInt8) = b := fun e => h e.symm
    simp [List.isPrefixOf, h, h']

theorem splitK_dot : ∀ (l : List UInt8) (k : Nat), l.count 46 ≤ k → Lib.splitK [46] 0 k l = segs l
  | [], k, _ => by
    cases k with
    | zero => rfl
    | succ k => simp [Lib.splitK, Lib.index, segs]
  | b :: l, k, hk => by
    by_cases h : b = 46
    · subst h
      rw [List.count_cons_self] at hk
      obtain ⟨k, rfl⟩ : ∃ m, k = m + 1 := ⟨k - 1, by omega⟩
      have ih := splitK_dot l k (by omega)
      have hi : Lib.index (46 :: l) [46] = 0 := by rw [index_dot, if_pos rfl]
      rw [Lib.splitK, hi, segs, if_pos rfl, ← ih]
      simp
    · rw [List.count_cons_of_ne h] at hk
      have ih := splitK_dot l k hk
      rw [segs, if_neg h, ← ih]
      cases k with
      | zero => rfl
      | succ k =>
        have hge := Lib.index_ge l [46]
        by_cases hm : Lib.index l [46] = -1
        · have hi : Lib.index (b :: l) [46] = -1 := by rw [index_dot, if_neg h, if_pos hm]
          simp [Lib.splitK, hi, hm]
        · have hi : Lib.index (b :: l) [46] = Lib.index l [46] + 1 := by rw [index_dot, if_neg h, if_neg hm]
          have e1 : (Lib.index l [46] + 1 == -1) = false := by rw [beq_eq_false_iff_ne]; omega
          have e2 : (Lib.index l [46] == -1) = false := by rw [beq_eq_false_iff_ne]; omega
          have e3 : (Lib.index l [46] + 1).toNat = (Lib.index l [46]).toNat + 1 := by omega
          have e4 : (Lib.index l [46]).toNat + 1 + 1 = ((Lib.index l [46]).toNat + 1) + 1 := rfl
          simp [Lib.splitK, hi, e1, e2, e3]

theorem countFrom_dot : ∀ (l : List UInt8) (n : Nat), l.length < n → Lib.countFrom [46] n l = l.count 46
  | [], n, hn => by
    cases n with
    | zero => simp at hn
    | succ n => simp [Lib.countFrom, Lib.index]
  | b :: l, n, hn => by
    obtain ⟨n, rfl⟩ : ∃ m, n = m + 1 := ⟨n - 1, by simp at hn; omega⟩
    by_cases h : b = 46
    · subst h
      have ih := countFrom_dot l n (by simp at hn; omega)
      have hi : Lib.index (46 :: l) [46] = 0 := by rw [index_dot, if_pos rfl]
      rw [List.count_cons_self, Lib.countFrom, hi, ← ih]
      simp
      omega
    · have ih := countFrom_dot l (n + 1) (by simp at hn; omega)
      rw [List.count_cons_of_ne h, ← ih]
      have hge := Lib.index_ge l [46]
      by_cases hm : Lib.index l [46] = -1
      · have hi : Lib.index (b :: l) [46] = -1 := by rw [index_dot, if_neg h, if_pos hm]
        simp [Lib.countFrom, hi, hm]
      · have hi : Lib.index (b :: l) [46] = Lib.index l [46] + 1 := by rw [index_dot, if_neg h, if_neg hm]
        have e1 : (Lib.index l [46] + 1 == -1) = false := by rw [beq_eq_false_iff_ne]; omega
        have e2 : (Lib.index l [46] == -1) = false := by rw [beq_eq_false_iff_ne]; omega
        have e3 : (Lib.index l [46] + 1).toNat = (Lib.index l [46]).toNat + 1 := by omega
        simp [Lib.countFrom, hi, e1, e2, e3]

def dotS : ByteArray := ⟨#[46]⟩
theorem splitB_segs (s : ByteArray) : (Lib.splitB dotS 0 (Lib.countB s dotS) s).map bs = segs (bs s) := by
  have h := Lib.splitB_data dotS 0 (Lib.countB s dotS) s
  have h2 : Lib.countB s dotS = (bs s).count 46 := by
    show Lib.countFrom [46] ((bs s).length + 1) (bs s) = _
    exact countFrom_dot _ _ (by omega)
  rw [h2] at h
  have h3 := splitK_dot (bs s) ((bs s).count 46) (Nat.le_refl _)
  rw [h2]
  exact h.trans h3

/-- Atoms with dots between. -/
def dotted (l : List UInt8) : Bool := (segs l).all fun p => !p.isEmpty && p.all atomB

/-- The word of raw bytes. -/
def wordL (l : List UInt8) : List UInt8 := if l = [] then [120] else (l.take 8).map fun c => 97 + c % 26

theorem atom_no_dot {c : UInt8} (h : atomB c = true) : c ≠ 46 := by
  rintro rfl
  exact absurd h (by decide)
theorem segs_plain : ∀ l : List UInt8, (∀ c ∈ l, c ≠ 46) → segs l = [l]
  | [], _ => rfl
  | c :: l, h => by
    rw [segs, if_neg (h c List.mem_cons_self), segs_plain l (fun d hd => h d (List.mem_cons_of_mem _ hd))]
theorem segs_dot : ∀ (a b : List UInt8), (∀ c ∈ a, c ≠ 46) → segs (a ++ 46 :: b) = a :: segs b
  | [], b, _ => by rw [List.nil_append, segs, if_pos rfl]
  | c :: a, b, h => by
    rw [List.cons_append, segs, if_neg (h c List.mem_cons_self), segs_dot a b (fun d hd => h d (List.mem_cons_of_mem _ hd))]
theorem dotted_plain {l : List UInt8} (h : l.all atomB = true) (h0 : l ≠ []) : dotted l = true := by
  have h1 := List.all_eq_true.1 h
  unfold dotted
  rw [segs_plain l (fun c hc => atom_no_dot (h1 c hc)), List.all_cons, h]
  cases l with
  | nil => exact absurd rfl h0
  | cons c l => rfl
theorem dotted_cons {a b : List UInt8} (h : a.all atomB = true) (h0 : a ≠ []) : dotted (a ++ 46 :: b) = dotted b := by
  have h1 := List.all_eq_true.1 h
  unfold dotted
  rw [segs_dot a b (fun c hc => atom_no_dot (h1 c hc)), List.all_cons, h]
  cases a with
  | nil => exact absurd rfl h0
  | cons c l => rfl
def byteW (c : UInt8) : UInt8 := 97 + c % 26
theorem byteW_atom (c : UInt8) : atomB (byteW c) = true := by
  have h : ∀ n : Fin 256, atomB (byteW (UInt8.ofNat n.val)) = true := by decide +kernel
  have := h ⟨c.toNat, c.toNat_lt⟩
  simpa using this
theorem wordL_atom (l : List UInt8) : (wordL l).all atomB = true := by
  unfold wordL
  split
  · decide
  · rw [List.all_map, List.all_eq_true]
    exact fun c _ => byteW_atom c
theorem wordL_len (l : List UInt8) : 1 ≤ (wordL l).length ∧ (wordL l).length ≤ 8 := by
  unfold wordL
  split
  · decide
  · rename_i h
    have := List.length_pos_iff.2 h
    rw [List.length_map, List.length_take]; omega
theorem wordL_ne (l : List UInt8) : wordL l ≠ [] := by
  intro h
  have := (wordL_len l).1
  rw [h] at this
  simp at this
/-- The domain that raw bytes make. -/
def orgL (l : List UInt8) : List UInt8 := wordL l ++ [46, 111, 114, 103]
theorem dotted_word (l : List UInt8) : dotted (wordL l) = true := dotted_plain (wordL_atom l) (wordL_ne l)
theorem dotted_org (l : List UInt8) : dotted (orgL l) = true := by
  unfold orgL
  rw [dotted_cons (wordL_atom l) (wordL_ne l)]
  decide
end Go.Proofs.YtgmnoemkdigafaaDoor
