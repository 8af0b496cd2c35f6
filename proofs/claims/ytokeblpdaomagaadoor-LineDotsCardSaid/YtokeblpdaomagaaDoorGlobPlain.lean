/- Plain laws of matching: what a list of pieces matches, and the greedy walk that finds it. -/
import Derived.Below
namespace Go.Proofs.YtokeblpdaomagaaDoor

/-- A piece of a pattern: a byte, any one, or any many. -/
structure Pc where
  c : UInt8
  one : Bool
  many : Bool
/-- The pieces of a pattern. -/
def piecesL : List UInt8 → List Pc
  | [] => []
  | [c] => [⟨c, (c.toNat : Int) == 63, (c.toNat : Int) == 42⟩]
  | c :: d :: r => if c = 92 then ⟨d, false, false⟩ :: piecesL r else ⟨c, (c.toNat : Int) == 63, (c.toNat : Int) == 42⟩ :: piecesL (d :: r)

theorem piecesL_len : ∀ l : List UInt8, (piecesL l).length ≤ l.length
  | [] => Nat.le_refl _
  | [c] => Nat.le_refl _
  | c :: d :: r => by
    rw [piecesL]
    split
    · have := piecesL_len r
      simp; omega
    · have := piecesL_len (d :: r)
      simp at this ⊢; omega

/-- Does a text match? -/
def mt : List UInt8 → List Pc → Bool
  | [], [] => true
  | [], p :: l => p.many && mt [] l
  | _ :: _, [] => false
  | c :: s, p :: l => if p.many then mt (c :: s) l || mt s (p :: l) else (p.one || p.c == c) && mt s l
termination_by s l => s.length + l.length

theorem mt_nil_nil : mt [] [] = true := by simp [mt]
theorem mt_nil_cons (p : Pc) (l : List Pc) : mt [] (p :: l) = (p.many && mt [] l) := by simp [mt]
theorem mt_cons_nil (c : UInt8) (s : List UInt8) : mt (c :: s) [] = false := by simp [mt]
theorem mt_cons_many (c : UInt8) (s : List UInt8) (p : Pc) (l : List Pc) (h : p.many = true) : mt (c :: s) (p :: l) = (mt (c :: s) l || mt s (p :: l)) := by rw [mt, if_pos h]
theorem mt_cons_one (c : UInt8) (s : List UInt8) (p : Pc) (l : List Pc) (h : p.many = false) : mt (c :: s) (p :: l) = ((p.one || p.c == c) && mt s l) := by rw [mt, if_neg (by rw [h]; simp)]

theorem mt_many_iff (p : Pc) (l : List Pc) (h : p.many = true) : ∀ s : List UInt8, mt s (p :: l) = true ↔ ∃ g, g ≤ s.length ∧ mt (s.drop g) l = true
  | [] => by
    rw [mt_nil_cons, h, Bool.true_and]
    exact ⟨fun e => ⟨0, Nat.le_refl _, e⟩, fun ⟨g, _, e⟩ => by simpa using e⟩
  | c :: s => by
    rw [mt_cons_many c s p l h, Bool.or_eq_true, mt_many_iff p l h s]
    constructor
    · rintro (e | ⟨g, hg, e⟩)
      · exact ⟨0, Nat.zero_le _, e⟩
      · exact ⟨g + 1, by simp; omega, by simpa using e⟩
    · rintro ⟨g, hg, e⟩
      cases g with
      | zero => exact .inl e
      | succ g => exact .inr ⟨g, by simp at hg; omega, by simpa using e⟩

theorem mt_one_iff (p : Pc) (l : List Pc) (h : p.many = false) (s : List UInt8) (g : Nat) :
    mt (s.drop g) (p :: l) = true ↔ ∃ hg : g < s.length, (p.one || p.c == s[g]) = true ∧ mt (s.drop (g + 1)) l = true := by
  by_cases hg : g < s.length
  · rw [List.drop_eq_getElem_cons hg, mt_cons_one _ _ _ _ h, Bool.and_eq_true]
    exact ⟨fun e => ⟨hg, e⟩, fun ⟨_, e⟩ => e⟩
  · rw [List.drop_of_length_le (by omega), mt_nil_cons, h]
    exact ⟨fun e => by simp at e, fun ⟨e, _⟩ => absurd e hg⟩

/-- Pieces that stand for one byte each. -/
theorem mt_fixed (s : List UInt8) (l : List Pc) (a : Nat) : ∀ (d g : Nat), a + d ≤ l.length → (∀ j, a ≤ j → j < a + d → ∀ h : j < l.length, l[j].many = false) →
    mt (s.drop g) (l.drop a) = true → g ≤ s.length → g + d ≤ s.length ∧ mt (s.drop (g + d)) (l.drop (a + d)) = true
  | 0, g, _, _, h, hg => ⟨by omega, by simpa using h⟩
  | d + 1, g, hl, hn, h, hg => by
    obtain ⟨h1, h2⟩ := mt_fixed s l a d g (by omega) (fun j h1 h2 => hn j h1 (by omega)) h hg
    have hlt : a + d < l.length := by omega
    rw [List.drop_eq_getElem_cons hlt] at h2
    obtain ⟨h3, _, h4⟩ := (mt_one_iff _ _ (hn (a + d) (by omega) (by omega) hlt) s (g + d)).1 h2
    exact ⟨by omega, by rw [show g + (d + 1) = g + d + 1 by omega, show a + (d + 1) = a + d + 1 by omega]; exact h4⟩

/-- What the greedy walk knows: at byte i and piece k; st: the last star's place, f: what it has taken so far. -/
structure MInv (s : List UInt8) (l : List Pc) (i k : Nat) (st : Int) (f : Nat) : Prop where
  i_le : i ≤ s.length
  k_le : k ≤ l.length
  way : (st = -1 ∧ (mt s l = true ↔ mt (s.drop i) (l.drop k) = true)) ∨
    (∃ q : Nat, st = (q : Int) ∧ q < k ∧ f ≤ i ∧ i = f + (k - q - 1) ∧ (∀ j, q + 1 ≤ j → j < k → ∀ h : j < l.length, l[j].many = false) ∧
      (mt s l = true ↔ (mt (s.drop i) (l.drop k) = true ∨ ∃ g, f < g ∧ g ≤ s.length ∧ mt (s.drop g) (l.drop (q + 1)) = true)))

theorem MInv.begin_ (s : List UInt8) (l : List Pc) : MInv s l 0 0 (-1) 0 :=
  ⟨Nat.zero_le _, Nat.zero_le _, .inl ⟨rfl, by simp⟩⟩

theorem MInv.star {s : List UInt8} {l : List Pc} {i k f : Nat} {st : Int} (h : MInv s l i k st f) (hk : k < l.length) (hm : l[k].many = true) : MInv s l i (k + 1) k i := by
  have e : mt (s.drop i) (l.drop k) = true ↔ (mt (s.drop i) (l.drop (k + 1)) = true ∨ ∃ g, i < g ∧ g ≤ s.length ∧ mt (s.drop g) (l.drop (k + 1)) = true) := by
    rw [List.drop_eq_getElem_cons hk, mt_many_iff _ _ hm]
    constructor
    · rintro ⟨g, hg, e⟩
      rw [List.drop_drop] at e
      cases g with
      | zero => exact .inl (by simpa using e)
      | succ g => exact .inr ⟨i + (g + 1), by omega, by simp at hg; omega, e⟩
    · rintro (e | ⟨g, h1, h2, e⟩)
      · exact ⟨0, Nat.zero_le _, by simpa using e⟩
      · exact ⟨g - i, by simp; omega, by rw [List.drop_drop, show i + (g - i) = g by omega]; exact e⟩
  refine ⟨h.i_le, hk, .inr ⟨k, rfl, by omega, Nat.le_refl _, by omega, fun j h1 h2 => by omega, ?_⟩⟩
  rcases h.way with ⟨_, hw⟩ | ⟨q, _, hq, hf, hi, hn, hw⟩
  · rw [hw, e]
  · rw [hw]
    constructor
    · rintro (h1 | ⟨g, h1, h2, h3⟩)
      · exact e.1 h1
      · refine e.1 ?_
        have hkq : q + 1 + (k - q - 1) = k := by omega
        obtain ⟨h4, h5⟩ := mt_fixed s l (q + 1) (k - q - 1) g (by omega) (fun j a b => hn j a (by omega)) h3 h2
        rw [hkq, List.drop_eq_getElem_cons hk, mt_many_iff _ _ hm] at h5
        obtain ⟨g2, h6, h7⟩ := h5
        rw [List.drop_drop] at h7
        rw [List.drop_eq_getElem_cons hk, mt_many_iff _ _ hm]
        refine ⟨g + (k - q - 1) + g2 - i, by simp at h6 ⊢; omega, ?_⟩
        rw [List.drop_drop, show i + (g + (k - q - 1) + g2 - i) = g + (k - q - 1) + g2 by omega]
        exact h7
    · intro h1
      exact .inl (e.2 h1)

theorem MInv.step {s : List UInt8} {l : List Pc} {i k f : Nat} {st : Int} (h : MInv s l i k st f) (hi : i < s.length) (hk : k < l.length) (hm : l[k].many = false) (ho : (l[k].one || l[k].c == s[i]) = true) :
    MInv s l (i + 1) (k + 1) st f := by
  have e : mt (s.drop i) (l.drop k) = true ↔ mt (s.drop (i + 1)) (l.drop (k + 1)) = true := by
    rw [List.drop_eq_getElem_cons hk, mt_one_iff _ _ hm]
    exact ⟨fun ⟨_, _, x⟩ => x, fun x => ⟨hi, ho, x⟩⟩
  refine ⟨hi, hk, ?_⟩
  rcases h.way with ⟨h1, hw⟩ | ⟨q, h1, hq, hf, hi2, hn, hw⟩
  · exact .inl ⟨h1, hw.trans e⟩
  · refine .inr ⟨q, h1, by omega, by omega, by omega, fun j a b hl => ?_, ?_⟩
    · by_cases hj : j = k
      · subst hj; exact hm
      · exact hn j a (by omega) hl
    · rw [hw, e]

theorem MInv.no {s : List UInt8} {l : List Pc} {i k : Nat} (hi : i < s.length) (hno : k = l.length ∨ ∃ hk : k < l.length, l[k].many = false ∧ (l[k].one || l[k].c == s[i]) = false) :
    mt (s.drop i) (l.drop k) = false := by
  rcases hno with rfl | ⟨hk, hm, ho⟩
  · rw [List.drop_length, List.drop_eq_getElem_cons hi, mt_cons_nil]
  · rw [List.drop_eq_getElem_cons hi, List.drop_eq_getElem_cons hk, mt_cons_one _ _ _ _ hm, ho, Bool.false_and]

theorem MInv.back {s : List UInt8} {l : List Pc} {i k f q : Nat} (h : MInv s l i k q f) (hi : i < s.length) (hno : mt (s.drop i) (l.drop k) = false) : MInv s l (f + 1) (q + 1) q (f + 1) := by
  rcases h.way with ⟨h1, _⟩ | ⟨q', h1, hq, hf, hi2, hn, hw⟩
  · omega
  · obtain rfl : q = q' := by omega
    refine ⟨by omega, by have := h.k_le; omega, .inr ⟨q, rfl, by omega, Nat.le_refl _, by omega, fun j a b => by omega, ?_⟩⟩
    rw [hw, hno]
    constructor
    · rintro (h2 | ⟨g, h2, h3, h4⟩)
      · simp at h2
      · by_cases hg : g = f + 1
        · subst hg; exact .inl h4
        · exact .inr ⟨g, by omega, h3, h4⟩
    · rintro (h2 | ⟨g, h2, h3, h4⟩)
      · exact .inr ⟨f + 1, by omega, by omega, h2⟩
      · exact .inr ⟨g, by omega, h3, h4⟩

theorem MInv.fail {s : List UInt8} {l : List Pc} {i k f : Nat} (h : MInv s l i k (-1) f) (hno : mt (s.drop i) (l.drop k) = false) : mt s l = false := by
  rcases h.way with ⟨_, hw⟩ | ⟨q, h1, _⟩
  · rw [hno] at hw
    simpa using hw
  · omega

theorem mt_nil_all : ∀ l : List Pc, mt [] l = l.all (·.many)
  | [] => by simp [mt]
  | p :: l => by rw [mt_nil_cons, mt_nil_all l]; rfl

theorem MInv.end_ {s : List UInt8} {l : List Pc} {k f : Nat} {st : Int} (h : MInv s l s.length k st f) : mt s l = (l.drop k).all (·.many) := by
  have e : mt s l = mt (s.drop s.length) (l.drop k) := by
    rcases h.way with ⟨_, hw⟩ | ⟨q, h1, hq, hf, hi2, hn, hw⟩
    · rw [Bool.eq_iff_iff]; exact hw
    · rw [Bool.eq_iff_iff, hw]
      constructor
      · rintro (h2 | ⟨g, h2, h3, h4⟩)
        · exact h2
        · obtain ⟨h5, _⟩ := mt_fixed s l (q + 1) (k - q - 1) g (by have := h.k_le; omega) (fun j a b => hn j a (by omega)) h4 h3
          omega
      · exact .inl
  rw [e, List.drop_length, mt_nil_all]

/-- How far it is to the end. -/
def mleft (n m : Nat) (i : Nat) (st : Int) (f : Nat) : Nat := ((m - (st + 1).toNat) * (n + 1) + (n - f)) * (n + 1) + (n - i)

theorem mleft_star {n m i k f : Nat} {st : Int} (hk : k < m) (hst : st < k) (h1 : -1 ≤ st) (hi : i ≤ n) : mleft n m i k i < mleft n m i st f := by
  unfold mleft
  have a : m - ((k : Int) + 1).toNat + 1 ≤ m - (st + 1).toNat := by omega
  have b : (m - ((k : Int) + 1).toNat + 1) * (n + 1) ≤ (m - (st + 1).toNat) * (n + 1) := Nat.mul_le_mul_right _ a
  rw [Nat.add_mul, Nat.one_mul] at b
  have c : (m - ((k : Int) + 1).toNat) * (n + 1) + (n - i) + 1 ≤ (m - (st + 1).toNat) * (n + 1) + (n - f) := by omega
  have d := Nat.mul_le_mul_right (n + 1) c
  rw [Nat.add_mul, Nat.one_mul] at d
  omega
theorem mleft_step {n m i f : Nat} {st : Int} (hi : i < n) : mleft n m (i + 1) st f < mleft n m i st f := by
  unfold mleft; omega
theorem mleft_back {n m i f : Nat} {st : Int} (hi : i < n) (hf : f ≤ i) : mleft n m (f + 1) st (f + 1) < mleft n m i st f := by
  unfold mleft
  have c : (m - (st + 1).toNat) * (n + 1) + (n - (f + 1)) + 1 ≤ (m - (st + 1).toNat) * (n + 1) + (n - f) := by omega
  have d := Nat.mul_le_mul_right (n + 1) c
  rw [Nat.add_mul _ 1, Nat.one_mul] at d
  omega
end Go.Proofs.YtokeblpdaomagaaDoor
