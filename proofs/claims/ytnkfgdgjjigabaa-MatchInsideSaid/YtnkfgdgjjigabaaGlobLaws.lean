/- Plain laws of matching that the statements on glob ask for. -/
import Derived.Test.YtnkfgdgjjigabaaGlobPlain
import Derived.Test.YtnkfgdgjjigabaaGlobFold
import Derived.Test.YtnkfgdgjjigabaaGlobHelp
namespace Go.Proofs.Ytnkfgdgjjigabaa

def foldL (l : List UInt8) : List UInt8 := l.map smallB
theorem foldB_mkS (l : List UInt8) : foldB (mkS l) = mkS (foldL l) := rfl
theorem foldB_eq (s : ByteArray) : foldB s = mkS (foldL (bs s)) := rfl
theorem bs_foldB (s : ByteArray) : bs (foldB s) = foldL (bs s) := rfl
theorem foldL_append (a b : List UInt8) : foldL (a ++ b) = foldL a ++ foldL b := by simp [foldL]
theorem foldL_len (a : List UInt8) : (foldL a).length = a.length := by simp [foldL]
theorem smallB_92 (c : UInt8) : smallB c = 92 ↔ c = 92 := by
  have h : ∀ n : Fin 256, smallB (UInt8.ofNat n.val) = 92 ↔ UInt8.ofNat n.val = 92 := by decide +kernel
  have := h ⟨c.toNat, c.toNat_lt⟩
  simpa using this
theorem smallB_twice (c : UInt8) : smallB (smallB c) = smallB c := by
  have h : ∀ n : Fin 256, smallB (smallB (UInt8.ofNat n.val)) = smallB (UInt8.ofNat n.val) := by decide +kernel
  have := h ⟨c.toNat, c.toNat_lt⟩
  simpa using this
theorem foldL_twice (l : List UInt8) : foldL (foldL l) = foldL l := by
  simp [foldL, Function.comp_def, smallB_twice]
theorem foldL_mask (l : List UInt8) : foldL (maskL l) = maskL (foldL l) := by
  induction l with
  | nil => rfl
  | cons c l ih =>
    have e1 : maskL (c :: l) = 92 :: c :: maskL l := rfl
    have e2 : foldL (c :: l) = smallB c :: foldL l := rfl
    rw [e1, e2]
    show smallB 92 :: smallB c :: foldL (maskL l) = 92 :: smallB c :: maskL (foldL l)
    rw [ih, show smallB 92 = 92 from rfl]

/-- A piece that is just this byte. -/
def lit (c : UInt8) : Pc := ⟨c, false, false⟩
def star : Pc := ⟨42, false, true⟩
def any1 : Pc := ⟨63, true, false⟩
theorem pieces_mask (u r : List UInt8) : piecesL (maskL u ++ r) = u.map lit ++ piecesL r := by
  induction u with
  | nil => rfl
  | cons c u ih =>
    show piecesL (92 :: c :: (maskL u ++ r)) = lit c :: (u.map lit ++ piecesL r)
    rw [piecesL, if_pos rfl, ih]; rfl
theorem pieces_mask0 (u : List UInt8) : piecesL (maskL u) = u.map lit := by
  have h := pieces_mask u []
  simpa [piecesL] using h
theorem pieces_star (r : List UInt8) : piecesL (42 :: r) = star :: piecesL r := by
  cases r with
  | nil => rfl
  | cons c r => rw [piecesL, if_neg (by decide)]; rfl
theorem pieces_any (r : List UInt8) : piecesL (63 :: r) = any1 :: piecesL r := by
  cases r with
  | nil => rfl
  | cons c r => rw [piecesL, if_neg (by decide)]; rfl

theorem mt_lits (u s : List UInt8) (l : List Pc) : mt (u ++ s) (u.map lit ++ l) = mt s l := by
  induction u with
  | nil => rfl
  | cons c u ih =>
    show mt (c :: (u ++ s)) (lit c :: (u.map lit ++ l)) = _
    rw [mt_cons_one _ _ _ _ rfl, ih]
    simp [lit]
theorem mt_lits_iff (l : List Pc) : ∀ (u s : List UInt8), mt s (u.map lit ++ l) = true ↔ ∃ r, s = u ++ r ∧ mt r l = true
  | [], s => ⟨fun h => ⟨s, rfl, h⟩, fun ⟨r, h1, h2⟩ => by rw [h1]; exact h2⟩
  | c :: u, [] => by
    constructor
    · intro h
      rw [List.map_cons, List.cons_append, mt_nil_cons] at h
      simp [lit] at h
    · rintro ⟨r, h, _⟩
      simp at h
  | c :: u, d :: s => by
    rw [List.map_cons, List.cons_append, mt_cons_one _ _ _ _ rfl, Bool.and_eq_true, mt_lits_iff l u s]
    constructor
    · rintro ⟨h, r, h1, h2⟩
      have hcd : c = d := by simpa [lit] using h
      exact ⟨r, by rw [hcd, h1]; rfl, h2⟩
    · rintro ⟨r, h1, h2⟩
      rw [List.cons_append] at h1
      injection h1 with h3 h4
      exact ⟨by simp [lit, h3], r, h4, h2⟩
theorem mt_self (u : List UInt8) : mt u (u.map lit) = true := by
  have h := mt_lits u [] []
  rw [List.append_nil, List.append_nil] at h
  rw [h, mt_nil_nil]
theorem mt_longer (u : List UInt8) (c : UInt8) : mt (u ++ [c]) (u.map lit) = false := by
  have h := mt_lits u [c] []
  rw [List.append_nil] at h
  rw [h, mt_cons_nil]
theorem mt_star (s : List UInt8) (l : List Pc) : mt s (star :: l) = true ↔ ∃ g, g ≤ s.length ∧ mt (s.drop g) l = true := mt_many_iff star l rfl s
theorem mt_star_all (s : List UInt8) : mt s [star] = true :=
  (mt_star s []).2 ⟨s.length, Nat.le_refl _, by rw [List.drop_length, mt_nil_nil]⟩
theorem mt_star_back (a b : List UInt8) (l : List Pc) (h : mt b l = true) : mt (a ++ b) (star :: l) = true :=
  (mt_star _ _).2 ⟨a.length, by simp, by rw [List.drop_left]; exact h⟩
theorem mt_stars (s : List UInt8) (l : List Pc) : mt s (star :: star :: l) = mt s (star :: l) := by
  rw [Bool.eq_iff_iff]
  constructor
  · intro h
    obtain ⟨g, hg, h⟩ := (mt_star _ _).1 h
    obtain ⟨k, hk, h⟩ := (mt_star _ _).1 h
    rw [List.drop_drop] at h
    exact (mt_star _ _).2 ⟨g + k, by simp at hk; omega, h⟩
  · intro h
    exact (mt_star _ _).2 ⟨0, Nat.zero_le _, by simpa using h⟩
theorem mt_lits_congr (u : List UInt8) (l l' : List Pc) (h : ∀ s, mt s l = mt s l') (s : List UInt8) : mt s (u.map lit ++ l) = mt s (u.map lit ++ l') := by
  rw [Bool.eq_iff_iff, mt_lits_iff, mt_lits_iff]
  constructor
  · rintro ⟨r, h1, h2⟩; exact ⟨r, h1, by rw [← h]; exact h2⟩
  · rintro ⟨r, h1, h2⟩; exact ⟨r, h1, by rw [h]; exact h2⟩
theorem mt_any (u : List UInt8) (c : UInt8) : mt (u ++ [c]) (u.map lit ++ [any1]) = true := by
  rw [mt_lits, mt_cons_one _ _ _ _ rfl, mt_nil_nil]; rfl
theorem mt_any_no (u : List UInt8) : mt u (u.map lit ++ [any1]) = false := by
  have h := mt_lits u [] [any1]
  rw [List.append_nil] at h
  rw [h, mt_nil_cons]; rfl

theorem mt_append : ∀ (a : List UInt8) (l : List Pc) (b : List UInt8) (r : List Pc), mt a l = true → mt b r = true → mt (a ++ b) (l ++ r) = true
  | [], [], b, r, _, h => h
  | [], p :: l, b, r, h1, h2 => by
    rw [mt_nil_cons, Bool.and_eq_true] at h1
    have ih := mt_append [] l b r h1.2 h2
    rw [List.nil_append] at ih ⊢
    rw [List.cons_append]
    exact (mt_many_iff p (l ++ r) h1.1 b).2 ⟨0, Nat.zero_le _, ih⟩
  | c :: a, [], b, r, h1, _ => by rw [mt_cons_nil] at h1; cases h1
  | c :: a, p :: l, b, r, h1, h2 => by
    rw [List.cons_append, List.cons_append]
    cases hm : p.many with
    | true =>
      rw [mt_cons_many _ _ _ _ hm, Bool.or_eq_true] at h1 ⊢
      rcases h1 with h1 | h1
      · exact .inl (mt_append (c :: a) l b r h1 h2)
      · exact .inr (mt_append a (p :: l) b r h1 h2)
    | false =>
      rw [mt_cons_one _ _ _ _ hm, Bool.and_eq_true] at h1 ⊢
      exact ⟨h1.1, mt_append a l b r h1.2 h2⟩
termination_by a l => a.length + l.length

/-- Behind a pattern that ends in no backslash another one stands as it stood. -/
theorem pieces_append : ∀ (x y : List UInt8), (∀ c, x.getLast? = some c → c ≠ 92) → piecesL (x ++ y) = piecesL x ++ piecesL y
  | [], y, _ => rfl
  | [c], y, h => by
    have hc : c ≠ 92 := h c rfl
    cases y with
    | nil => rfl
    | cons d y => show piecesL (c :: d :: y) = _; (conv => lhs; rw [piecesL, if_neg hc]); rfl
  | c :: d :: x, y, h => by
    show piecesL (c :: d :: (x ++ y)) = _
    rw [piecesL, piecesL]
    by_cases hc : c = 92
    · rw [if_pos hc, if_pos hc]
      cases x with
      | nil => rfl
      | cons e x =>
        have := pieces_append (e :: x) y (fun c' hc' => h c' (by rw [List.getLast?_cons_cons, List.getLast?_cons_cons]; exact hc'))
        rw [this]; rfl
    · rw [if_neg hc, if_neg hc]
      have := pieces_append (d :: x) y (fun c' hc' => h c' (by rw [List.getLast?_cons_cons]; exact hc'))
      show _ :: piecesL (d :: x ++ y) = _
      rw [this]; rfl
end Go.Proofs.Ytnkfgdgjjigabaa
