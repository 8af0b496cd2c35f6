/- Plain laws on what Parse answers: lines that are fields, lines that are none, the message as it is shown. -/
import Derived.Test.YtlbibklbckabnaaDoorLet2
namespace Go.Proofs.YtlbibklbckabnaaDoor
open Go.RowKit

theorem crlfL_cons {c : UInt8} {l : List UInt8} (h : crlfL (c :: l) = none) : ¬(c = 13 ∧ l.head? = some 10) ∧ crlfL l = none := by
  rw [crlfL] at h
  by_cases hc : c = 13 ∧ l.head? = some 10
  · rw [if_pos hc] at h; simp at h
  · rw [if_neg hc] at h; exact ⟨hc, by simpa using h⟩
/-- The first end of a line, behind a text without one. -/
theorem crlfL_at : ∀ (l r : List UInt8), crlfL l = none → crlfL (l ++ 13 :: 10 :: r) = some (l, r)
  | [], r, _ => rfl
  | c :: l, r, h => by
    obtain ⟨h1, h2⟩ := crlfL_cons h
    have ih := crlfL_at l r h2
    rw [List.cons_append, crlfL, if_neg, ih]
    · rfl
    · rintro ⟨e1, e2⟩
      cases l with
      | nil => simp at e2
      | cons d l => exact h1 ⟨e1, by simpa using e2⟩
theorem crlfL_no : ∀ l : List UInt8, (∀ c ∈ l, c ≠ 10) → crlfL l = none
  | [], _ => rfl
  | c :: l, h => by
    rw [crlfL, if_neg, crlfL_no l (fun d hd => h d (List.mem_cons_of_mem _ hd))]
    · rfl
    · rintro ⟨_, e2⟩
      cases l with
      | nil => simp at e2
      | cons d l => exact h d (by simp) (by simpa using e2)
theorem colonL_at : ∀ (a b : List UInt8), (∀ c ∈ a, c ≠ 58) → colonL (a ++ 58 :: b) = some (a, b)
  | [], b, _ => rfl
  | c :: a, b, h => by
    rw [List.cons_append, colonL, if_neg (h c List.mem_cons_self), colonL_at a b (fun d hd => h d (List.mem_cons_of_mem _ hd))]
    rfl
theorem nameB_plain {c : UInt8} (h : nameB c = true) : c ≠ 58 ∧ c ≠ 10 ∧ c ≠ 13 ∧ blkB c = false := by
  refine ⟨?_, ?_, ?_, ?_⟩
  · rintro rfl; exact absurd h (by decide)
  · rintro rfl; exact absurd h (by decide)
  · rintro rfl; exact absurd h (by decide)
  · rw [Bool.eq_false_iff]
    intro h2
    unfold blkB at h2
    rw [Bool.or_eq_true, beq_iff_eq, beq_iff_eq] at h2
    rcases h2 with rfl | rfl
    · exact absurd h (by decide)
    · exact absurd h (by decide)
theorem nameL_mem {l : List UInt8} (h : nameL l = true) : (∀ c ∈ l, nameB c = true) ∧ l ≠ [] := by
  unfold nameL at h
  rw [Bool.and_eq_true] at h
  exact ⟨List.all_eq_true.1 h.1, by rintro rfl; exact absurd h.2 (by decide)⟩
/-- A line that is a field. -/
theorem parse_line (k n : Nat) (fs : List Fld) (name : ByteArray) (v r : List UInt8) (hn : nameL (bs name) = true) (hv : crlfL (bs name ++ 58 :: v) = none) (hfl : fs.length ≠ 30) :
    parseL (k + 1) n fs (bs name ++ 58 :: (v ++ 13 :: 10 :: r)) = parseL k (n + 1) (fs ++ [⟨name, mkS v⟩]) r := by
  obtain ⟨h1, h2⟩ := nameL_mem hn
  have e : bs name ++ 58 :: (v ++ 13 :: 10 :: r) = (bs name ++ 58 :: v) ++ 13 :: 10 :: r := by simp
  have hh : blkB ((bs name ++ 58 :: v).headD 0) = false := by
    cases hb : bs name with
    | nil => exact absurd hb h2
    | cons c l => exact (nameB_plain (h1 c (by rw [hb]; exact List.mem_cons_self))).2.2.2
  rw [parseL, e, crlfL_at _ _ hv]
  dsimp only
  rw [if_neg (by simp), if_neg (by rw [hh]; simp), colonL_at _ _ (fun c hc => (nameB_plain (h1 c hc)).1)]
  dsimp only
  rw [if_neg (by rw [hn]; decide), if_neg hfl]
  rfl
/-- A line that is no field. -/
def badLine (b : List UInt8) : Bool := !b.isEmpty && !blkB (b.headD 0) && (crlfL b).isNone && (match colonL b with | none => true | some x => !nameL x.1)
theorem parse_bad (k n : Nat) (fs : List Fld) (b r : List UInt8) (hb : badLine b = true) : parseL (k + 1) n fs (b ++ 13 :: 10 :: r) = .bad n 3 := by
  unfold badLine at hb
  simp only [Bool.and_eq_true] at hb
  obtain ⟨⟨⟨h1, h2⟩, h3⟩, h4⟩ := hb
  have hc : crlfL b = none := by simpa using h3
  rw [parseL, crlfL_at _ _ hc]
  dsimp only
  rw [if_neg (by rintro rfl; exact absurd h1 (by decide)), if_neg (by rintro ⟨h, _⟩; rw [h] at h2; exact absurd h2 (by decide))]
  cases hco : colonL b with
  | none => rfl
  | some x =>
    rw [hco] at h4
    dsimp only at h4 ⊢
    rw [if_pos (by simpa using h4)]

theorem byteW_name (c : UInt8) : nameB (byteW c) = true := by
  have h : ∀ n : Fin 256, nameB (byteW (UInt8.ofNat n.val)) = true := by decide +kernel
  have := h ⟨c.toNat, c.toNat_lt⟩
  simpa using this
theorem wordL_name (l : List UInt8) : nameL (wordL l) = true := by
  unfold nameL
  rw [Bool.and_eq_true]
  refine ⟨?_, ?_⟩
  · unfold wordL
    split
    · decide
    · rw [List.all_map, List.all_eq_true]
      exact fun c _ => byteW_name c
  · have h := wordL_ne l
    cases hw : wordL l with
    | nil => exact absurd hw h
    | cons c l => rfl
theorem valueC_plain (n i : Nat) (c : UInt8) : valueC n i c ≠ 13 ∧ valueC n i c ≠ 10 := by
  unfold valueC
  split
  · decide
  · rename_i h
    exact ⟨fun e => h (.inl e), fun e => h (.inr (.inl e))⟩
theorem valueL_plain (l : List UInt8) : ∀ c ∈ valueL l, c ≠ 13 ∧ c ≠ 10 := by
  intro c hc
  unfold valueL at hc
  rw [List.mem_mapIdx] at hc
  obtain ⟨i, hi, rfl⟩ := hc
  exact valueC_plain _ _ _
theorem valueL_len (l : List UInt8) : (valueL l).length ≤ 40 := by
  unfold valueL; rw [List.length_mapIdx, List.length_take]; omega
/-- Fields that raw lines make. -/
structure OkF (f : Fld) : Prop where
  name : nameL (bs f.name) = true
  low : f.name.size ≤ 8
  plain : ∀ c ∈ bs f.value, c ≠ 13 ∧ c ≠ 10
  short : f.value.size ≤ 40
theorem fieldOf_ok (p : Fld) : OkF (fieldOf p) :=
  ⟨wordL_name _, by show (mkS _).size ≤ 8; rw [mkS_size]; exact (wordL_len _).2, valueL_plain _, by show (mkS _).size ≤ 40; rw [mkS_size]; exact valueL_len _⟩
theorem fieldsOf_ok (l : List Fld) : ∀ f ∈ fieldsOf l, OkF f := by
  intro f hf
  unfold fieldsOf at hf
  obtain ⟨p, _, rfl⟩ := List.mem_map.1 hf
  exact fieldOf_ok p
theorem fieldsOf_len (l : List Fld) : (fieldsOf l).length ≤ 6 := by
  unfold fieldsOf; rw [List.length_map, List.length_take]; omega
theorem OkF.line {f : Fld} (h : OkF f) : crlfL (bs f.name ++ 58 :: bs f.value) = none := by
  apply crlfL_no
  intro c hc
  rcases List.mem_append.1 hc with hc | hc
  · exact (nameB_plain ((nameL_mem h.name).1 c hc)).2.1
  · rcases List.mem_cons.1 hc with rfl | hc
    · decide
    · exact (h.plain c hc).2
/-- A field's line as a law writes it. -/
def lnL (f : Fld) : List UInt8 := bs f.name ++ 58 :: (bs f.value ++ [13, 10])
theorem lnL_len {f : Fld} (h : OkF f) : (lnL f).length ≤ 51 := by
  have h1 := h.low
  have h2 := h.short
  rw [← bs_len] at h1 h2
  unfold lnL
  simp only [List.length_append, List.length_cons, List.length_nil]
  omega
def fld0 : Fld := ⟨⟨#[]⟩, ⟨#[]⟩⟩
/-- The text of the first i fields, with B ahead of the field number k. -/
def stext (F : List Fld) (k : Nat) (B : List UInt8) : Nat → List UInt8
  | 0 => []
  | i + 1 => stext F k B i ++ ((if i = k then B else []) ++ lnL (F.getD i fld0))
theorem stext_len (F : List Fld) (k : Nat) (B : List UInt8) (hF : ∀ f ∈ F, OkF f) (hB : B.length ≤ 10) : ∀ i, i ≤ F.length → i ≤ 6 → (stext F k B i).length ≤ 61 * i
  | 0, _, _ => by simp [stext]
  | i + 1, h, h6 => by
    have ih := stext_len F k B hF hB i (by omega) (by omega)
    have hm : F.getD i fld0 ∈ F := by rw [List.getD_eq_getElem?_getD, List.getElem?_eq_getElem (by omega)]; exact List.getElem_mem _
    have hl := lnL_len (hF _ hm)
    rw [stext, List.length_append, List.length_append]
    split
    · omega
    · rw [List.length_nil]; omega
theorem parse_stext (F : List Fld) (k : Nat) (B : List UInt8) (hF : ∀ f ∈ F, OkF f) (hn : F.length ≤ 6) : ∀ (i fuel : Nat) (r : List UInt8), i ≤ F.length → i ≤ k →
    parseL (fuel + i) 0 [] (stext F k B i ++ r) = parseL fuel i (F.take i) r
  | 0, fuel, r, _, _ => rfl
  | i + 1, fuel, r, h, hk => by
    have ih := parse_stext F k B hF hn i (fuel + 1) (lnL (F.getD i fld0) ++ r) (by omega) (by omega)
    have hg : F.getD i fld0 = F[i] := by rw [List.getD_eq_getElem?_getD, List.getElem?_eq_getElem (by omega)]; rfl
    have hok := hF F[i] (List.getElem_mem _)
    have e : stext F k B (i + 1) ++ r = stext F k B i ++ (lnL (F.getD i fld0) ++ r) := by
      rw [stext, if_neg (by omega), List.nil_append, List.append_assoc]
    rw [e, show fuel + (i + 1) = fuel + 1 + i by omega, ih, hg]
    have hp := parse_line fuel i (F.take i) F[i].name (bs F[i].value) r hok.name hok.line (by rw [List.length_take]; omega)
    have e2 : lnL F[i] ++ r = bs F[i].name ++ 58 :: (bs F[i].value ++ 13 :: 10 :: r) := by simp [lnL]
    rw [e2, hp, List.take_succ_eq_append_getElem (by omega)]
    rfl
theorem stext_more (F : List Fld) (k : Nat) (B : List UInt8) : ∀ i, k < i → ∃ r, stext F k B i = stext F k B k ++ (B ++ r)
  | 0, h => by omega
  | i + 1, h => by
    by_cases hk : i = k
    · subst hk
      exact ⟨lnL (F.getD i fld0), by rw [stext, if_pos rfl]⟩
    · obtain ⟨r, hr⟩ := stext_more F k B i (by omega)
      exact ⟨r ++ lnL (F.getD i fld0), by rw [stext, hr, if_neg hk]; simp⟩
/-- A line that is no field is told by its place. -/
theorem place_law (F : List Fld) (k : Nat) (b : List UInt8) (hF : ∀ f ∈ F, OkF f) (hn : F.length ≤ 6) (hk : k ≤ F.length) (hb : badLine b = true) (hb8 : b.length ≤ 8) :
    (stext F k (b ++ [13, 10]) F.length ++ (if k = F.length then b ++ [13, 10] else []) ++ [13, 10]).length ≤ 400 ∧ k ≤ (stext F k (b ++ [13, 10]) F.length ++ (if k = F.length then b ++ [13, 10] else []) ++ [13, 10]).length ∧
    ∀ fuel, k < fuel → parseL fuel 0 [] (stext F k (b ++ [13, 10]) F.length ++ (if k = F.length then b ++ [13, 10] else []) ++ [13, 10]) = .bad k 3 := by
  have hl := stext_len F k (b ++ [13, 10]) hF (by simp; omega) F.length (Nat.le_refl _) hn
  have hT : ∃ r, stext F k (b ++ [13, 10]) F.length ++ (if k = F.length then b ++ [13, 10] else []) ++ [13, 10] = stext F k (b ++ [13, 10]) k ++ (b ++ 13 :: 10 :: r) := by
    by_cases he : k = F.length
    · rw [if_pos he, ← he]
      exact ⟨[13, 10], by simp⟩
    · rw [if_neg he]
      obtain ⟨r, hr⟩ := stext_more F k (b ++ [13, 10]) F.length (by omega)
      exact ⟨r ++ [13, 10], by rw [hr]; simp⟩
  have hkl : ∀ i, i ≤ (stext F k (b ++ [13, 10]) i).length := by
    intro i
    induction i with
    | zero => exact Nat.zero_le _
    | succ i ih => rw [stext, List.length_append, List.length_append, lnL]; simp only [List.length_append, List.length_cons]; omega
  refine ⟨?_, ?_, ?_⟩
  · simp only [List.length_append, List.length_cons, List.length_nil]
    split
    · simp only [List.length_append, List.length_cons, List.length_nil]; omega
    · rw [List.length_nil]; omega
  · have := hkl F.length
    simp only [List.length_append, List.length_cons, List.length_nil]
    omega
  · intro fuel hfu
    obtain ⟨r, hr⟩ := hT
    obtain ⟨q, rfl⟩ : ∃ q, fuel = (q + 1) + k := ⟨fuel - 1 - k, by omega⟩
    rw [hr, parse_stext F k (b ++ [13, 10]) hF hn k (q + 1) (b ++ 13 :: 10 :: r) hk (Nat.le_refl _)]
    exact parse_bad q k _ b r hb
def badLines : List (List UInt8) := [[110, 111, 99, 111, 108, 111, 110], [58, 118], [97, 32, 98, 58, 32, 99], [127, 58, 32, 118], [99, 97, 102, 233, 58, 32, 118]]
theorem badLines_get (k : Nat) (h : k < 5) : badLine (badLines.getD k []) = true ∧ (badLines.getD k []).length ≤ 8 := by
  have h2 : ∀ k : Fin 5, badLine (badLines.getD k.val []) = true ∧ (badLines.getD k.val []).length ≤ 8 := by decide
  exact h2 ⟨k, h⟩
theorem badLines_cell (k : Nat) (h : k < 5) : (badLines.map fun b => Value.string (mkS b))[k]? = some (.string (mkS (badLines.getD k []))) := by
  rw [List.getElem?_map, List.getD_eq_getElem?_getD]
  have h2 : k < badLines.length := h
  rw [List.getElem?_eq_getElem h2]; rfl
end Go.Proofs.YtlbibklbckabnaaDoor
