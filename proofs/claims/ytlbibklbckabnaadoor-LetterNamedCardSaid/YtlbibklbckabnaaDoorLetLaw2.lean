/- Plain laws: a message is parsed as it was shown; what is parsed may be; a message that is cut is too short. -/
import Derived.Test.YtlbibklbckabnaaDoorLetChk
import Derived.Test.YtlbibklbckabnaaDoorParse
namespace Go.Proofs.YtlbibklbckabnaaDoor
open Go.RowKit

theorem crlfL_skip : ∀ a b : List UInt8, (∀ c ∈ a, c ≠ 13) → crlfL b = none → crlfL (a ++ b) = none
  | [], _, _, h => h
  | c :: a, b, ha, h => by
    rw [List.cons_append, crlfL, if_neg (fun e => ha c List.mem_cons_self e.1), crlfL_skip a b (fun d hd => ha d (List.mem_cons_of_mem _ hd)) h]
    rfl
theorem crlfL_join : ∀ a b : List UInt8, crlfL a = none → crlfL b = none → b.head? ≠ some 10 → crlfL (a ++ b) = none
  | [], _, _, h, _ => h
  | c :: a, b, ha, h, hb => by
    obtain ⟨h1, h2⟩ := crlfL_cons ha
    rw [List.cons_append, crlfL, if_neg, crlfL_join a b h2 h hb]
    · rfl
    · rintro ⟨e1, e2⟩
      cases a with
      | nil => exact hb e2
      | cons d a => exact h1 ⟨e1, by simpa using e2⟩
theorem crlfL_take : ∀ (l : List UInt8) (k : Nat), crlfL l = none → crlfL (l.take k) = none
  | [], k, _ => by simp [crlfL]
  | c :: l, 0, _ => rfl
  | c :: l, k + 1, h => by
    obtain ⟨h1, h2⟩ := crlfL_cons h
    rw [List.take_succ_cons, crlfL, if_neg, crlfL_take l k h2]
    · rfl
    · rintro ⟨e1, e2⟩
      cases l with
      | nil => simp at e2
      | cons d l =>
        cases k with
        | zero => simp at e2
        | succ k => exact h1 ⟨e1, by simpa using e2⟩
theorem crlfL_drop : ∀ (l : List UInt8) (k : Nat), crlfL l = none → crlfL (l.drop k) = none
  | [], k, _ => by simp [crlfL]
  | c :: l, 0, h => h
  | c :: l, k + 1, h => by
    rw [List.drop_succ_cons]
    exact crlfL_drop l k (crlfL_cons h).2
/-- The first line holds no end of a line. -/
theorem crlfL_first : ∀ l a b : List UInt8, crlfL l = some (a, b) → crlfL a = none ∧ l = a ++ 13 :: 10 :: b
  | [], a, b, h => by simp [crlfL] at h
  | c :: l, a, b, h => by
    rw [crlfL] at h
    by_cases hc : c = 13 ∧ l.head? = some 10
    · rw [if_pos hc] at h
      simp only [Option.some.injEq, Prod.mk.injEq] at h
      obtain ⟨rfl, rfl⟩ := h
      obtain ⟨rfl, h2⟩ := hc
      cases l with
      | nil => simp at h2
      | cons d l =>
        simp only [List.head?_cons, Option.some.injEq] at h2
        subst h2
        exact ⟨rfl, rfl⟩
    · rw [if_neg hc] at h
      cases hr : crlfL l with
      | none => rw [hr] at h; simp at h
      | some x =>
        rw [hr] at h
        simp only [Option.map_some, Option.some.injEq, Prod.mk.injEq] at h
        obtain ⟨rfl, rfl⟩ := h
        obtain ⟨i1, i2⟩ := crlfL_first l x.1 x.2 hr
        refine ⟨?_, by rw [List.cons_append, ← i2]⟩
        rw [crlfL, if_neg, i1]
        · rfl
        · rintro ⟨e1, e2⟩
          refine hc ⟨e1, ?_⟩
          rw [i2]
          cases hx : x.1 with
          | nil => rw [hx] at e2; simp at e2
          | cons d t => rw [hx] at e2; simpa using e2
theorem colonL_split : ∀ l a b : List UInt8, colonL l = some (a, b) → l = a ++ 58 :: b
  | [], a, b, h => by simp [colonL] at h
  | c :: l, a, b, h => by
    rw [colonL] at h
    by_cases hc : c = 58
    · rw [if_pos hc] at h
      simp only [Option.some.injEq, Prod.mk.injEq] at h
      obtain ⟨rfl, rfl⟩ := h
      rw [hc]; rfl
    · rw [if_neg hc] at h
      cases hr : colonL l with
      | none => rw [hr] at h; simp at h
      | some x =>
        rw [hr] at h
        simp only [Option.map_some, Option.some.injEq, Prod.mk.injEq] at h
        obtain ⟨rfl, rfl⟩ := h
        rw [List.cons_append, ← colonL_split l x.1 x.2 hr]

theorem dropWhile_len {p : UInt8 → Bool} : ∀ l : List UInt8, (l.dropWhile p).length ≤ l.length
  | [] => Nat.le_refl _
  | c :: l => by
    by_cases h : p c = true
    · rw [List.dropWhile_cons_of_pos h]; have := dropWhile_len (p := p) l; simp; omega
    · rw [List.dropWhile_cons_of_neg h]; exact Nat.le_refl _
theorem dropWhile_full {p : UInt8 → Bool} : ∀ l : List UInt8, (l.dropWhile p).length = l.length → l = [] ∨ ∃ c t, l = c :: t ∧ p c = false
  | [], _ => .inl rfl
  | c :: l, h => by
    by_cases hc : p c = true
    · rw [List.dropWhile_cons_of_pos hc] at h
      have := dropWhile_len (p := p) l
      simp at h; omega
    · exact .inr ⟨c, l, rfl, by simpa using hc⟩
def blk2 (c : UInt8) : Bool := ([32, 9] : List UInt8).contains c
theorem trimL_def (l : List UInt8) : trimL l = ((l.reverse.dropWhile blk2).reverse).dropWhile blk2 := rfl
/-- A text that begins and ends with no blank. -/
def noBlk (l : List UInt8) : Prop := l = [] ∨ (∃ c t, l = c :: t ∧ blk2 c = false) ∧ ∃ c t, l.reverse = c :: t ∧ blk2 c = false
theorem noBlk_of {l : List UInt8} (h : trimL l = l) : noBlk l := by
  by_cases h0 : l = []
  · exact .inl h0
  rw [trimL_def] at h
  have h1 := dropWhile_len (p := blk2) ((l.reverse.dropWhile blk2).reverse)
  have h2 := dropWhile_len (p := blk2) l.reverse
  rw [h] at h1
  rw [List.length_reverse] at h1 h2
  have h3 : (l.reverse.dropWhile blk2).length = l.reverse.length := by rw [List.length_reverse]; omega
  have h4 := dropWhile_full _ h3
  have hr : l.reverse.dropWhile blk2 = l.reverse := by
    rcases h4 with h4 | ⟨c, t, h4, h5⟩
    · rw [h4]; rfl
    · rw [h4, List.dropWhile_cons_of_neg (by rw [h5]; decide)]
  rw [hr, List.reverse_reverse] at h
  have h5 := dropWhile_full (p := blk2) l (by rw [h])
  rcases h4 with h4 | h4
  · exact absurd (List.reverse_eq_nil_iff.1 h4) h0
  · rcases h5 with h5 | h5
    · exact absurd h5 h0
    · exact .inr ⟨h5, h4⟩
theorem trim_noBlk {l : List UInt8} (h : noBlk l) : trimL l = l ∧ trimL (32 :: l) = l := by
  rcases h with rfl | ⟨⟨c, t, h1, h2⟩, d, u, h3, h4⟩
  · exact ⟨rfl, rfl⟩
  · refine ⟨?_, ?_⟩
    · rw [trimL_def, h3, List.dropWhile_cons_of_neg (by rw [h4]; decide), ← h3, List.reverse_reverse, h1, List.dropWhile_cons_of_neg (by rw [h2]; decide)]
    · rw [trimL_def, List.reverse_cons, h3, List.cons_append, List.dropWhile_cons_of_neg (by rw [h4]; decide), ← List.cons_append, ← h3, List.reverse_append, List.reverse_reverse]
      show (32 :: l).dropWhile blk2 = l
      rw [List.dropWhile_cons_of_pos (by decide), h1, List.dropWhile_cons_of_neg (by rw [h2]; decide)]
theorem dropWhile_head {p : UInt8 → Bool} : ∀ l : List UInt8, l.dropWhile p = [] ∨ ∃ c t, l.dropWhile p = c :: t ∧ p c = false
  | [] => .inl rfl
  | c :: l => by
    by_cases hc : p c = true
    · rw [List.dropWhile_cons_of_pos hc]; exact dropWhile_head l
    · rw [List.dropWhile_cons_of_neg hc]; exact .inr ⟨c, l, rfl, by simpa using hc⟩
theorem dropWhile_drop' {p : UInt8 → Bool} : ∀ l : List UInt8, ∃ k, l.dropWhile p = l.drop k
  | [] => ⟨0, rfl⟩
  | c :: l => by
    by_cases hc : p c = true
    · rw [List.dropWhile_cons_of_pos hc]
      obtain ⟨k, hk⟩ := dropWhile_drop' (p := p) l
      exact ⟨k + 1, by rw [hk, List.drop_succ_cons]⟩
    · rw [List.dropWhile_cons_of_neg hc]; exact ⟨0, rfl⟩
/-- What is trimmed is a part of the text. -/
theorem trimL_part (l : List UInt8) : ∃ a b, trimL l = (l.take a).drop b := by
  obtain ⟨k, hk⟩ := dropWhile_drop' (p := blk2) l.reverse
  obtain ⟨b, hb⟩ := dropWhile_drop' (p := blk2) ((l.reverse.dropWhile blk2).reverse)
  refine ⟨l.length - k, b, ?_⟩
  rw [trimL_def, hb, hk, List.reverse_drop, List.reverse_reverse, List.length_reverse]
theorem trimL_again (l : List UInt8) : noBlk (trimL l) := by
  rw [trimL_def]
  rcases dropWhile_head (p := blk2) ((l.reverse.dropWhile blk2).reverse) with h | ⟨c, t, h, hc⟩
  · exact .inl h
  · refine .inr ⟨⟨c, t, h, hc⟩, ?_⟩
    rcases dropWhile_head (p := blk2) l.reverse with h2 | ⟨d, u, h2, hd⟩
    · rw [h2] at h; simp at h
    · rw [h2] at h ⊢
      rw [List.reverse_cons] at h ⊢
      obtain ⟨k, hk⟩ := dropWhile_drop' (p := blk2) (u.reverse ++ [d])
      rw [hk] at h ⊢
      have hkl : k < (u.reverse ++ [d]).length := by
        by_cases hlt : k < (u.reverse ++ [d]).length
        · exact hlt
        · rw [List.drop_of_length_le (by omega)] at h; simp at h
      have hku : k ≤ u.reverse.length := by rw [List.length_append] at hkl; simp at hkl ⊢; omega
      rw [List.drop_append_of_le_length hku, List.reverse_append]
      exact ⟨d, _, rfl, hd⟩

/-- The parts of a field's line as Show writes it. -/
theorem parse_shown (k n : Nat) (fs : List Fld) (f : Fld) (r : List UInt8) (hf : MayF f) (hfl : fs.length ≠ 30) :
    parseL (k + 1) n fs (fldL f ++ r) = parseL k (n + 1) (fs ++ [⟨f.name, mkS (32 :: bs f.value)⟩]) r := by
  have e : fldL f ++ r = bs f.name ++ 58 :: ((32 :: bs f.value) ++ 13 :: 10 :: r) := by simp [fldL]
  rw [e]
  refine parse_line k n fs f.name (32 :: bs f.value) r hf.name ?_ hfl
  have e2 : bs f.name ++ 58 :: 32 :: bs f.value = (bs f.name ++ [58, 32]) ++ bs f.value := by simp
  rw [e2]
  refine crlfL_skip _ _ ?_ hf.one
  intro c hc
  rcases List.mem_append.1 hc with hc | hc
  · exact (nameB_plain ((nameL_mem hf.name).1 c hc)).2.2.1
  · have h2 : ∀ c ∈ ([58, 32] : List UInt8), c ≠ 13 := by decide
    exact h2 c hc
theorem trimF_shown {f : Fld} (hf : MayF f) : trimF ⟨f.name, mkS (32 :: bs f.value)⟩ = f := by
  unfold trimF
  rw [bs_mkS, (trim_noBlk (noBlk_of hf.trim)).2, mkS_bs]
/-- A message is parsed as it was shown. -/
theorem parse_show : ∀ (fs acc : List Fld) (n fuel : Nat) (body : List UInt8), (∀ f ∈ fs, MayF f) → acc.length + fs.length ≤ 30 → fs.length < fuel →
    parseL fuel n acc (fldsL fs ++ 13 :: 10 :: body) = .ok (acc.map trimF ++ fs) body
  | [], acc, n, fuel, body, _, _, hfu => by
    obtain ⟨q, rfl⟩ : ∃ q, fuel = q + 1 := ⟨fuel - 1, by simp at hfu; omega⟩
    rw [List.append_nil]
    rfl
  | f :: fs, acc, n, fuel, body, h, hl, hfu => by
    obtain ⟨q, rfl⟩ : ∃ q, fuel = q + 1 := ⟨fuel - 1, by simp at hfu; omega⟩
    have hf := h f List.mem_cons_self
    have e : fldsL (f :: fs) ++ 13 :: 10 :: body = fldL f ++ (fldsL fs ++ 13 :: 10 :: body) := by
      unfold fldsL; rw [List.flatMap_cons, List.append_assoc]
    rw [e, parse_shown q n acc f _ hf (by simp at hl; omega), parse_show fs _ (n + 1) q body (fun x hx => h x (List.mem_cons_of_mem _ hx)) (by simp at hl ⊢; omega) (by simp at hfu; omega)]
    rw [List.map_append, List.map_cons, List.map_nil, trimF_shown hf, List.append_assoc]
    rfl
theorem showL_ge (fs : List Fld) (body : List UInt8) : fs.length + 2 ≤ (showL fs body).length := by
  have h : ∀ l : List Fld, l.length ≤ (fldsL l).length := by
    intro l
    induction l with
    | nil => exact Nat.zero_le _
    | cons f l ih => unfold fldsL at ih ⊢; rw [List.flatMap_cons, List.length_append, fldL_len, List.length_cons]; omega
  have := h fs
  rw [showL_len]; omega
theorem parse_showL (fs : List Fld) (fuel : Nat) (body : List UInt8) (h : ∀ f ∈ fs, MayF f) (hl : fs.length ≤ 30) (hfu : fs.length < fuel) : parseL fuel 0 [] (showL fs body) = .ok fs body := by
  have := parse_show fs [] 0 fuel body h (by simpa using hl) hfu
  exact this
/-- A message that is cut ahead of its empty line's end is too short. -/
theorem parse_torn : ∀ (fs acc : List Fld) (n fuel k : Nat), (∀ f ∈ fs, MayF f) → acc.length + fs.length ≤ 30 → fs.length < fuel → k < (fldsL fs ++ [13, 10]).length →
    ∃ i, n ≤ i ∧ i ≤ n + fs.length ∧ parseL fuel n acc ((fldsL fs ++ [13, 10]).take k) = .bad i 4
  | [], acc, n, fuel, k, _, _, hfu, hk => by
    obtain ⟨q, rfl⟩ : ∃ q, fuel = q + 1 := ⟨fuel - 1, by simp at hfu; omega⟩
    refine ⟨n, Nat.le_refl _, by simp, ?_⟩
    have hk2 : k = 0 ∨ k = 1 := by
      have : (fldsL [] ++ [13, 10]).length = 2 := rfl
      omega
    rcases hk2 with rfl | rfl <;> rfl
  | f :: fs, acc, n, fuel, k, h, hl, hfu, hk => by
    obtain ⟨q, rfl⟩ : ∃ q, fuel = q + 1 := ⟨fuel - 1, by simp at hfu; omega⟩
    have hf := h f List.mem_cons_self
    have e : fldsL (f :: fs) ++ [13, 10] = fldL f ++ (fldsL fs ++ [13, 10]) := by
      unfold fldsL; rw [List.flatMap_cons, List.append_assoc]
    rw [e] at hk ⊢
    by_cases hlt : k < (fldL f).length
    · refine ⟨n, Nat.le_refl _, by simp, ?_⟩
      rw [List.take_append_of_le_length (by omega)]
      have hline : crlfL (bs f.name ++ 58 :: 32 :: bs f.value) = none := by
        have e2 : bs f.name ++ 58 :: 32 :: bs f.value = (bs f.name ++ [58, 32]) ++ bs f.value := by simp
        rw [e2]
        refine crlfL_skip _ _ ?_ hf.one
        intro c hc
        rcases List.mem_append.1 hc with hc | hc
        · exact (nameB_plain ((nameL_mem hf.name).1 c hc)).2.2.1
        · have h2 : ∀ c ∈ ([58, 32] : List UInt8), c ≠ 13 := by decide
          exact h2 c hc
      have e3 : fldL f = ((bs f.name ++ 58 :: 32 :: bs f.value) ++ [13]) ++ [10] := by simp [fldL]
      have hn : crlfL ((fldL f).take k) = none := by
        rw [e3, List.take_append_of_le_length (by rw [e3] at hlt; simp at hlt ⊢; omega)]
        exact crlfL_take _ _ (crlfL_join _ _ hline rfl (by decide))
      rw [parseL, hn]
    · have e4 : (fldL f ++ (fldsL fs ++ [13, 10])).take k = fldL f ++ (fldsL fs ++ [13, 10]).take (k - (fldL f).length) := by
        rw [List.take_append, List.take_of_length_le (by omega)]
      rw [e4, parse_shown q n acc f _ hf (by simp at hl; omega)]
      obtain ⟨i, h1, h2, h3⟩ := parse_torn fs (acc ++ [⟨f.name, mkS (32 :: bs f.value)⟩]) (n + 1) q (k - (fldL f).length) (fun x hx => h x (List.mem_cons_of_mem _ hx)) (by simp at hl ⊢; omega) (by simp at hfu; omega) (by rw [List.length_append] at hk; omega)
      exact ⟨i, by omega, by simp; omega, h3⟩
theorem valueC_end {n i : Nat} (c : UInt8) (h : i = 0 ∨ i + 1 = n ∨ i = 39) : blk2 (valueC n i c) = false := by
  unfold valueC
  split
  · rfl
  · rename_i hc
    rw [Bool.eq_false_iff]
    intro hb
    have h2 : c = 32 ∨ c = 9 := by
      unfold blk2 at hb
      simpa using hb
    exact hc (.inr (.inr ⟨h2, h⟩))
theorem valueL_ends (l : List UInt8) : noBlk (valueL l) := by
  unfold valueL
  rcases List.eq_nil_or_concat (l.take 40) with h | ⟨a, x, h⟩
  · rw [h]; exact .inl rfl
  · rw [List.concat_eq_append] at h
    have hlen : a.length + 1 = min 40 l.length := by
      have := congrArg List.length h
      rw [List.length_take, List.length_append] at this
      simp at this
      omega
    refine .inr ⟨?_, ?_⟩
    · cases hl : l.take 40 with
      | nil => rw [hl] at h; simp at h
      | cons c t =>
        rw [List.mapIdx_cons]
        exact ⟨_, _, rfl, valueC_end c (.inl rfl)⟩
    · rw [h, List.mapIdx_concat, List.reverse_append]
      exact ⟨_, _, rfl, valueC_end x (by omega)⟩
/-- Fields that raw lines make may be. -/
theorem fieldOf_may (p : Fld) : MayF (fieldOf p) := by
  have h := fieldOf_ok p
  refine ⟨h.name, crlfL_no _ (fun c hc => (h.plain c hc).2), (trim_noBlk (valueL_ends _)).1⟩
theorem fieldsOf_may (l : List Fld) : ∀ f ∈ fieldsOf l, MayF f := by
  intro f hf
  unfold fieldsOf at hf
  obtain ⟨p, _, rfl⟩ := List.mem_map.1 hf
  exact fieldOf_may p
theorem fieldsOf_fldsL (l : List Fld) : (fldsL (fieldsOf l)).length ≤ 312 := by
  have h : ∀ F : List Fld, (∀ f ∈ F, OkF f) → (fldsL F).length ≤ 52 * F.length := by
    intro F
    induction F with
    | nil => intro _; exact Nat.zero_le _
    | cons f F ih =>
      intro hF
      have h1 := hF f List.mem_cons_self
      have h2 := h1.low
      have h3 := h1.short
      have h4 := ih (fun x hx => hF x (List.mem_cons_of_mem _ hx))
      unfold fldsL at h4 ⊢
      rw [List.flatMap_cons, List.length_append, fldL_len, List.length_cons]
      omega
  have h1 := h _ (fieldsOf_ok l)
  have h2 := fieldsOf_len l
  omega
theorem ownsRow_lin {w : World} {base n : Nat} {v : Value} {fs : List Fld} (h : w.ownsRow base 48 2 v n (fldCells fs)) (hl : fs.length = n) (hs : ∀ f ∈ fs, f.name.size ≤ 100000 ∧ f.value.size ≤ 100000) :
    ∃ A c, v = .slice A n c ∧ kLin.Row w A fs := by
  by_cases h0 : fs = []
  · obtain ⟨A, c, rfl⟩ := own_slice h
    exact ⟨A, c, rfl, .inl h0⟩
  · obtain ⟨g, c, rfl⟩ := own_ptr h (by have := List.length_pos_iff.2 h0; omega)
    refine ⟨_, c, rfl, .inr ⟨g, 0, rfl, fun j hj => ?_⟩⟩
    obtain ⟨h1, h2⟩ := fldCells_get fs j fs[j] (List.getElem?_eq_getElem hj)
    have k1 := (h.cellAt (j * 2) (by omega)).trans h1
    have k2 := (h.cellAt (j * 2 + 1) (by omega)).trans h2
    obtain ⟨s1, s2⟩ := hs fs[j] (List.getElem_mem hj)
    refine ⟨[.string fs[j].name, .string fs[j].value], ⟨_, _, rfl, ⟨rfl, by show fs[j].name.size ≤ maxLen; unfold maxLen; omega⟩, _, _, rfl, ⟨rfl, by show fs[j].value.size ≤ maxLen; unfold maxLen; omega⟩, rfl⟩, ?_⟩
    intro i u hu
    rw [Nat.zero_add]
    match i, hu with
    | 0, hu => simp at hu; subst hu; exact k1
    | 1, hu => simp at hu; subst hu; exact k2
    | i + 2, hu => simp at hu
theorem fieldsOf_small (l : List Fld) : ∀ f ∈ fieldsOf l, f.name.size ≤ 100000 ∧ f.value.size ≤ 100000 := fun f hf => by
  have h := fieldsOf_ok l f hf
  have h1 := h.low
  have h2 := h.short
  omega
end Go.Proofs.YtlbibklbckabnaaDoor
