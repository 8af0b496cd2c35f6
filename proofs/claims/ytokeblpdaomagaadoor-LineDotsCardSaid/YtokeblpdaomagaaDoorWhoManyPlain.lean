/- A list of written persons has their addresses, in order: the plain law. -/
import Derived.Test.YtokeblpdaomagaaDoorWhoBadPlain
import Derived.Test.YtokeblpdaomagaaDoorKeep
import Derived.Test.YtokeblpdaomagaaDoorPer
namespace Go.Proofs.YtokeblpdaomagaaDoor
open Go.RowKit

def Per.adr (p : Per) : Adr := adrOf p.loc p.dom
/-- A person's address as it is written. -/
def Per.a (p : Per) : List UInt8 := bs p.adr.loc ++ 64 :: bs p.adr.dom
def formL (p : Per) : List UInt8 := match pickN p.loc.size 4 with
  | 0 => p.a
  | 1 => 60 :: (p.a ++ [62])
  | 2 => wordL (bs p.words) ++ 32 :: 98 :: 46 :: 32 :: 60 :: (p.a ++ [62, 32])
  | _ => 34 :: 120 :: 44 :: 32 :: 92 :: 34 :: 32 :: (wordL (bs p.words) ++ 64 :: 34 :: 60 :: (p.a ++ [62]))
def sepL (p : Per) : List UInt8 := match pickN p.words.size 3 with
  | 0 => [44]
  | 1 => [44, 32]
  | _ => [32, 44, 9]
/-- A list of persons as it is written. -/
def manyL : List Per → List UInt8
  | [] => []
  | p :: ps => formL p ++ ps.flatMap fun q => sepL q ++ formL q
theorem manyL_snoc (ps : List Per) (q : Per) (h : ps ≠ []) : manyL (ps ++ [q]) = manyL ps ++ (sepL q ++ formL q) := by
  cases ps with
  | nil => exact absurd rfl h
  | cons p ps => simp [manyL, List.append_assoc]
theorem manyL_one (q : Per) : manyL [q] = formL q := by simp [manyL]

theorem quotedL_skip : ∀ w l : List UInt8, (∀ c ∈ w, c ≠ 34 ∧ c ≠ 92) → quotedL (w ++ l) = quotedL l
  | [], _, _ => rfl
  | c :: w, l, h => by
    have hc := h c List.mem_cons_self
    have ih := quotedL_skip w l (fun d hd => h d (List.mem_cons_of_mem _ hd))
    rw [List.cons_append, ← ih]
    conv => lhs; unfold quotedL
    split
    · simp_all
    · simp_all
    · simp_all
    · simp_all
    · simp_all
theorem dropBlank_twice : ∀ l : List UInt8, (l.dropWhile blankB).dropWhile blankB = l.dropWhile blankB
  | [] => rfl
  | c :: l => by
    by_cases h : blankB c = true
    · rw [List.dropWhile_cons_of_pos h]; exact dropBlank_twice l
    · rw [List.dropWhile_cons_of_neg h, List.dropWhile_cons_of_neg h]
theorem adrL_blank (n : Nat) (f : Bool) (l : List UInt8) : adrL n f l = adrL n f (l.dropWhile blankB) := by
  cases n with
  | zero => rfl
  | succ n => rw [adrL, adrL, dropBlank_twice]
theorem dropBlank_all {b l : List UInt8} (h : b.all blankB = true) : (b ++ l).dropWhile blankB = l.dropWhile blankB := by
  induction b with
  | nil => rfl
  | cons c b ih =>
    rw [List.all_cons, Bool.and_eq_true] at h
    rw [List.cons_append, List.dropWhile_cons_of_pos h.1, ih h.2]

theorem Per.loc_run (p : Per) : (bs p.adr.loc).all runB = true := runB_atom (wordL_atom _)
theorem Per.loc_ne (p : Per) : bs p.adr.loc ≠ [] := wordL_ne _
theorem Per.dom_run (p : Per) : (bs p.adr.dom).all runB = true := by unfold Per.adr; rw [adrOf_dom]; exact runB_org _
/-- An address in brackets, whatever words stood ahead of it. -/
theorem bracket_at (p : Per) (r : List UInt8) : ((bareL (mkS ((p.a ++ 62 :: r).takeWhile runB)) ((p.a ++ 62 :: r).dropWhile runB)).bind fun x => if nextB x.2 = 62 then some (x.1, x.2.tail) else none) = some (p.adr, r) := by
  have hc := adrOf_check p.loc p.dom
  have e : p.a ++ 62 :: r = bs p.adr.loc ++ (64 :: (bs p.adr.dom ++ 62 :: r)) := by simp [Per.a]
  obtain ⟨h1, h2⟩ := takeWhile_all (p := runB) (l := bs p.adr.loc) (r := 64 :: (bs p.adr.dom ++ 62 :: r)) p.loc_run (.inl (show runB 64 = false by decide))
  have h3 := bareL_at p.adr.loc (bs p.adr.dom) (62 :: r) p.dom_run (.inl (show runB 62 = false by decide)) hc
  rw [e, h1, h2, mkS_bs, h3]
  rfl
theorem adrL_bracket (N : Nat) (f : Bool) (p : Per) (r : List UInt8) : adrL (N + 1) f (60 :: (p.a ++ 62 :: r)) = some (p.adr, r) :=
  (show adrL (N + 1) f (60 :: (p.a ++ 62 :: r)) = ((bareL (mkS ((p.a ++ 62 :: r).takeWhile runB)) ((p.a ++ 62 :: r).dropWhile runB)).bind fun x => if nextB x.2 = 62 then some (x.1, x.2.tail) else none) from rfl).trans (bracket_at p r)
theorem adrL_word (N : Nat) (f : Bool) (w r : List UInt8) (hw : w.all runB = true) (hne : w ≠ []) (hr : nextB r ≠ 64) (hr2 : runB (r.headD 0) = false) : adrL (N + 1) f (w ++ r) = adrL N false r := by
  have hb := dropBlank_run (r := r) hw hne
  obtain ⟨t1, t2⟩ := takeWhile_all (r := r) hw (.inl hr2)
  have hh : ∃ c, nextB (w ++ r) = c ∧ runB c = true := by
    cases w with
    | nil => exact absurd rfl hne
    | cons c l => exact ⟨c, rfl, by rw [List.all_cons, Bool.and_eq_true] at hw; exact hw.1⟩
  obtain ⟨c, hc1, hc2⟩ := hh
  have hp := runB_plain hc2
  rw [adrL, hb, hc1, if_neg hp.2.2.1, if_neg hp.2.2.2.1, t2, t1, if_neg (fun h => hr h.1), if_neg hne]
theorem wordL_run (l : List UInt8) : (wordL l).all runB = true := runB_atom (wordL_atom l)
/-- One written person. -/
theorem adrL_form (N : Nat) (p : Per) (r : List UInt8) (hr : r = [] ∨ nextB r = 44 ∨ nextB r = 32) : ∃ r', adrL (N + 4) true (formL p ++ r) = some (p.adr, r') ∧ r'.dropWhile blankB = r.dropWhile blankB := by
  unfold formL
  split
  · refine ⟨r, ?_, rfl⟩
    have hc := adrOf_check p.loc p.dom
    have hr2 : runB (r.headD 0) = false ∨ r = [] := by
      rcases hr with h | h | h
      · exact .inr h
      · exact .inl (by rw [show r.headD 0 = 44 from h]; decide)
      · exact .inl (by rw [show r.headD 0 = 32 from h]; decide)
    have h := adrL_bare (N + 3) (bs p.adr.loc) (bs p.adr.dom) r p.loc_run p.loc_ne p.dom_run hr2 hc
    have e : p.a ++ r = bs p.adr.loc ++ (64 :: (bs p.adr.dom ++ r)) := by simp [Per.a]
    rw [e, h]; rfl
  · refine ⟨r, ?_, rfl⟩
    rw [List.cons_append, List.append_assoc]
    exact adrL_bracket (N + 3) true p r
  · refine ⟨32 :: r, ?_, List.dropWhile_cons_of_pos (by decide)⟩
    obtain ⟨Y, hY⟩ : ∃ Y, (98 :: 46 :: 32 :: 60 :: (p.a ++ [62, 32])) ++ r = Y := ⟨_, rfl⟩
    rw [List.append_assoc, List.cons_append, hY, adrL_word (N + 3) true (wordL (bs p.words)) (32 :: Y) (wordL_run _) (wordL_ne _) (by show ¬ (32 : UInt8) = 64; decide) (by show runB 32 = false; decide), ← hY]
    have h1 : ∀ X, adrL (N + 3) false (32 :: 98 :: 46 :: 32 :: 60 :: X) = adrL (N + 1 + 1) false (60 :: X) := fun X => rfl
    have h2 := adrL_bracket (N + 1) false p (32 :: r)
    have e : (32 :: 98 :: 46 :: 32 :: 60 :: (p.a ++ [62, 32])) ++ r = 32 :: 98 :: 46 :: 32 :: 60 :: (p.a ++ 62 :: 32 :: r) := by simp
    rw [List.cons_append] at e
    rw [e, h1, h2]
  · refine ⟨r, ?_, rfl⟩
    have h1 : ∀ X, adrL (N + 4) true (34 :: 120 :: 44 :: 32 :: 92 :: 34 :: 32 :: X) = (quotedL X).bind fun l' => adrL (N + 3) false l' := fun X => rfl
    have hq : quotedL (wordL (bs p.words) ++ 64 :: 34 :: 60 :: (p.a ++ 62 :: r)) = some (60 :: (p.a ++ 62 :: r)) := by
      rw [quotedL_skip _ _ (fun c hc => runB_quote (List.all_eq_true.1 (wordL_run _) c hc))]; rfl
    have e : (34 :: 120 :: 44 :: 32 :: 92 :: 34 :: 32 :: (wordL (bs p.words) ++ 64 :: 34 :: 60 :: (p.a ++ [62]))) ++ r = 34 :: 120 :: 44 :: 32 :: 92 :: 34 :: 32 :: (wordL (bs p.words) ++ 64 :: 34 :: 60 :: (p.a ++ 62 :: r)) := by simp
    rw [e, h1, hq]
    exact adrL_bracket (N + 2) false p r
theorem manyL_list (N : Nat) : ∀ (ps : List Per) (p : Per) (n : Nat) (b : List UInt8), ps.length < n → b.all blankB = true → listL (N + 4) n (b ++ manyL (p :: ps)) = some ((p :: ps).map Per.adr)
  | [], p, n, b, hn, hb => by
    obtain ⟨n, rfl⟩ : ∃ q, n = q + 1 := ⟨n - 1, by simp at hn; omega⟩
    obtain ⟨r', h1, h2⟩ := adrL_form N p [] (.inl rfl)
    rw [List.append_nil] at h1
    rw [listL, adrL_blank, dropBlank_all hb, ← adrL_blank, manyL_one, h1]
    rw [Option.bind_some]
    dsimp only
    rw [h2, if_pos (by rfl)]; rfl
  | q :: ps, p, n, b, hn, hb => by
    obtain ⟨n, rfl⟩ : ∃ q, n = q + 1 := ⟨n - 1, by simp at hn; omega⟩
    have e : manyL (p :: q :: ps) = formL p ++ (sepL q ++ manyL (q :: ps)) := by simp [manyL, List.append_assoc]
    have hs : ∃ c : List UInt8, c.all blankB = true ∧ (nextB (sepL q ++ manyL (q :: ps)) = 44 ∨ nextB (sepL q ++ manyL (q :: ps)) = 32) ∧ (sepL q ++ manyL (q :: ps)).dropWhile blankB = 44 :: (c ++ manyL (q :: ps)) := by
      unfold sepL
      split
      · exact ⟨[], rfl, .inl rfl, rfl⟩
      · exact ⟨[32], rfl, .inl rfl, rfl⟩
      · exact ⟨[9], rfl, .inr rfl, rfl⟩
    obtain ⟨c, hc, h4, h5⟩ := hs
    obtain ⟨r', h1, h2⟩ := adrL_form N p (sepL q ++ manyL (q :: ps)) (.inr h4)
    have ih := manyL_list N ps q n c (by simp at hn; omega) hc
    rw [listL, adrL_blank, dropBlank_all hb, ← adrL_blank, e, h1]
    rw [Option.bind_some]
    dsimp only
    rw [h2, h5, if_neg (by simp), if_pos (by rfl), List.tail_cons, ih]
    rfl
theorem Per.a_len (p : Per) : 7 ≤ p.a.length ∧ p.a.length ≤ 21 := by
  have h := adrOf_size p.loc p.dom
  have e : p.a.length = p.adr.loc.size + 1 + p.adr.dom.size := by simp [Per.a, bs_len]; omega
  unfold Per.adr at e
  omega
theorem formL_len (p : Per) : 7 ≤ (formL p).length ∧ (formL p).length ≤ 40 := by
  have h1 := p.a_len
  have h2 := wordL_len (bs p.words)
  unfold formL
  split
  · omega
  · simp only [List.length_cons, List.length_append, List.length_nil]; omega
  · simp only [List.length_cons, List.length_append, List.length_nil]; omega
  · simp only [List.length_cons, List.length_append, List.length_nil]; omega
theorem sepL_len (p : Per) : 1 ≤ (sepL p).length ∧ (sepL p).length ≤ 3 := by
  unfold sepL
  split <;> simp
theorem flat_len (ps : List Per) : 8 * ps.length ≤ (ps.flatMap fun q => sepL q ++ formL q).length ∧ (ps.flatMap fun q => sepL q ++ formL q).length ≤ 43 * ps.length := by
  induction ps with
  | nil => simp
  | cons p ps ih =>
    have h1 := formL_len p
    have h2 := sepL_len p
    rw [List.flatMap_cons, List.length_append, List.length_append, List.length_cons]
    omega
theorem manyL_len (ps : List Per) (h : ps.length ≤ 12) (h0 : ps ≠ []) : 7 ≤ (manyL ps).length ∧ (manyL ps).length ≤ 600 ∧ ps.length ≤ (manyL ps).length := by
  cases ps with
  | nil => exact absurd rfl h0
  | cons p ps =>
    have h1 := formL_len p
    have h2 := flat_len ps
    rw [List.length_cons] at h ⊢
    rw [manyL, List.length_append]
    omega
theorem many_list (ps : List Per) (h : ps.length ≤ 12) (h0 : ps ≠ []) : listL ((manyL ps).length + 1) ((manyL ps).length + 1) (manyL ps) = some (ps.map Per.adr) := by
  obtain ⟨h1, h2, h3⟩ := manyL_len ps h h0
  cases ps with
  | nil => exact absurd rfl h0
  | cons p ps =>
    have h4 := manyL_list ((manyL (p :: ps)).length - 3) ps p ((manyL (p :: ps)).length + 1) [] (by rw [List.length_cons] at h3; omega) rfl
    rw [List.nil_append] at h4
    have e : (manyL (p :: ps)).length - 3 + 4 = (manyL (p :: ps)).length + 1 := by omega
    rw [e] at h4
    exact h4
def sepsL : List (List UInt8) := [[44], [44, 32], [32, 44, 9]]
theorem sep_cell (z : Per) : (sepsL.map fun b => Value.string (mkS b))[pickN z.words.size 3]? = some (.string (mkS (sepL z))) := by
  have h := pickN_lt z.words.size 3 (by omega)
  unfold sepL
  generalize pickN z.words.size 3 = k at h
  rcases (show k = 0 ∨ k = 1 ∨ k = 2 by omega) with rfl | rfl | rfl <;> rfl
theorem manyL_take (x : List Per) (j : Nat) (hj : j < x.length) : manyL (x.take (j + 1)) = if j = 0 then formL x[j] else manyL (x.take j) ++ (sepL x[j] ++ formL x[j]) := by
  rw [List.take_succ_eq_append_getElem hj]
  by_cases h0 : j = 0
  · subst h0; rw [if_pos rfl, List.take_zero, List.nil_append, manyL_one]
  · rw [if_neg h0, manyL_snoc _ _ (by intro h; have h2 : (x.take j).length = 0 := by rw [h]; rfl
                                      rw [List.length_take] at h2; omega)]
theorem manyL_take_len (x : List Per) (j : Nat) (hj : j ≤ 12) : (manyL (x.take j)).length ≤ 600 := by
  by_cases h : x.take j = []
  · rw [h]; simp [manyL]
  · exact (manyL_len _ (by rw [List.length_take]; omega) h).2.1
theorem formL_0 (p : Per) (h : pickN p.loc.size 4 = 0) : formL p = p.a := by unfold formL; rw [h]; rfl
theorem formL_1 (p : Per) (h : pickN p.loc.size 4 = 1) : formL p = 60 :: (p.a ++ [62]) := by unfold formL; rw [h]; rfl
theorem formL_2 (p : Per) (h : pickN p.loc.size 4 = 2) : formL p = wordL (bs p.words) ++ 32 :: 98 :: 46 :: 32 :: 60 :: (p.a ++ [62, 32]) := by unfold formL; rw [h]; rfl
theorem formL_3 (p : Per) (h : pickN p.loc.size 4 = 3) : formL p = 34 :: 120 :: 44 :: 32 :: 92 :: 34 :: 32 :: (wordL (bs p.words) ++ 64 :: 34 :: 60 :: (p.a ++ [62])) := by unfold formL; rw [h]; rfl
end Go.Proofs.YtokeblpdaomagaaDoor
