/- Plain laws on the reader of addresses: what is read of an address, bare or in brackets, behind words. -/
import Derived.Test.YtokeblpdaomagaaDoorWhoList2
import Derived.Test.YtokeblpdaomagaaDoorKeep
namespace Go.Proofs.YtokeblpdaomagaaDoor
open Go.RowKit

theorem runB_plain {c : UInt8} (h : runB c = true) : c ≠ 32 ∧ c ≠ 9 ∧ c ≠ 34 ∧ c ≠ 60 ∧ c ≠ 64 ∧ c ≠ 62 ∧ c ≠ 44 ∧ c ≠ 0 := by
  refine ⟨?_, ?_, ?_, ?_, ?_, ?_, ?_, ?_⟩ <;> (rintro rfl; revert h; decide)
theorem takeWhile_all {p : UInt8 → Bool} {l r : List UInt8} (h : l.all p = true) (hr : p (r.headD 0) = false ∨ r = []) : (l ++ r).takeWhile p = l ∧ (l ++ r).dropWhile p = r := by
  induction l with
  | nil =>
    cases r with
    | nil => exact ⟨rfl, rfl⟩
    | cons c r =>
      have hc : ¬ p c = true := by
        rcases hr with h | h
        · simpa using h
        · cases h
      exact ⟨List.takeWhile_cons_of_neg hc, List.dropWhile_cons_of_neg hc⟩
  | cons c l ih =>
    rw [List.all_cons, Bool.and_eq_true] at h
    obtain ⟨i1, i2⟩ := ih h.2
    exact ⟨by rw [List.cons_append, List.takeWhile_cons_of_pos h.1, i1], by rw [List.cons_append, List.dropWhile_cons_of_pos h.1, i2]⟩
/-- A bare address. -/
theorem bareL_at (loc : ByteArray) (dom rest : List UInt8) (hd : dom.all runB = true) (hr : runB (rest.headD 0) = false ∨ rest = []) (hc : checkA ⟨loc, mkS dom⟩ = 0) :
    bareL loc (64 :: (dom ++ rest)) = some (⟨loc, mkS dom⟩, rest) := by
  obtain ⟨h1, h2⟩ := takeWhile_all hd hr
  unfold bareL
  rw [if_pos (show nextB (64 :: _) = 64 from rfl), List.tail_cons, h1, h2, if_pos hc]
theorem dropBlank_run {l r : List UInt8} (hl : l.all runB = true) (hne : l ≠ []) : (l ++ r).dropWhile blankB = l ++ r := by
  cases l with
  | nil => exact absurd rfl hne
  | cons c l =>
    rw [List.all_cons, Bool.and_eq_true] at hl
    have hc := runB_plain hl.1
    rw [List.cons_append, List.dropWhile_cons_of_neg (by simp [blankB, hc.1, hc.2.1])]
/-- An address with nothing ahead of it. -/
theorem adrL_bare (n : Nat) (loc dom rest : List UInt8) (hl : loc.all runB = true) (hne : loc ≠ []) (hd : dom.all runB = true) (hr : runB (rest.headD 0) = false ∨ rest = []) (hc : checkA ⟨mkS loc, mkS dom⟩ = 0) :
    adrL (n + 1) true (loc ++ 64 :: (dom ++ rest)) = some (⟨mkS loc, mkS dom⟩, rest) := by
  have hb := dropBlank_run (r := 64 :: (dom ++ rest)) hl hne
  obtain ⟨t1, t2⟩ := takeWhile_all (r := 64 :: (dom ++ rest)) hl (.inl (show runB 64 = false by decide))
  have hh : ∃ c, nextB (loc ++ 64 :: (dom ++ rest)) = c ∧ runB c = true := by
    cases loc with
    | nil => exact absurd rfl hne
    | cons c l => exact ⟨c, rfl, by rw [List.all_cons, Bool.and_eq_true] at hl; exact hl.1⟩
  obtain ⟨c, hc1, hc2⟩ := hh
  have hp := runB_plain hc2
  rw [adrL, hb, hc1, if_neg hp.2.2.1, if_neg hp.2.2.2.1, t2, if_pos ⟨rfl, rfl⟩, t1]
  exact bareL_at _ _ _ hd hr hc
theorem runB_atom {l : List UInt8} (h : l.all atomB = true) : l.all runB = true := by
  rw [List.all_eq_true] at h ⊢
  intro c hc
  simp [runB, h c hc]
theorem runB_org (l : List UInt8) : (orgL l).all runB = true := by
  unfold orgL
  rw [List.all_append, runB_atom (wordL_atom l)]; rfl
/-- A list of one address, with nothing around it. -/
theorem listL_one (N n : Nat) (l d : ByteArray) : listL (N + 1) (n + 1) (bs (adrOf l d).loc ++ 64 :: bs (adrOf l d).dom) = some [adrOf l d] := by
  have hc := adrOf_check l d
  have h := adrL_bare N (bs (adrOf l d).loc) (bs (adrOf l d).dom) [] (by rw [adrOf_loc]; exact runB_atom (wordL_atom _)) (by rw [adrOf_loc]; exact wordL_ne _) (by rw [adrOf_dom]; exact runB_org _) (.inr rfl) hc
  rw [List.append_nil] at h
  rw [listL, h]
  rfl
end Go.Proofs.YtokeblpdaomagaaDoor
