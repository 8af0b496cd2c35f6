/- What is no address, before or behind one, spoils a list: the plain law. -/
import Derived.Test.YtokeblpdaomagaaDoorWhoLaw
namespace Go.Proofs.YtokeblpdaomagaaDoor
open Go.RowKit

/-- The texts that are no addresses. -/
def badsL : List (List UInt8) := [[], [97], [64, 98], [97, 64], [97, 64, 98, 64, 99], [60, 97, 64, 98], [97, 64, 98, 62], [97, 64, 98, 32, 99, 64, 100], [97, 32, 98, 64, 99], [60, 97, 32, 64, 98, 62], [60, 62], [97, 46, 46, 98, 64, 99], [46, 97, 64, 98], [97, 46, 64, 98], [34, 120, 32, 60, 97, 64, 98, 62], [34, 120, 34], [97, 64, 98, 59]]
theorem quotedL_none : ∀ l : List UInt8, (∀ c ∈ l, c ≠ 34 ∧ c ≠ 92) → quotedL l = none
  | [], _ => rfl
  | c :: l, h => by
    have hc := h c List.mem_cons_self
    have ih := quotedL_none l (fun d hd => h d (List.mem_cons_of_mem _ hd))
    unfold quotedL
    split
    · simp_all
    · simp_all
    · simp_all
    · simp_all
    · simp_all
theorem runB_quote {c : UInt8} (h : runB c = true) : c ≠ 34 ∧ c ≠ 92 := by
  refine ⟨?_, ?_⟩ <;> (rintro rfl; revert h; decide)
theorem bad_ahead (N n : Nat) (A : List UInt8) (hA : ∀ c ∈ A, c ≠ 34 ∧ c ≠ 92) : ∀ b ∈ badsL, listL (N + 6) (n + 2) (b ++ 44 :: A) = none := by
  intro b hb
  simp only [badsL, List.mem_cons, List.not_mem_nil, or_false] at hb
  rcases hb with rfl | rfl | rfl | rfl | rfl | rfl | rfl | rfl | rfl | rfl | rfl | rfl | rfl | rfl | rfl | rfl | rfl
  case _ => rfl
  case _ => rfl
  case _ => rfl
  case _ => rfl
  case _ => rfl
  case _ => rfl
  case _ => rfl
  case _ => rfl
  case _ => rfl
  case _ => rfl
  case _ => rfl
  case _ => rfl
  case _ => rfl
  case _ => rfl
  case _ =>
    have hq : quotedL ([120, 32, 60, 97, 64, 98, 62] ++ 44 :: A) = none := quotedL_none _ (by
      intro c hc
      rcases List.mem_append.1 hc with hc | hc
      · have h7 : ∀ c ∈ ([120, 32, 60, 97, 64, 98, 62] : List UInt8), c ≠ 34 ∧ c ≠ 92 := by decide
        exact h7 c hc
      · rcases List.mem_cons.1 hc with rfl | hc
        · decide
        · exact hA c hc)
    have h1 : adrL (N + 6) true ([34, 120, 32, 60, 97, 64, 98, 62] ++ 44 :: A) = (quotedL ([120, 32, 60, 97, 64, 98, 62] ++ 44 :: A)).bind fun l' => adrL (N + 5) false l' := rfl
    rw [listL, h1, hq]; rfl
  case _ => rfl
  case _ => rfl
theorem bad_alone (k : Nat) (hk : k < 40) : ∀ b ∈ badsL, listL (k + 1) k b = none := by
  have h : ∀ k : Fin 40, badsL.all (fun b => (listL (k.val + 1) k.val b).isNone) = true := by decide +kernel
  intro b hb
  have h2 := List.all_eq_true.1 (h ⟨k, hk⟩) b hb
  simpa using h2
theorem adr_plain (l d : ByteArray) : ∀ c ∈ bs (adrOf l d).loc ++ 64 :: bs (adrOf l d).dom, c ≠ 34 ∧ c ≠ 92 := by
  have h1 : (bs (adrOf l d).loc).all runB = true := by rw [adrOf_loc]; exact runB_atom (wordL_atom _)
  have h2 : (bs (adrOf l d).dom).all runB = true := by rw [adrOf_dom]; exact runB_org _
  intro c hc
  rw [List.mem_append, List.mem_cons] at hc
  rcases hc with hc | rfl | hc
  · exact runB_quote (List.all_eq_true.1 h1 c hc)
  · decide
  · exact runB_quote (List.all_eq_true.1 h2 c hc)
theorem bad_behind (k : Nat) (hk : k < 40) (l d : ByteArray) : ∀ b ∈ badsL, listL (k + 1) (k + 1) ((bs (adrOf l d).loc ++ 64 :: bs (adrOf l d).dom) ++ 44 :: b) = none := by
  intro b hb
  have hc := adrOf_check l d
  have h := adrL_bare k (bs (adrOf l d).loc) (bs (adrOf l d).dom) (44 :: b) (by rw [adrOf_loc]; exact runB_atom (wordL_atom _)) (by rw [adrOf_loc]; exact wordL_ne _) (by rw [adrOf_dom]; exact runB_org _) (.inl (show runB 44 = false by decide)) hc
  rw [List.append_assoc, List.cons_append, listL, h]
  rw [Option.bind_some]
  dsimp only
  rw [List.dropWhile_cons_of_neg (show ¬ blankB 44 = true by decide), if_neg (by simp), if_pos (by rfl), List.tail_cons, bad_alone k hk b hb]
  rfl
theorem bads_get (k : Nat) (h : k < 17) : badsL.getD k [] ∈ badsL := by
  have h2 : ∀ k : Fin 17, badsL.getD k.val [] ∈ badsL := by decide
  exact h2 ⟨k, h⟩
theorem bads_cell (k : Nat) (h : k < 17) : (badsL.map fun b => Value.string (mkS b))[k]? = some (.string (mkS (badsL.getD k []))) := by
  rw [List.getElem?_map, List.getD_eq_getElem?_getD]
  have h2 : k < badsL.length := h
  rw [List.getElem?_eq_getElem h2]; rfl
theorem bads_len : ∀ b ∈ badsL, b.length ≤ 8 := by decide
theorem bad_list (l d p : ByteArray) (hp : bs p = bs (adrOf l d).loc ++ 64 :: bs (adrOf l d).dom) (b : List UInt8) (hb : b ∈ badsL) :
    (mkS b ++ mkS [44] ++ p).size ≤ 40 ∧ (p ++ mkS [44] ++ mkS b).size ≤ 40 ∧
    listL ((mkS b ++ mkS [44] ++ p).size + 1) ((mkS b ++ mkS [44] ++ p).size + 1) (bs (mkS b ++ mkS [44] ++ p)) = none ∧
    listL ((p ++ mkS [44] ++ mkS b).size + 1) ((p ++ mkS [44] ++ mkS b).size + 1) (bs (p ++ mkS [44] ++ mkS b)) = none := by
  have hz := adrOf_size l d
  have h8 := bads_len b hb
  have hps : p.size = (adrOf l d).loc.size + 1 + (adrOf l d).dom.size := by
    rw [← bs_len, hp, List.length_append, List.length_cons, bs_len, bs_len]; omega
  have e1 : bs (mkS b ++ mkS [44] ++ p) = b ++ 44 :: (bs (adrOf l d).loc ++ 64 :: bs (adrOf l d).dom) := by
    rw [bs_append, bs_append, bs_mkS, bs_mkS, hp]; simp
  have e2 : bs (p ++ mkS [44] ++ mkS b) = (bs (adrOf l d).loc ++ 64 :: bs (adrOf l d).dom) ++ 44 :: b := by
    rw [bs_append, bs_append, bs_mkS, bs_mkS, hp]; simp
  have s1 : (mkS b ++ mkS [44] ++ p).size = b.length + 1 + p.size := by
    rw [← bs_len, bs_append, bs_append, bs_mkS, bs_mkS, List.length_append, List.length_append, bs_len]; rfl
  have s2 : (p ++ mkS [44] ++ mkS b).size = p.size + 1 + b.length := by
    rw [← bs_len, bs_append, bs_append, bs_mkS, bs_mkS, List.length_append, List.length_append, bs_len]; rfl
  refine ⟨by omega, by omega, ?_, ?_⟩
  · rw [e1, s1]
    have h := bad_ahead (b.length + 1 + p.size - 5) (b.length + 1 + p.size - 1) _ (adr_plain l d) b hb
    have k1 : b.length + 1 + p.size - 5 + 6 = b.length + 1 + p.size + 1 := by omega
    have k2 : b.length + 1 + p.size - 1 + 2 = b.length + 1 + p.size + 1 := by omega
    rw [k1, k2] at h
    exact h
  · rw [e2, s2]
    exact bad_behind (p.size + 1 + b.length) (by omega) l d b hb
end Go.Proofs.YtokeblpdaomagaaDoor
