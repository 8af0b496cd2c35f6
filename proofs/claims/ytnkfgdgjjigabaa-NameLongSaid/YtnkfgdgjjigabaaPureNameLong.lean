/- A box's name has one to twelve bytes, none of them a blank: the pure side, for every two whole numbers. -/
import Derived.Test.YtnkfgdgjjigabaaPNameLongx1
import Derived.OpenShut
namespace Go.Proofs.Ytnkfgdgjjigabaa.Pure
open Go.RowKit Go.Proofs.Ytnkfgdgjjigabaa.PNameLong Go.Proofs.YtnkfgdgjjigabaaW.PrintWords Go.Proofs.YtnkfgdgjjigabaaW.PrintLast

theorem picked_some (n m : Int) (hn : (Lit.int .i64 n).wf = true) (hm : 0 < m) (hm2 : m < 1000000) :
    ∃ r : Nat, postroomkeep_picked.f n m = some (r : Int) ∧ (r : Int) < m := by
  have hb := bounds_i64 hn
  unfold postroomkeep_picked.f
  have key : ∀ x : Int, 0 ≤ x → ∃ r : Nat, Int.tmod x m = (r : Int) ∧ (r : Int) < m := by
    intro x hx
    have h1 := Int.tmod_nonneg m hx
    have h2 := Int.tmod_lt_of_pos x hm
    exact ⟨(Int.tmod x m).toNat, by omega, by omega⟩
  have hne : ¬ m = 0 := by omega
  by_cases h0 : n < 0
  · rw [if_pos h0, if_neg hne]
    have e : wrap64 (-(wrap64 (n + 1))) = -(n + 1) := by unfold wrap64; omega
    rw [e]
    obtain ⟨r, h1, h2⟩ := key (-(n + 1)) (by omega)
    exact ⟨r, by rw [h1], h2⟩
  · rw [if_neg h0, if_neg hne]
    obtain ⟨r, h1, h2⟩ := key n (by omega)
    exact ⟨r, by rw [h1], h2⟩

/-- What follows once the name is laid. -/
def rest (k : Nat) (t : Int) : Option Bool :=
  if 0 ≤ t then (if t < ((List.replicate k (97 : Int)).length : Int) then ((rule_Name.f (128 - k) (strOfNums ((List.replicate k (97 : Int)).set (t : Int).toNat 32))).bind fun t109 => (some (t109 == 3))) else (none)) else (none)

def goes (k : Nat) (a1 : Int) : Option Bool :=
  if k < 1 ∨ 12 < k then some true else (postroomkeep_picked.f a1 k).bind (rest k)

theorem rest_all : ∀ k ∈ List.range 13, ∀ p ∈ List.range k, rest k p = some true := by decide +kernel

theorem loop_all (a1 : Int) (k : Nat) (hk : k < 30) : postroomkeep_NameLong.l0 130 a1 k (List.replicate k 0) 0 = goes k a1 := by
  have h : k = 0 ∨ k = 1 ∨ k = 2 ∨ k = 3 ∨ k = 4 ∨ k = 5 ∨ k = 6 ∨ k = 7 ∨ k = 8 ∨ k = 9 ∨ k = 10 ∨ k = 11 ∨ k = 12 ∨ k = 13 ∨ k = 14 ∨ k = 15 ∨ k = 16 ∨ k = 17 ∨ k = 18 ∨ k = 19 ∨ k = 20 ∨ k = 21 ∨ k = 22 ∨ k = 23 ∨ k = 24 ∨ k = 25 ∨ k = 26 ∨ k = 27 ∨ k = 28 ∨ k = 29 := by omega
  rcases h with rfl | rfl | rfl | rfl | rfl | rfl | rfl | rfl | rfl | rfl | rfl | rfl | rfl | rfl | rfl | rfl | rfl | rfl | rfl | rfl | rfl | rfl | rfl | rfl | rfl | rfl | rfl | rfl | rfl | rfl
  all_goals (show postroomkeep_NameLong.l0 130 a1 _ _ 0 = goes _ a1; kernel_rfl)

theorem NameLong : postroomkeep_NameLong.Pure := by
  intro a0 a1 h0 h1
  obtain ⟨k, hk, hk2⟩ := picked_some a0 30 h0 (by omega) (by omega)
  refine ⟨130, ?_⟩
  unfold postroomkeep_NameLong.f
  rw [hk]; simp only [Option.bind_some]
  rw [if_pos (by omega), if_pos (by omega), Int.toNat_natCast, loop_all a1 k (by omega)]
  unfold goes
  by_cases h : k < 1 ∨ 12 < k
  · rw [if_pos h]
  · rw [if_neg h]
    obtain ⟨p, hp, hp2⟩ := picked_some a1 k h1 (by omega) (by omega)
    rw [hp]; simp only [Option.bind_some]
    exact rest_all k (List.mem_range.2 (by omega)) p (List.mem_range.2 (by omega))
end Go.Proofs.Ytnkfgdgjjigabaa.Pure
