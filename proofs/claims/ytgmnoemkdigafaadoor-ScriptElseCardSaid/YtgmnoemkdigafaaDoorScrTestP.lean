/- Plain words and memory for script.checkTest: tests whose parts may be. -/
import Derived.Test.YtgmnoemkdigafaaDoorScrMem
namespace Go.Proofs.YtgmnoemkdigafaaDoor
open Go.RowKit
set_option linter.unusedVariables false

mutual
/-- A test whose parts may be, but for how deep it is. -/
def okT : Tst → Prop
  | .mk k m p ns ks o lm ts => 1 ≤ k ∧ k ≤ 10 ∧ formT k m p ns.length ks.length o lm ts.length = true ∧ okTs ts
def okTs : List Tst → Prop
  | [] => True
  | t :: l => okT t ∧ okTs l
end
theorem okTs_mem : ∀ (l : List Tst) (t : Tst), okTs l → t ∈ l → okT t
  | [], t, h, ht => by cases ht
  | s :: l, t, h, ht => by
    unfold okTs at h
    rcases List.mem_cons.1 ht with rfl | ht
    · exact h.1
    · exact okTs_mem l t h.2 ht
theorem form_facts {k m p lm : Int} {nn nk nt : Nat} {o : Bool} (h : formT k m p nn nk o lm nt = true) :
    (k = 3 → nt = 1) ∧ (k = 4 ∨ k = 5 → 0 < nt) ∧ (6 ≤ k ∧ k ≤ 8 → 1 ≤ m ∧ m ≤ 3 ∧ 0 < nn ∧ 0 < nk) ∧ (7 ≤ k ∧ k ≤ 8 → 1 ≤ p ∧ p ≤ 3) ∧ (k = 9 → 0 < nn) ∧ (k = 10 → 0 ≤ lm ∧ lm ≤ 2147483647) ∧
    (¬ (6 ≤ k ∧ k ≤ 9) → nn = 0) ∧ (¬ (6 ≤ k ∧ k ≤ 8) → nk = 0 ∧ m = 0) ∧ (¬ (7 ≤ k ∧ k ≤ 8) → p = 0) ∧ (k ≠ 10 → o = false ∧ lm = 0) ∧ (¬ (3 ≤ k ∧ k ≤ 5) → nt = 0) := by
  unfold formT at h
  simp only [Bool.and_eq_true, Bool.or_eq_true, decide_eq_true_eq] at h
  obtain ⟨⟨⟨⟨⟨h1, h2⟩, h3⟩, h4⟩, h5⟩, h6⟩ := h
  refine ⟨?_, ?_, ?_, ?_, ?_, ?_, ?_, ?_, ?_, ?_, ?_⟩
  · rintro rfl
    rw [if_pos (by decide)] at h1
    simpa using h1
  · intro hk
    rw [if_pos (by omega)] at h1
    simp only [Bool.or_eq_true, Bool.and_eq_true, decide_eq_true_eq] at h1
    omega
  · intro hk
    rw [if_neg (by omega), if_pos hk] at h1
    simp only [Bool.and_eq_true, decide_eq_true_eq] at h1
    exact h1.1
  · intro hk
    rw [if_neg (by omega), if_pos (by omega)] at h1
    simp only [Bool.or_eq_true, Bool.and_eq_true, decide_eq_true_eq] at h1
    rcases h1.2 with h | h
    · omega
    · exact h
  · rintro rfl
    rw [if_neg (by decide), if_neg (by decide), if_pos rfl] at h1
    simpa using h1
  · rintro rfl
    rw [if_neg (by decide), if_neg (by decide), if_neg (by decide), if_pos rfl] at h1
    simpa using h1
  · intro hk; exact h2.resolve_left hk
  · intro hk; exact h3.resolve_left hk
  · intro hk; exact h4.resolve_left hk
  · intro hk; exact h5.resolve_left hk
  · intro hk; exact h6.resolve_left hk
theorem chkT_ok {k m p lm : Int} {ns ks : List ByteArray} {o : Bool} {ts : List Tst} (h : okT (.mk k m p ns ks o lm ts)) (d : Int) : chkT (.mk k m p ns ks o lm ts) d = if 6 < d then 1 else chkTs ts (d + 1) := by
  unfold okT at h
  obtain ⟨h1, h2, h3, h4⟩ := h
  unfold chkT
  rw [if_neg (by omega), h3]
  by_cases h : 6 < d
  · rw [if_pos h, if_pos h]
  · rw [if_neg h, if_neg h, if_neg (by simp)]
theorem chkTs_drop (ts : List Tst) (d : Int) : ∀ j : Nat, (∀ i (t : Tst), i < j → ts[i]? = some t → chkT t d = 0) → chkTs ts d = chkTs (ts.drop j) d
  | 0, _ => by rw [List.drop_zero]
  | j + 1, h => by
    rw [chkTs_drop ts d j (fun i t hi => h i t (by omega))]
    by_cases hj : j < ts.length
    · rw [List.drop_eq_getElem_cons hj]
      have h0 := h j ts[j] (by omega) (by simp [hj])
      unfold chkTs
      rw [if_neg (by rw [h0]; simp)]
      cases ts.drop (j + 1) with
      | nil => unfold chkTs; rfl
      | cons a l => rfl
    · rw [List.drop_eq_nil_of_le (by omega), List.drop_eq_nil_of_le (by omega)]
theorem len8 {l : List Value} (h : l.length = 8) : ∃ u0 u1 u2 u3 u4 u5 u6 u7, l = [u0, u1, u2, u3, u4, u5, u6, u7] := by
  match l, h with
  | [u0, u1, u2, u3, u4, u5, u6, u7], _ => exact ⟨u0, u1, u2, u3, u4, u5, u6, u7, rfl⟩
theorem drop_get {α : Type} : ∀ (l : List α) (j : Nat) (s : α), l[j]? = some s → l.drop j = s :: l.drop (j + 1)
  | [], j, s, h => by simp at h
  | a :: l, 0, s, h => by
    simp only [List.getElem?_cons_zero, Option.some.injEq] at h
    subst h; rfl
  | a :: l, j + 1, s, h => by
    simp only [List.getElem?_cons_succ] at h
    simp only [List.drop_succ_cons]
    exact drop_get l j s h
/-- What the loop over a test's tests leans on, round by round. -/
theorem testsAt_round {w w' : World} {ts : List Tst} {A : Option Addr} {j : Nat} (hb : Below w.heap.size w w') (h : TestsAt w ts A) (hj : j < ts.length) :
    ∃ (b off : Nat) (s : Tst) (k m p lm : Int) (o : Bool) (An Ak At : Option Addr) (nn cn nk ck nt ct : Nat), A = some ⟨b, off, none⟩ ∧ s ∈ ts ∧ ts.drop j = s :: ts.drop (j + 1) ∧ TestV w' s [.int .i64 k, .int .i64 m, .int .i64 p, .slice An nn cn, .slice Ak nk ck, .bool o, .int .i64 lm, .slice At nt ct] ∧
      w'.cell? ⟨b, off + j * 8, none⟩ = some (.int .i64 k) ∧ w'.cell? ⟨b, off + j * 8 + 1, none⟩ = some (.int .i64 m) ∧ w'.cell? ⟨b, off + j * 8 + 2, none⟩ = some (.int .i64 p) ∧ w'.cell? ⟨b, off + j * 8 + 3, none⟩ = some (.slice An nn cn) ∧ w'.cell? ⟨b, off + j * 8 + 4, none⟩ = some (.slice Ak nk ck) ∧ w'.cell? ⟨b, off + j * 8 + 5, none⟩ = some (.bool o) ∧ w'.cell? ⟨b, off + j * 8 + 6, none⟩ = some (.int .i64 lm) ∧ w'.cell? ⟨b, off + j * 8 + 7, none⟩ = some (.slice At nt ct) := by
  obtain ⟨b, off, rfl⟩ := testsAt_ptr h (fun e => by rw [e] at hj; simp at hj)
  obtain ⟨s, hs⟩ : ∃ s, ts[j]? = some s := ⟨ts[j], by simp [hj]⟩
  obtain ⟨us, hcs, huv⟩ := testsAt_get ts b off j s (testsAt_later hb ts _ h) hs
  have huv2 := huv
  obtain ⟨k, m, p, ns, ks, o, lm, ss⟩ := s
  unfold TestV at huv2
  obtain ⟨An, cn, Ak, ck, At, ct, rfl, _⟩ := huv2
  exact ⟨b, off, _, k, m, p, lm, o, An, Ak, At, _, cn, _, ck, _, ct, rfl, List.mem_of_getElem? hs, drop_get ts j _ hs, huv, hcs 0 _ rfl, hcs 1 _ rfl, hcs 2 _ rfl, hcs 3 _ rfl, hcs 4 _ rfl, hcs 5 _ rfl, hcs 6 _ rfl, hcs 7 _ rfl⟩
theorem bel2 {w w' : World} {q j1 j2 : Nat} {v1 v2 : Value} (hq : w.heap.size ≤ q) (h : Below w.heap.size w w') : Below w.heap.size w ((w'.setCell ⟨q, j1, none⟩ v1).setCell ⟨q, j2, none⟩ v2).drew :=
  btr ((h.setCell (p := ⟨q, j1, none⟩) hq v1).setCell (p := ⟨q, j2, none⟩) hq v2) (bdr _)
theorem bel3 {w w' : World} {q j1 j2 j3 : Nat} {v1 v2 v3 : Value} (hq : w.heap.size ≤ q) (h : Below w.heap.size w w') : Below w.heap.size w (((w'.setCell ⟨q, j1, none⟩ v1).setCell ⟨q, j2, none⟩ v2).setCell ⟨q, j3, none⟩ v3).drew :=
  btr (((h.setCell (p := ⟨q, j1, none⟩) hq v1).setCell (p := ⟨q, j2, none⟩) hq v2).setCell (p := ⟨q, j3, none⟩) hq v3) (bdr _)
theorem bk_eq {W : World} {b : Nat} {cs cs' : List Value} {t : TypeId} (h : Bk W b cs t) (e : cs = cs') : Bk W b cs' t := e ▸ h
end Go.Proofs.YtgmnoemkdigafaaDoor
