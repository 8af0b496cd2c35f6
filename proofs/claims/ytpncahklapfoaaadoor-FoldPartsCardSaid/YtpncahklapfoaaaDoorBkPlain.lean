/- Plain words: tapes of batches, and what is recovered of them. -/
import Derived.Test.YtpncahklapfoaaaDoorBatPlain
import Derived.Test.YtpncahklapfoaaaDoorEntr
namespace Go.Proofs.YtpncahklapfoaaaDoor
open Go.RowKit
set_option linter.unusedVariables false

/-- A batch. -/
structure BatS where
  user : Int
  es : List Ent
/-- A batch that may be, and is not long. -/
structure GoodB (b : BatS) : Prop where
  ok : checkB b.user b.es = 0
  sm : ∀ e ∈ b.es, SmE e
  ln : (batN b.user b.es).length ≤ 3500
  em : b.es.length ≤ 10
def frameN (b : BatS) : List UInt8 := wideN 3 (batN b.user b.es).length ++ batN b.user b.es
def tapeN (l : List BatS) : List UInt8 := l.flatMap frameN
theorem frameN_len (b : BatS) : (frameN b).length = 3 + (batN b.user b.es).length := by unfold frameN; rw [List.length_append, wideN_len]
theorem tapeN_nil : tapeN [] = [] := rfl
theorem tapeN_cons (b : BatS) (r : List BatS) : tapeN (b :: r) = frameN b ++ tapeN r := rfl
theorem tapeN_append (a b : List BatS) : tapeN (a ++ b) = tapeN a ++ tapeN b := by unfold tapeN; rw [List.flatMap_append]
theorem tapeN_snoc (a : List BatS) (b : BatS) : tapeN (a ++ [b]) = tapeN a ++ frameN b := by rw [tapeN_append]; simp [tapeN]
theorem tapeN_len : ∀ (l : List BatS), (∀ b ∈ l, GoodB b) → (tapeN l).length ≤ l.length * 3503
  | [], _ => by simp [tapeN]
  | b :: r, h => by
    have h1 := tapeN_len r fun x hx => h x (List.mem_cons_of_mem _ hx)
    have h2 := (h b List.mem_cons_self).ln
    rw [tapeN_cons, List.length_append, frameN_len, List.length_cons]
    omega
/-- How many batches are whole in so many bytes. -/
def whole : List BatS → Nat → Nat
  | [], _ => 0
  | b :: r, k => if (frameN b).length ≤ k then whole r (k - (frameN b).length) + 1 else 0
theorem whole_le : ∀ (l : List BatS) (k : Nat), whole l k ≤ l.length
  | [], _ => Nat.le_refl _
  | b :: r, k => by
    unfold whole
    split
    · have := whole_le r (k - (frameN b).length); rw [List.length_cons]; omega
    · exact Nat.zero_le _
theorem whole_len : ∀ (l : List BatS) (k : Nat), (tapeN (l.take (whole l k))).length ≤ k
  | [], _ => by simp [whole, tapeN]
  | b :: r, k => by
    unfold whole
    split
    · next h =>
      have := whole_len r (k - (frameN b).length)
      rw [List.take_succ_cons, tapeN_cons, List.length_append]
      omega
    · simp [tapeN]
theorem whole_full : ∀ (l : List BatS) (k : Nat), (tapeN l).length ≤ k → whole l k = l.length
  | [], _, _ => rfl
  | b :: r, k, h => by
    rw [tapeN_cons, List.length_append] at h
    unfold whole
    rw [if_pos (by omega), whole_full r _ (by omega), List.length_cons]
theorem whole_mono : ∀ (l : List BatS) (j k : Nat), j ≤ k → whole l j ≤ whole l k
  | [], _, _, _ => Nat.le_refl _
  | b :: r, j, k, h => by
    unfold whole
    by_cases h1 : (frameN b).length ≤ j
    · rw [if_pos h1, if_pos (by omega)]
      have := whole_mono r (j - (frameN b).length) (k - (frameN b).length) (by omega)
      omega
    · rw [if_neg h1]; exact Nat.zero_le _
theorem whole_at : ∀ (l : List BatS) (i : Nat), i ≤ l.length → ∀ k, (tapeN (l.take i)).length ≤ k → whole l k = i + whole (l.drop i) (k - (tapeN (l.take i)).length)
  | l, 0, _, k, _ => by simp [tapeN]
  | [], i + 1, h, _, _ => by simp at h
  | b :: r, i + 1, h, k, hk => by
    rw [List.take_succ_cons, tapeN_cons, List.length_append] at hk ⊢
    rw [List.drop_succ_cons]
    have ih := whole_at r i (by simpa using h) (k - (frameN b).length) (by omega)
    conv => lhs; unfold whole
    rw [if_pos (by omega), ih, Nat.sub_sub]
    omega
theorem whole_ge (l : List BatS) (i k : Nat) (hi : i ≤ l.length) (h : (tapeN (l.take i)).length ≤ k) : i ≤ whole l k := by rw [whole_at l i hi k h]; omega
theorem batN_two (u : Int) (es : List Ent) : 2 ≤ (batN u es).length := by unfold batN; simp
theorem frameN_pos (b : BatS) : 5 ≤ (frameN b).length := by rw [frameN_len]; have := batN_two b.user b.es; omega
theorem tapeN_pos (l : List BatS) (h : l ≠ []) : 0 < (tapeN l).length := by
  cases l with
  | nil => exact absurd rfl h
  | cons b r => rw [tapeN_cons, List.length_append]; have := frameN_pos b; omega
/-- All are whole just if no byte is lacking. -/
theorem whole_all : ∀ (l : List BatS) (k : Nat), whole l k = l.length → (tapeN l).length ≤ k
  | [], _, _ => Nat.zero_le _
  | b :: r, k, h => by
    unfold whole at h
    split at h
    · have := whole_all r (k - (frameN b).length) (by simpa using h)
      rw [tapeN_cons, List.length_append]
      omega
    · simp at h
/-- The bytes behind so many batches. -/
theorem tape_drop (l : List BatS) (i k : Nat) : ((tapeN l).take k).drop (tapeN (l.take i)).length = (tapeN (l.drop i)).take (k - (tapeN (l.take i)).length) := by
  rw [List.drop_take]
  congr 1
  conv => lhs; arg 2; rw [← List.take_append_drop i l, tapeN_append]
  rw [List.drop_left']
  rfl
theorem tape_cut (l : List BatS) (i k : Nat) (h : (tapeN (l.take i)).length ≤ k) : ((tapeN l).take k).take (tapeN (l.take i)).length = tapeN (l.take i) := by
  rw [List.take_take, Nat.min_eq_left h]
  conv => lhs; arg 2; rw [← List.take_append_drop i l, tapeN_append]
  rw [List.take_left']
  rfl
theorem tape_take (l : List BatS) (i : Nat) : (tapeN l).take (tapeN (l.take i)).length = tapeN (l.take i) := by
  conv => lhs; arg 2; rw [← List.take_append_drop i l, tapeN_append]
  rw [List.take_left']
  rfl
/-- What the reader finds where a batch is whole. -/
theorem rd_whole (b : BatS) (r : List BatS) (n : Nat) (h : GoodB b) (hn : (frameN b).length ≤ n) :
    ∃ q, (rdNum 3 ((tapeN (b :: r)).take n, false)).1 = (batN b.user b.es).length ∧ rdTake (rdNum 3 ((tapeN (b :: r)).take n, false)).1 (rdNum 3 ((tapeN (b :: r)).take n, false)).2 = (batN b.user b.es, q, false) := by
  have hl := h.ln
  have e : (tapeN (b :: r)).take n = wideN 3 (batN b.user b.es).length ++ (batN b.user b.es ++ (tapeN r).take (n - (frameN b).length)) := by
    rw [tapeN_cons, List.take_append, List.take_of_length_le hn]
    unfold frameN
    rw [List.append_assoc]
  rw [e, rdNum_wide 3 _ (by omega)]
  exact ⟨_, rfl, rdTake_app _ _⟩
/-- And where it is torn. -/
theorem rd_torn (b : BatS) (r : List BatS) (n : Nat) (h : GoodB b) (hn : n < (frameN b).length) :
    (rdTake (rdNum 3 ((tapeN (b :: r)).take n, false)).1 (rdNum 3 ((tapeN (b :: r)).take n, false)).2).2.2 = true := by
  have hl := h.ln
  have e0 : tapeN (b :: r) = wideN 3 (batN b.user b.es).length ++ (batN b.user b.es ++ tapeN r) := by
    rw [tapeN_cons]; unfold frameN; rw [List.append_assoc]
  by_cases h3 : n < 3
  · have e1 : rdNum 3 ((tapeN (b :: r)).take n, false) = (0, (tapeN (b :: r)).take n, true) := by
      unfold rdNum
      rw [if_pos (.inr (by show ((tapeN (b :: r)).take n).length < 3; rw [List.length_take]; omega))]
    rw [e1]
    unfold rdTake
    rw [if_pos (.inl rfl)]
  · have e : (tapeN (b :: r)).take n = wideN 3 (batN b.user b.es).length ++ (batN b.user b.es ++ tapeN r).take (n - 3) := by
      rw [e0, List.take_append, wideN_len, List.take_of_length_le (by rw [wideN_len]; omega)]
    rw [e, rdNum_wide 3 _ (by omega)]
    unfold rdTake
    rw [frameN_len] at hn
    rw [if_pos (.inr (by show ((batN b.user b.es ++ tapeN r).take (n - 3)).length < (batN b.user b.es).length; rw [List.length_take]; omega))]
theorem rd_end (n : Nat) : (rdTake (rdNum 3 ((tapeN []).take n, false)).1 (rdNum 3 ((tapeN []).take n, false)).2).2.2 = true := by
  simp [tapeN, rdNum, rdTake]
/-! Batches of raw numbers are not long. -/
theorem cutS_le (s : ByteArray) (n : Nat) : (cutS s n).size ≤ n := cutS_size s n
theorem encC_len (c : Chr) : (encN (entC c)).length ≤ 349 := by
  have h1 := cutS_size c.text 300
  have h2 := cutS_size c.text 100
  have h3 := nmN_size (pickN c.box 6)
  have h4 := nmN_size (pickN c.dst 6)
  have hz : (ByteArray.mk #[]).size = 0 := rfl
  have h5 : (mkS [97, 64, 98, 46, 99]).size = 5 := by decide
  rw [encN_len]
  unfold entC
  split <;> (simp only; omega)
theorem encsC_len : ∀ (l : List Chr), (encsN (l.map entC)).length ≤ l.length * 349
  | [] => by simp [encsN]
  | c :: r => by
    have h1 := encC_len c
    have h2 := encsC_len r
    unfold encsN at h2 ⊢
    rw [List.map_cons, List.flatMap_cons, List.length_append, List.length_cons]
    omega
theorem batE_good (l : List Chr) (u : Int) : GoodB ⟨pickN u 3, batE l⟩ := by
  refine ⟨bat_check l u, batE_small l, ?_, (batE_len l).2⟩
  have h1 : (encsN (batE l)).length ≤ 3490 := by
    unfold batE
    split
    · have e : (encsN [⟨4, nmN 0, 0, 0, ⟨#[]⟩, ⟨#[]⟩⟩]).length ≤ 3490 := by decide
      exact e
    · have := encsC_len (l.take 10)
      have h2 : (l.take 10).length ≤ 10 := by rw [List.length_take]; omega
      unfold entsC
      omega
  unfold batN
  rw [List.length_append]
  simp only [List.length_cons, List.length_nil]
  omega
end Go.Proofs.YtpncahklapfoaaaDoor
