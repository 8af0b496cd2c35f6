/- Plain words: a batch's bytes are read back, what is torn is too short, and no batch has two forms. -/
import Derived.Test.YtpncahklapfoaaaDoorRd
namespace Go.Proofs.YtpncahklapfoaaaDoor
open Go.RowKit
set_option linter.unusedVariables false

theorem foldl_num (l : List UInt8) : ∀ a : Nat, l.foldl (fun n c => n * 256 + c.toNat) a = a * 256 ^ l.length + numL l := by
  induction l with
  | nil => intro a; simp [numL]
  | cons c r ih =>
    intro a
    have h1 := ih (a * 256 + c.toNat)
    have h2 := ih (0 * 256 + c.toNat)
    have e2 : numL (c :: r) = r.foldl (fun n c => n * 256 + c.toNat) (0 * 256 + c.toNat) := rfl
    rw [List.foldl_cons, h1, e2, h2, List.length_cons, Nat.pow_succ, Nat.add_mul, Nat.add_mul, Nat.mul_assoc a 256, Nat.mul_comm 256]
    omega
theorem numL_cons (c : UInt8) (r : List UInt8) : numL (c :: r) = c.toNat * 256 ^ r.length + numL r := by
  have h := foldl_num r (0 * 256 + c.toNat)
  have e : 0 * 256 + c.toNat = c.toNat := by omega
  rw [e] at h
  show List.foldl _ (0 * 256 + c.toNat) r = _
  rw [e]
  exact h
theorem wideN_mod (k : Nat) : ∀ a b : Nat, wideN k (a * 256 ^ k + b) = wideN k b := by
  induction k with
  | zero => intro a b; rfl
  | succ k ih =>
    intro a b
    have h1 : a * 256 ^ (k + 1) + b = (a * 256) * 256 ^ k + b := by rw [Nat.pow_succ, Nat.mul_assoc, Nat.mul_comm 256]
    show UInt8.ofNat ((a * 256 ^ (k + 1) + b) / 256 ^ k) :: wideN k (a * 256 ^ (k + 1) + b) = UInt8.ofNat (b / 256 ^ k) :: wideN k b
    have hp : 0 < 256 ^ k := Nat.pow_pos (by decide)
    rw [h1, ih (a * 256) b, Nat.mul_comm (a * 256), Nat.mul_add_div hp]
    congr 1
    apply UInt8.toNat_inj.1
    rw [UInt8.toNat_ofNat', UInt8.toNat_ofNat']
    omega
theorem wideN_numL : ∀ p : List UInt8, wideN p.length (numL p) = p
  | [] => rfl
  | c :: r => by
    have hp : 0 < 256 ^ r.length := Nat.pow_pos (by decide)
    have hl := numL_lt r
    rw [numL_cons, List.length_cons]
    show UInt8.ofNat ((c.toNat * 256 ^ r.length + numL r) / 256 ^ r.length) :: wideN r.length (c.toNat * 256 ^ r.length + numL r) = _
    rw [wideN_mod, wideN_numL r, Nat.mul_comm, Nat.mul_add_div hp, Nat.div_eq_of_lt hl, Nat.add_zero]
    congr 1
    exact UInt8.toNat_inj.1 (by rw [UInt8.toNat_ofNat']; have := c.toNat_lt; omega)
theorem numL_wideN (k n : Nat) : numL (wideN k n) = n % 256 ^ k := by
  induction k with
  | zero => simp [wideN, numL, Nat.mod_one]
  | succ k ih =>
    show numL (UInt8.ofNat (n / 256 ^ k) :: wideN k n) = _
    have e : (2 : Nat) ^ 8 = 256 := rfl
    rw [numL_cons, ih, wideN_len, UInt8.toNat_ofNat', e, Nat.mod_pow_succ, Nat.mul_comm]
    exact Nat.add_comm _ _
/-! What was written is read. -/
theorem rdNum_wide (k n : Nat) (h : n < 256 ^ k) (r : List UInt8) : rdNum k (wideN k n ++ r, false) = (n, r, false) := by
  unfold rdNum
  rw [if_neg (by simp [wideN_len])]
  have h1 : (wideN k n ++ r).take k = wideN k n := by rw [List.take_append_of_le_length (by rw [wideN_len]; exact Nat.le_refl _), List.take_of_length_le (by rw [wideN_len]; exact Nat.le_refl _)]
  have h2 : (wideN k n ++ r).drop k = r := by rw [List.drop_append_of_le_length (by rw [wideN_len]; exact Nat.le_refl _), List.drop_of_length_le (by rw [wideN_len]; exact Nat.le_refl _)]; rfl
  show (numL ((wideN k n ++ r).take k), (wideN k n ++ r).drop k, false) = _
  rw [h1, h2, numL_wideN, Nat.mod_eq_of_lt h]
theorem rdTake_app (p r : List UInt8) : rdTake p.length (p ++ r, false) = (p, r, false) := by
  unfold rdTake
  rw [if_neg (by simp)]
  show ((p ++ r).take p.length, (p ++ r).drop p.length, false) = _
  rw [List.take_left', List.drop_left']
  · rfl
  · rfl
theorem rdText_txt (s : ByteArray) (h : s.size < 65536) (r : List UInt8) : rdText (txtN s ++ r, false) = (bs s, r, false) := by
  unfold rdText txtN
  rw [List.append_assoc, rdNum_wide 2 s.size h]
  exact rdTake_app (bs s) r
theorem wide1 (n : Nat) : wideN 1 n = [UInt8.ofNat n] := by
  show [UInt8.ofNat (n / 256 ^ 0)] = _
  simp
theorem rdEnt_enc (e : Ent) (h : OkE e) (r : List UInt8) : rdEnt (encN e ++ r, false) = (e, r, false) := by
  obtain ⟨k1, k2, f1, f2, u1, u2, tx, bx, ds⟩ := h
  have e0 : encN e ++ r = wideN 1 e.kind.toNat ++ (wideN 1 e.flags.toNat ++ (wideN 3 e.uid.toNat ++ (txtN e.box ++ (txtN e.dst ++ (txtN e.text ++ r))))) := by
    unfold encN txtsN
    simp [wide1]
  rw [e0]
  unfold rdEnt
  simp only [rdNum_wide 1 e.kind.toNat (by omega), rdNum_wide 1 e.flags.toNat (by omega), rdNum_wide 3 e.uid.toNat (by omega), rdText_txt e.box (by omega), rdText_txt e.dst (by omega), rdText_txt e.text (by omega), mkS_bs]
  rw [Int.toNat_of_nonneg (by omega), Int.toNat_of_nonneg f1, Int.toNat_of_nonneg u1]
theorem rdEnts_encs : ∀ (es : List Ent), (∀ e ∈ es, OkE e) → ∀ r, rdEnts es.length (encsN es ++ r, false) = (es, r, false)
  | [], _, r => rfl
  | e :: es, h, r => by
    have h1 := rdEnt_enc e (h e List.mem_cons_self) (encsN es ++ r)
    have h2 := rdEnts_encs es (fun x hx => h x (List.mem_cons_of_mem _ hx)) r
    have e0 : encsN (e :: es) ++ r = encN e ++ (encsN es ++ r) := by unfold encsN; rw [List.flatMap_cons, List.append_assoc]
    rw [e0]
    show rdEnts (es.length + 1) _ = _
    unfold rdEnts
    rw [if_neg (by simp), h1]
    simp only
    rw [h2]
theorem batN_wide (u : Int) (es : List Ent) (r : List UInt8) : batN u es ++ r = wideN 1 u.toNat ++ (wideN 1 es.length ++ (encsN es ++ r)) := by unfold batN; simp [wide1]
theorem batN_len (u : Int) (es : List Ent) (h : checkB u es = 0) : (batN u es).length ≤ 30000 := by
  obtain ⟨b1, b2, b3, b4, b5⟩ := batch_ok u es h
  have := encsN_len es (fun e he => form_ok e (b5 e he))
  unfold batN
  rw [List.length_append]
  simp only [List.length_cons, List.length_nil]
  omega
/-- The reader over a batch's bytes, and what stands behind. -/
theorem rd_bat (u : Int) (es : List Ent) (h : checkB u es = 0) (r : List UInt8) :
    (rdNum 1 (batN u es ++ r, false)).1 = u.toNat ∧ (rdNum 1 (rdNum 1 (batN u es ++ r, false)).2).1 = es.length ∧ rdEnts (rdNum 1 (rdNum 1 (batN u es ++ r, false)).2).1 (rdNum 1 (rdNum 1 (batN u es ++ r, false)).2).2 = (es, r, false) := by
  obtain ⟨b1, b2, b3, b4, b5⟩ := batch_ok u es h
  rw [batN_wide, rdNum_wide 1 u.toNat (by omega)]
  simp only [rdNum_wide 1 es.length (by omega)]
  exact ⟨trivial, trivial, rdEnts_encs es (fun e he => form_ok e (b5 e he)) r⟩
/-- What Decode answers, in parts. -/
def decU (l : List UInt8) : Nat := (rdNum 1 (l, false)).1
def decE (l : List UInt8) : List Ent × St := rdEnts (rdNum 1 (rdNum 1 (l, false)).2).1 (rdNum 1 (rdNum 1 (l, false)).2).2
theorem decR_parts (l : List UInt8) : decR l = if 100000 < l.length then 1 else if (decE l).2.2 = true then 4 else if 0 < (decE l).2.1.length then 3 else checkB (decU l) (decE l).1 := rfl
theorem dec_bat (u : Int) (es : List Ent) (h : checkB u es = 0) : decR (batN u es) = 0 ∧ (decU (batN u es) : Int) = u ∧ (decE (batN u es)).1 = es := by
  have h1 := rd_bat u es h []
  rw [List.append_nil] at h1
  have hu : (decU (batN u es) : Int) = u := by
    have := (batch_ok u es h).1
    unfold decU; rw [h1.1]; omega
  have he : decE (batN u es) = (es, [], false) := h1.2.2
  have hl := batN_len u es h
  rw [decR_parts, if_neg (by omega), he, hu]
  simp [h]
theorem dec_more (u : Int) (es : List Ent) (h : checkB u es = 0) (t : UInt8) : decR (batN u es ++ [t]) = 3 := by
  have h1 := rd_bat u es h [t]
  have he : decE (batN u es ++ [t]) = (es, [t], false) := h1.2.2
  have hl := batN_len u es h
  rw [decR_parts, if_neg (by rw [List.length_append, List.length_cons, List.length_nil]; omega), he]
  simp
/-! What is read is stable: more bytes behind do not change it. -/
def Stab {α : Type} (F : St → α × St) : Prop := (∀ p r x p', F (p, false) = (x, p', false) → F (p ++ r, false) = (x, p' ++ r, false)) ∧ ∀ p, (F (p, true)).2.2 = true
theorem stab_num (n : Nat) : Stab (rdNum n) := by
  refine ⟨fun p r x p' h => ?_, fun p => by unfold rdNum; rw [if_pos (.inl rfl)]⟩
  unfold rdNum at h
  by_cases hc : p.length < n
  · rw [if_pos (.inr hc)] at h; cases h
  · rw [if_neg (by simpa using hc)] at h
    simp only [Prod.mk.injEq, and_true] at h
    obtain ⟨rfl, rfl⟩ := h
    unfold rdNum
    rw [if_neg (by simp; omega)]
    show (numL ((p ++ r).take n), (p ++ r).drop n, false) = _
    rw [List.take_append_of_le_length (by omega), List.drop_append_of_le_length (by omega)]
theorem stab_take (n : Nat) : Stab (rdTake n) := by
  refine ⟨fun p r x p' h => ?_, fun p => by unfold rdTake; rw [if_pos (.inl rfl)]⟩
  unfold rdTake at h
  by_cases hc : p.length < n
  · rw [if_pos (.inr hc)] at h; cases h
  · rw [if_neg (by simpa using hc)] at h
    simp only [Prod.mk.injEq, and_true] at h
    obtain ⟨rfl, rfl⟩ := h
    unfold rdTake
    rw [if_neg (by simp; omega)]
    show ((p ++ r).take n, (p ++ r).drop n, false) = _
    rw [List.take_append_of_le_length (by omega), List.drop_append_of_le_length (by omega)]
theorem Stab.bind {α β : Type} {F : St → α × St} {G : α → St → β × St} (hF : Stab F) (hG : ∀ a, Stab (G a)) : Stab (fun s => G (F s).1 (F s).2) := by
  refine ⟨fun p r x p' h => ?_, fun p => ?_⟩
  · simp only at h ⊢
    rcases hfp : F (p, false) with ⟨a, q, sh⟩
    rw [hfp] at h
    simp only at h
    cases sh with
    | true =>
      have := (hG a).2 q
      rw [h] at this
      cases this
    | false =>
      rw [hF.1 p r a q hfp]
      exact (hG a).1 q r x p' h
  · simp only
    rcases hfp : F (p, true) with ⟨a, q, sh⟩
    have := hF.2 p
    rw [hfp] at this
    simp only at this ⊢
    subst this
    exact (hG a).2 q
theorem stab_ret {α β : Type} {F : St → α × St} (hF : Stab F) (f : α → β) : Stab (fun s => (f (F s).1, (F s).2)) := by
  refine ⟨fun p r x p' h => ?_, fun p => hF.2 p⟩
  rcases hfp : F (p, false) with ⟨a, q, sh⟩
  simp only [hfp, Prod.mk.injEq] at h
  obtain ⟨rfl, rfl, rfl⟩ := h
  simp only [hF.1 p r a q hfp]
theorem stab_text : Stab rdText := (stab_num 2).bind stab_take
theorem stab_ent : Stab rdEnt :=
  (stab_num 1).bind fun a => (stab_num 1).bind fun b => (stab_num 3).bind fun c => stab_text.bind fun d => stab_text.bind fun e => stab_ret stab_text fun f => (⟨a, mkS d, c, b, mkS e, mkS f⟩ : Ent)
theorem rdEnts_short : ∀ (n : Nat) (p : List UInt8), (rdEnts n (p, true)).2.2 = true
  | 0, p => rfl
  | n + 1, p => by unfold rdEnts; rw [if_pos rfl]
theorem stab_ents : ∀ n : Nat, Stab (rdEnts n)
  | 0 => ⟨fun p r x p' h => by
      simp only [rdEnts, Prod.mk.injEq, and_true] at h ⊢
      obtain ⟨rfl, rfl⟩ := h
      exact ⟨rfl, rfl⟩, fun p => rfl⟩
  | n + 1 => by
    refine ⟨fun p r x p' h => ?_, fun p => rdEnts_short _ p⟩
    unfold rdEnts at h
    rw [if_neg (by simp)] at h
    have hs := (Stab.bind stab_ent (fun a => stab_ret (stab_ents n) fun l => a :: l)).1 p r x p' h
    unfold rdEnts
    rw [if_neg (by simp)]
    exact hs
theorem stab_dec : Stab (fun s => rdEnts (rdNum 1 (rdNum 1 s).2).1 (rdNum 1 (rdNum 1 s).2).2) :=
  (stab_num 1).bind fun _ => (stab_num 1).bind fun n => stab_ents n
theorem dec_torn (u : Int) (es : List Ent) (h : checkB u es = 0) (k : Nat) (hk : k < (batN u es).length) : decR ((batN u es).take k) = 4 := by
  have hl := batN_len u es h
  rw [decR_parts, if_neg (by rw [List.length_take]; omega)]
  rcases hd : decE ((batN u es).take k) with ⟨x, p', sh⟩
  cases sh with
  | true => simp
  | false =>
    exfalso
    have h1 := stab_dec.1 _ ((batN u es).drop k) _ _ hd
    rw [List.take_append_drop] at h1
    have h2 := (rd_bat u es h []).2.2
    rw [List.append_nil] at h2
    simp only at h1
    rw [h2] at h1
    simp only [Prod.mk.injEq, and_true] at h1
    have h3 := congrArg List.length h1.2
    rw [List.length_append, List.length_drop] at h3
    simp at h3
    omega
/-! What is read was written so. -/
theorem rdNum_inv (n : Nat) (l r : List UInt8) (v : Nat) (h : rdNum n (l, false) = (v, r, false)) : l = wideN n v ++ r ∧ v < 256 ^ n := by
  unfold rdNum at h
  by_cases hc : l.length < n
  · rw [if_pos (.inr hc)] at h; cases h
  · rw [if_neg (by simpa using hc)] at h
    simp only [Prod.mk.injEq, and_true] at h
    obtain ⟨rfl, rfl⟩ := h
    have hl : (l.take n).length = n := by rw [List.length_take]; omega
    have h1 := wideN_numL (l.take n)
    rw [hl] at h1
    have h2 := numL_lt (l.take n)
    rw [hl] at h2
    exact ⟨by rw [h1, List.take_append_drop], h2⟩
theorem rdText_inv (l r : List UInt8) (p : List UInt8) (h : rdText (l, false) = (p, r, false)) : l = txtN (mkS p) ++ r := by
  unfold rdText at h
  rcases hn : rdNum 2 (l, false) with ⟨v, q, sh⟩
  rw [hn] at h
  simp only at h
  cases sh with
  | true => have := (stab_take v).2 q; rw [h] at this; cases this
  | false =>
    obtain ⟨h1, h2⟩ := rdNum_inv 2 l q v hn
    unfold rdTake at h
    by_cases hc : q.length < v
    · rw [if_pos (.inr hc)] at h; cases h
    · rw [if_neg (by simpa using hc)] at h
      simp only [Prod.mk.injEq, and_true] at h
      obtain ⟨rfl, rfl⟩ := h
      unfold txtN
      rw [bs_mkS, mkS_size, List.length_take, Nat.min_eq_left (by omega), List.append_assoc, List.take_append_drop]
      exact h1
theorem rdEnt_inv (l r : List UInt8) (e : Ent) (h : rdEnt (l, false) = (e, r, false)) : l = encN e ++ r := by
  unfold rdEnt at h
  simp only at h
  rcases ha : rdNum 1 (l, false) with ⟨a, qa, sa⟩
  rw [ha] at h
  rcases hb : rdNum 1 (qa, sa) with ⟨b, qb, sb⟩
  simp only [hb] at h
  rcases hc : rdNum 3 (qb, sb) with ⟨c, qc, sc⟩
  simp only [hc] at h
  rcases hd : rdText (qc, sc) with ⟨d, qd, sd⟩
  simp only [hd] at h
  rcases hf : rdText (qd, sd) with ⟨f, qf, sf⟩
  simp only [hf] at h
  rcases hg : rdText (qf, sf) with ⟨g, qg, sg⟩
  simp only [hg, Prod.mk.injEq] at h
  obtain ⟨rfl, rfl, rfl⟩ := h
  obtain rfl : sf = false := by
    cases sf with
    | false => rfl
    | true => have := stab_text.2 qf; rw [hg] at this; exact absurd this (by simp)
  obtain rfl : sd = false := by
    cases sd with
    | false => rfl
    | true => have := stab_text.2 qd; rw [hf] at this; exact absurd this (by simp)
  obtain rfl : sc = false := by
    cases sc with
    | false => rfl
    | true => have := stab_text.2 qc; rw [hd] at this; exact absurd this (by simp)
  obtain rfl : sb = false := by
    cases sb with
    | false => rfl
    | true => have := (stab_num 3).2 qb; rw [hc] at this; exact absurd this (by simp)
  obtain rfl : sa = false := by
    cases sa with
    | false => rfl
    | true => have := (stab_num 1).2 qa; rw [hb] at this; exact absurd this (by simp)
  obtain ⟨ha, _⟩ := rdNum_inv 1 _ _ _ ha
  obtain ⟨hb, _⟩ := rdNum_inv 1 _ _ _ hb
  obtain ⟨hc, _⟩ := rdNum_inv 3 _ _ _ hc
  have hd := rdText_inv _ _ _ hd
  have hf := rdText_inv _ _ _ hf
  have hg := rdText_inv _ _ _ hg
  rw [ha, hb, hc, hd, hf, hg]
  unfold encN txtsN
  simp [wide1]
theorem rdEnts_inv : ∀ (n : Nat) (l r : List UInt8) (es : List Ent), rdEnts n (l, false) = (es, r, false) → l = encsN es ++ r ∧ es.length = n
  | 0, l, r, es, h => by
    simp only [rdEnts, Prod.mk.injEq, and_true] at h
    obtain ⟨rfl, rfl⟩ := h
    exact ⟨rfl, rfl⟩
  | n + 1, l, r, es, h => by
    unfold rdEnts at h
    rw [if_neg (by simp)] at h
    rcases he : rdEnt (l, false) with ⟨e, q, sh⟩
    rw [he] at h
    simp only at h
    cases sh with
    | true =>
      have := rdEnts_short n q
      have h2 := congrArg (fun x => x.2.2) h
      simp only at h2
      rw [this] at h2
      cases h2
    | false =>
      rcases hx : rdEnts n (q, false) with ⟨xs, q2, s2⟩
      rw [hx] at h
      simp only [Prod.mk.injEq] at h
      obtain ⟨rfl, rfl, rfl⟩ := h
      obtain ⟨h1, h2⟩ := rdEnts_inv n q q2 xs hx
      rw [rdEnt_inv l q e he, h1]
      refine ⟨?_, by rw [List.length_cons, h2]⟩
      unfold encsN
      rw [List.flatMap_cons, List.append_assoc]
theorem dec_fixed (l : List UInt8) (h : decR l = 0) : batN (decU l) (decE l).1 = l ∧ checkB (decU l) (decE l).1 = 0 := by
  rw [decR_parts] at h
  by_cases h1 : 100000 < l.length
  · rw [if_pos h1] at h; cases h
  · rw [if_neg h1] at h
    by_cases h2 : (decE l).2.2 = true
    · rw [if_pos h2] at h; cases h
    · rw [if_neg h2] at h
      by_cases h3 : 0 < (decE l).2.1.length
      · rw [if_pos h3] at h; cases h
      · rw [if_neg h3] at h
        refine ⟨?_, h⟩
        have hs : (decE l).2.2 = false := by simpa using h2
        have hn : (decE l).2.1 = [] := List.length_eq_zero_iff.1 (by omega)
        clear h h1 h2 h3
        unfold decU
        unfold decE at hs hn ⊢
        rcases ha : rdNum 1 (l, false) with ⟨a, qa, sa⟩
        rw [ha] at hs hn
        simp only at hs hn ⊢
        rcases hb : rdNum 1 (qa, sa) with ⟨b, qb, sb⟩
        rw [hb] at hs hn
        simp only at hs hn ⊢
        obtain rfl : sb = false := by
          cases sb with
          | false => rfl
          | true => have := rdEnts_short b qb; rw [hs] at this; cases this
        obtain rfl : sa = false := by
          cases sa with
          | false => rfl
          | true => have := (stab_num 1).2 qa; rw [hb] at this; exact absurd this (by simp)
        rcases he : rdEnts b (qb, false) with ⟨es, q, s⟩
        rw [he] at hs hn
        simp only at hs hn ⊢
        subst hs hn
        obtain ⟨h1, h2⟩ := rdEnts_inv b qb [] es he
        obtain ⟨ha, _⟩ := rdNum_inv 1 _ _ _ ha
        obtain ⟨hb, _⟩ := rdNum_inv 1 _ _ _ hb
        have := batN_wide a es []
        rw [List.append_nil] at this
        rw [this, h2, Int.toNat_natCast, ha, hb, h1]
end Go.Proofs.YtpncahklapfoaaaDoor
