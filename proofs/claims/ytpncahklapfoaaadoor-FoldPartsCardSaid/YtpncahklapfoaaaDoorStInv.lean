/- Plain words: what may be stays so, whatever entry is done. -/
import Derived.Test.YtpncahklapfoaaaDoorBoxAply
namespace Go.Proofs.YtpncahklapfoaaaDoor
open Go.RowKit
set_option linter.unusedVariables false

theorem mailsB_iff (next : Int) : ∀ (ms : List MailS) (last : Int), mailsB next last ms = true ↔ (ms.map (·.uid)).Pairwise (· < ·) ∧ ∀ m ∈ ms, last < m.uid ∧ m.uid < next ∧ 0 ≤ m.flags ∧ m.flags ≤ 31 ∧ m.text.size ≤ 2000
  | [], last => by simp [mailsB]
  | m :: r, last => by
    have ih := mailsB_iff next r m.uid
    unfold mailsB
    by_cases hc : m.uid ≤ last ∨ next ≤ m.uid ∨ m.flags < 0 ∨ 31 < m.flags ∨ 2000 < m.text.size
    · rw [if_pos hc]
      constructor
      · intro h; cases h
      · rintro ⟨_, h⟩
        have := h m List.mem_cons_self
        omega
    · rw [if_neg hc, ih, List.map_cons, List.pairwise_cons]
      constructor
      · rintro ⟨h1, h2⟩
        refine ⟨⟨fun u hu => ?_, h1⟩, fun x hx => ?_⟩
        · obtain ⟨y, hy, rfl⟩ := List.mem_map.1 hu
          exact (h2 y hy).1
        · rcases List.mem_cons.1 hx with rfl | hx
          · omega
          · have := h2 x hx
            omega
      · rintro ⟨⟨h1, h2⟩, h3⟩
        refine ⟨h2, fun x hx => ?_⟩
        have := h3 x (List.mem_cons_of_mem _ hx)
        exact ⟨h1 _ (List.mem_map.2 ⟨x, hx, rfl⟩), this.2⟩
/-- A box that may be. -/
structure VldB (b : BoxS) : Prop where
  nm : nameR (bs b.name) = 0
  n1 : 1 ≤ b.next
  n2 : b.next ≤ 1048577
  ml : b.mails.length ≤ 30
  up : (b.mails.map (·.uid)).Pairwise (· < ·)
  ms : ∀ m ∈ b.mails, 0 < m.uid ∧ m.uid < b.next ∧ 0 ≤ m.flags ∧ m.flags ≤ 31 ∧ m.text.size ≤ 2000
theorem vldB_iff (b : BoxS) : boxB b = true ↔ VldB b := by
  unfold boxB
  by_cases hc : nameR (bs b.name) ≠ 0 ∨ b.next < 1 ∨ 1048577 < b.next ∨ 30 < b.mails.length
  · rw [if_pos hc]
    constructor
    · intro h; cases h
    · intro h
      have := h.nm; have := h.n1; have := h.n2; have := h.ml
      omega
  · rw [if_neg hc, mailsB_iff]
    constructor
    · rintro ⟨h1, h2⟩
      exact ⟨by omega, by omega, by omega, by omega, h1, h2⟩
    · intro h
      exact ⟨h.up, h.ms⟩
theorem find_neg (l : List BoxS) (n : ByteArray) : findR l n < 0 ↔ ∀ b ∈ l, b.name ≠ n := by
  unfold findR idxR
  constructor
  · intro h b hb hn
    have : l.findIdx (fun b => decide (b.name = n)) < l.length := List.findIdx_lt_length_of_exists ⟨b, hb, by simpa using hn⟩
    rw [if_pos this] at h
    omega
  · intro h
    have : l.findIdx (fun b => decide (b.name = n)) = l.length := by
      rw [List.findIdx_eq_length]
      intro x hx
      simpa using h x hx
    rw [this, if_neg (by omega)]
    decide
theorem boxesB_iff : ∀ (l pre : List BoxS), boxesB pre l = true ↔ (∀ b ∈ l, VldB b) ∧ (l.map (·.name)).Pairwise (· ≠ ·) ∧ ∀ b ∈ l, ∀ q ∈ pre, q.name ≠ b.name
  | [], pre => by simp [boxesB]
  | b :: r, pre => by
    have ih := boxesB_iff r (pre ++ [b])
    unfold boxesB
    by_cases hc : boxB b = true ∧ findR pre b.name < 0
    · rw [if_pos hc, ih, List.map_cons, List.pairwise_cons]
      have hv := (vldB_iff b).1 hc.1
      have hf := (find_neg pre b.name).1 hc.2
      constructor
      · rintro ⟨h1, h2, h3⟩
        refine ⟨fun x hx => ?_, ⟨fun n hn => ?_, h2⟩, fun x hx q hq => ?_⟩
        · rcases List.mem_cons.1 hx with rfl | hx
          · exact hv
          · exact h1 x hx
        · obtain ⟨y, hy, rfl⟩ := List.mem_map.1 hn
          exact h3 y hy b (by simp)
        · rcases List.mem_cons.1 hx with rfl | hx
          · exact hf q hq
          · exact h3 x hx q (List.mem_append_left _ hq)
      · rintro ⟨h1, ⟨h2, h3⟩, h4⟩
        refine ⟨fun x hx => h1 x (List.mem_cons_of_mem _ hx), h3, fun x hx q hq => ?_⟩
        rcases List.mem_append.1 hq with hq | hq
        · exact h4 x (List.mem_cons_of_mem _ hx) q hq
        · simp at hq
          subst hq
          exact h2 _ (List.mem_map.2 ⟨x, hx, rfl⟩)
    · rw [if_neg hc]
      constructor
      · intro h; cases h
      · rintro ⟨h1, _, h4⟩
        exact absurd ⟨(vldB_iff b).2 (h1 b List.mem_cons_self), (find_neg pre b.name).2 fun q hq => h4 b List.mem_cons_self q hq⟩ hc
/-- A state that may be. -/
structure Vld (s : StS) : Prop where
  nb : s.boxes.length ≤ 5
  ns : s.spool.length ≤ 20
  bx : ∀ b ∈ s.boxes, VldB b
  nd : (s.boxes.map (·.name)).Pairwise (· ≠ ·)
  sp : ∀ x ∈ s.spool, x.kind = 6 ∧ formR x = 0
  sz : sizeR s ≤ 6000
theorem spoolB_of : ∀ (l : List Ent), (∀ x ∈ l, x.kind = 6 ∧ formR x = 0) → spoolB l = true
  | [], _ => rfl
  | x :: r, h => by
    unfold spoolB
    rw [if_pos (h x List.mem_cons_self)]
    exact spoolB_of r fun y hy => h y (List.mem_cons_of_mem _ hy)
theorem vld_iff (s : StS) : checkR s = 0 ↔ Vld s := by
  constructor
  · intro h
    obtain ⟨h1, h2, h3, h4, h5⟩ := check_parts s h
    have h6 := (boxesB_iff s.boxes []).1 h3
    exact ⟨h1, h2, h6.1, h6.2.1, spoolB_all _ h4, h5⟩
  · intro h
    have h6 := (boxesB_iff s.boxes []).2 ⟨h.bx, h.nd, fun _ _ _ hq => by simp at hq⟩
    unfold checkR
    rw [if_neg (by have := h.nb; have := h.ns; omega), if_neg (by rw [h6]; simp), if_neg (by rw [spoolB_of _ h.sp]; simp), if_neg (by have := h.sz; omega)]
theorem names_set (l : List BoxS) (i : Nat) (b b' : BoxS) (h : l[i]? = some b) (hn : b'.name = b.name) : (l.set i b').map (·.name) = l.map (·.name) := by
  rw [List.map_set, hn]
  exact set_same _ i _ (by simp [h])
theorem sum_set (l : List Nat) : ∀ (i a b : Nat), l[i]? = some a → (l.set i b).sum + a = l.sum + b := by
  induction l with
  | nil => intro i a b h; simp at h
  | cons x r ih =>
    intro i a b h
    cases i with
    | zero =>
      simp at h
      subst h
      simp
      omega
    | succ i =>
      have := ih i a b (by simpa using h)
      simp
      omega
theorem boxesZ_set (l : List BoxS) (i : Nat) (b b' : BoxS) (h : l[i]? = some b) : boxesZ (l.set i b') + mailsZ b.mails = boxesZ l + mailsZ b'.mails := by
  unfold boxesZ
  rw [List.map_set]
  exact sum_set _ i _ _ (by simp [h])
theorem mailsZ_append (a b : List MailS) : mailsZ (a ++ b) = mailsZ a + mailsZ b := by simp [mailsZ]
theorem mailsZ_filter (p : MailS → Bool) : ∀ l : List MailS, mailsZ (l.filter p) ≤ mailsZ l
  | [] => by simp
  | m :: r => by
    have ih := mailsZ_filter p r
    unfold mailsZ at ih ⊢
    rw [List.filter_cons]
    split
    · simp only [List.map_cons, List.sum_cons]; omega
    · simp only [List.map_cons, List.sum_cons]; omega
theorem vld_set {s : StS} (h : Vld s) (i : Nat) (b b' : BoxS) (hb : s.boxes[i]? = some b) (hn : b'.name = b.name) (hv : VldB b') (hz : boxesZ (s.boxes.set i b') ≤ 6000) : Vld { s with boxes := s.boxes.set i b' } := by
  refine ⟨by show (s.boxes.set i b').length ≤ 5; rw [List.length_set]; exact h.nb, h.ns, fun x hx => ?_, ?_, h.sp, hz⟩
  · rcases List.mem_or_eq_of_mem_set hx with h1 | rfl
    · exact h.bx x h1
    · exact hv
  · show ((s.boxes.set i b').map (·.name)).Pairwise _
    rw [names_set _ i b b' hb hn]
    exact h.nd
theorem vld_add {s : StS} (h : Vld s) (i : Nat) (fl : Int) (t : ByteArray) (hf : 0 ≤ fl ∧ fl ≤ 31) (ht : t.size ≤ 2000) : Vld (addR s i fl t).2 := by
  unfold addR
  split
  · exact h
  · next b hb =>
    split
    · exact h
    · next hc =>
      have hbm := h.bx b (List.mem_of_getElem? hb)
      refine vld_set h i b _ hb rfl ?_ ?_
      · refine ⟨hbm.nm, by show 1 ≤ b.next + 1; have := hbm.n1; omega, by show b.next + 1 ≤ _; omega, by have := hbm.ml; simp; omega, ?_, fun m hm => ?_⟩
        · show ((b.mails ++ [(⟨b.next, fl, t⟩ : MailS)]).map (·.uid)).Pairwise _
          rw [List.map_append, List.pairwise_append]
          refine ⟨hbm.up, by simp, fun u hu v hv => ?_⟩
          obtain ⟨y, hy, rfl⟩ := List.mem_map.1 hu
          simp at hv
          subst hv
          exact (hbm.ms y hy).2.1
        · rcases List.mem_append.1 hm with hm | hm
          · have := hbm.ms m hm
            exact ⟨this.1, by show m.uid < b.next + 1; omega, this.2.2⟩
          · simp at hm
            subst hm
            have := hbm.n1
            exact ⟨by show 0 < b.next; omega, by show b.next < b.next + 1; omega, hf.1, hf.2, ht⟩
      · have hz := boxesZ_set s.boxes i b { b with mails := b.mails ++ [⟨b.next, fl, t⟩], next := b.next + 1 } hb
        have hz2 : mailsZ (b.mails ++ [⟨b.next, fl, t⟩]) = mailsZ b.mails + t.size := by rw [mailsZ_append]; simp [mailsZ]
        have hz3 : sizeR s = boxesZ s.boxes := rfl
        simp only at hz
        omega
theorem form_name (x : Ent) (h : formR x = 0) (hk : x.kind ≠ 6) : nameR (bs x.box) = 0 := by
  have ho : ownE x = some x := by
    unfold formR at h
    cases hy : ownE x with
    | none => rw [hy] at h; cases h
    | some y =>
      rw [hy] at h
      simp only at h
      by_cases hxy : x ≠ y
      · rw [if_pos hxy] at h; cases h
      · rw [Decidable.not_not.1 hxy]
  rw [formR_own x ho] at h
  by_cases h1 : x.flags < 0 ∨ 31 < x.flags ∨ x.uid < 0 ∨ 1048576 < x.uid
  · rw [if_pos h1] at h; cases h
  · rw [if_neg h1] at h
    by_cases h2 : 2000 < x.text.size
    · rw [if_pos h2] at h; cases h
    · rw [if_neg h2, if_neg hk] at h
      by_cases h3 : nameR (bs x.box) ≠ 0
      · rw [if_pos h3] at h; exact absurd h h3
      · exact Decidable.not_not.1 h3
/-- Whatever entry is done, a state that may be may be. -/
theorem vld_apply {s : StS} (h : Vld s) (x : Ent) (hf : formR x = 0) : Vld (applyR s x).2 := by
  have ho := form_ok x hf
  unfold applyR
  split
  · next h6 =>
    split
    · exact h
    · refine ⟨h.nb, by show (s.spool ++ [x]).length ≤ 20; rw [List.length_append, List.length_cons, List.length_nil]; have := h.ns; omega, h.bx, h.nd, fun y hy => ?_, h.sz⟩
      rcases List.mem_append.1 hy with hy | hy
      · exact h.sp y hy
      · simp at hy
        subst hy
        exact ⟨h6, hf⟩
  · next h6 =>
    split
    · next h1 =>
      split
      · exact h
      · next hfind =>
        split
        · exact h
        · have hnew : VldB ⟨x.box, 1, []⟩ := ⟨form_name x hf h6, by simp, by simp, by simp, by simp, fun m hm => by simp at hm⟩
          refine ⟨by show (s.boxes ++ [_]).length ≤ 5; rw [List.length_append, List.length_cons, List.length_nil]; have := h.nb; omega, h.ns, fun b hb => ?_, ?_, h.sp, ?_⟩
          · rcases List.mem_append.1 hb with hb | hb
            · exact h.bx b hb
            · simp at hb
              subst hb
              exact hnew
          · show ((s.boxes ++ [(⟨x.box, 1, []⟩ : BoxS)]).map (·.name)).Pairwise _
            rw [List.map_append, List.pairwise_append]
            refine ⟨h.nd, by simp, fun n hn n2 hn2 => ?_⟩
            obtain ⟨y, hy, rfl⟩ := List.mem_map.1 hn
            simp at hn2
            subst hn2
            exact (find_neg s.boxes x.box).1 (by omega) y hy
          · show boxesZ (s.boxes ++ [_]) ≤ 6000
            have : boxesZ (s.boxes ++ [⟨x.box, 1, []⟩]) = boxesZ s.boxes := by simp [boxesZ, mailsZ]
            rw [this]
            exact h.sz
    · split
      · exact h
      · next b hb =>
        have hbm := h.bx b (List.mem_of_getElem? hb)
        have hz0 : sizeR s = boxesZ s.boxes := rfl
        have hsz := h.sz
        split
        · exact h
        · split
          · exact vld_add h _ _ _ ⟨ho.f1, ho.f2⟩ ho.tx
          · split
            · refine vld_set h _ b _ hb rfl ⟨hbm.nm, hbm.n1, hbm.n2, Nat.le_trans (List.length_filter_le _ _) hbm.ml, ?_, fun m hm => hbm.ms m (List.mem_filter.1 hm).1⟩ ?_
              · exact hbm.up.sublist (List.filter_sublist.map _)
              · have hz := boxesZ_set s.boxes _ b { b with mails := b.mails.filter fun m => !delB m } hb
                have hz2 := mailsZ_filter (fun m => !delB m) b.mails
                simp only at hz
                omega
            · split
              · exact h
              · next m hm =>
                have hmm := hbm.ms m (List.mem_of_getElem? hm)
                split
                · exact h
                · split
                  · refine vld_set h _ b _ hb rfl ⟨hbm.nm, hbm.n1, hbm.n2, by simpa using hbm.ml, ?_, fun m' hm' => ?_⟩ ?_
                    · show ((b.mails.set _ _).map (·.uid)).Pairwise _
                      rw [List.map_set, set_same _ _ _ (by simp [hm])]
                      exact hbm.up
                    · rcases List.mem_or_eq_of_mem_set hm' with h1 | rfl
                      · exact hbm.ms m' h1
                      · exact ⟨hmm.1, hmm.2.1, ho.f1, ho.f2, hmm.2.2.2.2⟩
                    · have hz := boxesZ_set s.boxes _ b { b with mails := b.mails.set (idxR (uidB x.uid) b.mails).toNat { m with flags := x.flags } } hb
                      have hz2 : mailsZ (b.mails.set (idxR (uidB x.uid) b.mails).toNat { m with flags := x.flags }) = mailsZ b.mails := by
                        unfold mailsZ
                        rw [List.map_set, set_same _ _ _ (by simp [hm])]
                      simp only at hz
                      omega
                  · split
                    · exact h
                    · exact vld_add h _ _ _ ⟨hmm.2.2.1, hmm.2.2.2.1⟩ hmm.2.2.2.2
theorem vld_go : ∀ (l : List Ent) (s : StS), Vld s → Vld (goR s l).2
  | [], s, h => h
  | x :: r, s, h => by
    rw [goR_cons']
    by_cases hf : formR x ≠ 0
    · rw [if_pos hf]; exact h
    · rw [if_neg hf]
      have hv := vld_apply h x (Decidable.not_not.1 hf)
      by_cases ha : (applyR s x).1 ≠ 0
      · rw [if_pos ha]; exact hv
      · rw [if_neg ha]; exact vld_go r _ hv
where goR_cons' {s : StS} {x : Ent} {r : List Ent} : goR s (x :: r) = if formR x ≠ 0 then (formR x, s) else if (applyR s x).1 ≠ 0 then applyR s x else goR (applyR s x).2 r := rfl
/-- Entries on a state that may be: one that may be. -/
theorem vld_all (s : StS) (l : List Ent) (h : (allR s l).1 = 0) : Vld (allR s l).2 := by
  unfold allR at h ⊢
  by_cases h1 : checkR s ≠ 0
  · rw [if_pos h1] at h; exact absurd h h1
  · rw [if_neg h1] at h ⊢
    have hv := (vld_iff s).1 (Decidable.not_not.1 h1)
    by_cases h2 : 10 < l.length
    · rw [if_pos h2] at h; cases h
    · rw [if_neg h2] at h ⊢
      by_cases h3 : (goR s l).1 ≠ 0
      · rw [if_pos h3] at h; exact absurd h h3
      · rw [if_neg h3]
        exact vld_go l s hv
theorem Vld.okC {s : StS} (h : Vld s) : OkC s := ⟨fun b hb => by
  have hbm := h.bx b hb
  have hn := nameR_len' _ hbm.nm
  rw [bs_len] at hn
  exact ⟨by omega, by have := hbm.ml; omega, fun m hm => by have := (hbm.ms m hm).2.2.2.2; omega⟩, by have := h.nb; omega, by have := h.ns; omega, fun x hx => by
  have ho := form_ok x (h.sp x hx).2
  exact ⟨by have := ho.bx; omega, by have := ho.ds; omega, by have := ho.tx; omega⟩⟩
end Go.Proofs.YtpncahklapfoaaaDoor
