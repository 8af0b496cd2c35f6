/- What may be has bounds. -/
import Derived.Test.YtpncahklapfoaaaDoorWideP
namespace Go.Proofs.YtpncahklapfoaaaDoor
open Go.RowKit
set_option linter.unusedVariables false

/-- The bounds of an entry that has its form. -/
structure OkE (e : Ent) : Prop where
  k1 : 1 ≤ e.kind
  k2 : e.kind ≤ 6
  f1 : 0 ≤ e.flags
  f2 : e.flags ≤ 31
  u1 : 0 ≤ e.uid
  u2 : e.uid ≤ 1048576
  tx : e.text.size ≤ 2000
  bx : e.box.size ≤ 12
  ds : e.dst.size ≤ 100
theorem nameR_len (l : List UInt8) (h : nameR l = 0) : l.length ≤ 12 := by
  unfold nameR at h
  by_cases hl : l.length < 1 ∨ 12 < l.length
  · rw [if_pos hl] at h; cases h
  · omega
theorem ownE_kind (x y : Ent) (h : ownE x = some y) : 1 ≤ x.kind ∧ x.kind ≤ 6 := by
  unfold ownE at h
  by_cases h1 : x.kind = 1 ∨ x.kind = 4
  · omega
  · rw [if_neg h1] at h
    by_cases h2 : x.kind = 2
    · omega
    · rw [if_neg h2] at h
      by_cases h3 : x.kind = 3
      · omega
      · rw [if_neg h3] at h
        by_cases h5 : x.kind = 5
        · omega
        · rw [if_neg h5] at h
          by_cases h6 : x.kind = 6
          · omega
          · rw [if_neg h6] at h; cases h
theorem oneL_len (t : ByteArray) (h : oneL t = true) : t.size ≤ 100 := by
  by_cases h1 : 100 < t.size
  · rw [oneL_long t h1] at h; cases h
  · omega
theorem form_ok (e : Ent) (h : formR e = 0) : OkE e := by
  have hown : ownE e = some e := by
    unfold formR at h
    cases hy : ownE e with
    | none => rw [hy] at h; cases h
    | some y =>
      rw [hy] at h
      simp only at h
      by_cases hxy : e ≠ y
      · rw [if_pos hxy] at h; cases h
      · rw [Decidable.not_not.1 hxy]
  obtain ⟨k1, k2⟩ := ownE_kind e e hown
  have hf := formR_own e hown
  rw [h] at hf
  by_cases h1 : e.flags < 0 ∨ 31 < e.flags ∨ e.uid < 0 ∨ 1048576 < e.uid
  · rw [if_pos h1] at hf; cases hf
  · rw [if_neg h1] at hf
    by_cases h2 : 2000 < e.text.size
    · rw [if_pos h2] at hf; cases hf
    · rw [if_neg h2] at hf
      have hz : (ByteArray.mk #[]).size = 0 := rfl
      have hrest : e.box.size ≤ 12 ∧ e.dst.size ≤ 100 := by
        by_cases h3 : e.kind = 6
        · rw [if_pos h3] at hf
          by_cases h4 : oneL e.dst = true
          · have hb : e.box = ⟨#[]⟩ := by
              unfold ownE at hown
              rw [if_neg (by omega), if_neg (by omega), if_neg (by omega), if_neg (by omega), if_pos h3] at hown
              exact (congrArg Ent.box (Option.some.inj hown)).symm
            exact ⟨by rw [hb, hz]; omega, oneL_len _ h4⟩
          · rw [if_neg h4] at hf; cases hf
        · rw [if_neg h3] at hf
          by_cases h4 : nameR (bs e.box) ≠ 0
          · rw [if_pos h4] at hf; exact absurd hf.symm h4
          · rw [if_neg h4] at hf
            have hb := nameR_len _ (Decidable.not_not.1 h4)
            rw [bs_len] at hb
            refine ⟨hb, ?_⟩
            by_cases h5 : e.kind = 5
            · rw [if_pos h5] at hf
              have hd := nameR_len _ hf.symm
              rw [bs_len] at hd
              omega
            · have hd : e.dst = ⟨#[]⟩ := by
                unfold ownE at hown
                by_cases g1 : e.kind = 1 ∨ e.kind = 4
                · rw [if_pos g1] at hown; exact (congrArg Ent.dst (Option.some.inj hown)).symm
                · by_cases g2 : e.kind = 2
                  · rw [if_neg g1, if_pos g2] at hown; exact (congrArg Ent.dst (Option.some.inj hown)).symm
                  · have g3 : e.kind = 3 := by omega
                    rw [if_neg g1, if_neg g2, if_pos g3] at hown; exact (congrArg Ent.dst (Option.some.inj hown)).symm
              rw [hd, hz]; omega
      exact ⟨k1, k2, by omega, by omega, by omega, by omega, by omega, hrest.1, hrest.2⟩
theorem forms_ok : ∀ (es : List Ent), formsR es = 0 → ∀ e ∈ es, formR e = 0
  | [], _, e, he => by simp at he
  | x :: r, h, e, he => by
    rw [formsR_cons] at h
    by_cases hx : formR x ≠ 0
    · rw [if_pos hx] at h; exact absurd h hx
    · rw [if_neg hx] at h
      rcases List.mem_cons.1 he with rfl | he
      · exact Decidable.not_not.1 hx
      · exact forms_ok r h e he
/-- The bounds of a batch that may be. -/
theorem batch_ok (user : Int) (es : List Ent) (h : checkB user es = 0) : 0 ≤ user ∧ user < 3 ∧ 1 ≤ es.length ∧ es.length ≤ 10 ∧ ∀ e ∈ es, formR e = 0 := by
  unfold checkB at h
  by_cases h1 : user < 0 ∨ 3 ≤ user
  · rw [if_pos h1] at h; cases h
  · rw [if_neg h1] at h
    by_cases h2 : es.length < 1 ∨ 10 < es.length
    · rw [if_pos h2] at h; cases h
    · rw [if_neg h2] at h
      exact ⟨by omega, by omega, by omega, by omega, forms_ok es h⟩
/-- The bytes of a text, an entry, a batch. -/
def txtN (s : ByteArray) : List UInt8 := wideN 2 s.size ++ bs s
def txtsN : List ByteArray → List UInt8 := fun l => l.flatMap txtN
def encN (e : Ent) : List UInt8 := [UInt8.ofNat e.kind.toNat, UInt8.ofNat e.flags.toNat] ++ wideN 3 e.uid.toNat ++ txtsN [e.box, e.dst, e.text]
def encsN (es : List Ent) : List UInt8 := es.flatMap encN
def batN (user : Int) (es : List Ent) : List UInt8 := [UInt8.ofNat user.toNat, UInt8.ofNat es.length] ++ encsN es
theorem txtN_len (s : ByteArray) : (txtN s).length = 2 + s.size := by unfold txtN; rw [List.length_append, wideN_len, bs_len]
theorem encN_len (e : Ent) : (encN e).length = 11 + e.box.size + e.dst.size + e.text.size := by
  unfold encN txtsN
  simp only [List.length_append, wideN_len, List.flatMap_cons, List.flatMap_nil, txtN_len, List.length_cons, List.length_nil]
  omega
theorem encsN_len : ∀ (es : List Ent), (∀ e ∈ es, OkE e) → (encsN es).length ≤ es.length * 2200
  | [], _ => by simp [encsN]
  | e :: r, h => by
    have ih := encsN_len r (fun x hx => h x (List.mem_cons_of_mem _ hx))
    have he := h e List.mem_cons_self
    have h1 := he.tx
    have h2 := he.bx
    have h3 := he.ds
    unfold encsN at ih ⊢
    rw [List.flatMap_cons, List.length_append, encN_len, List.length_cons]
    omega
end Go.Proofs.YtpncahklapfoaaaDoor
