/- What is parsed may be, and is shown to be parsed the same: for every text. -/
import Derived.Test.YtlbibklbckabnaaDoorLetLaw2
namespace Go.Proofs.YtlbibklbckabnaaDoor
open Go.RowKit
set_option linter.unusedVariables false

/-- A field as it is while its lines are read. -/
structure HalfF (f : Fld) : Prop where
  name : nameL (bs f.name) = true
  one : crlfL (bs f.value) = none
theorem trimL_len (l : List UInt8) : (trimL l).length ≤ l.length := by
  obtain ⟨a, b, h⟩ := trimL_part l
  rw [h, List.length_drop, List.length_take]; omega
theorem trim_may {f : Fld} (h : HalfF f) : MayF (trimF f) := by
  obtain ⟨a, b, hp⟩ := trimL_part (bs f.value)
  refine ⟨h.name, ?_, (trim_noBlk (trimL_again _)).1⟩
  show crlfL (trimL (bs f.value)) = none
  rw [hp]
  exact crlfL_drop _ _ (crlfL_take _ _ h.one)
theorem fldsL_trim (l : List Fld) : (fldsL (l.map trimF)).length ≤ (fldsL l).length := by
  induction l with
  | nil => exact Nat.le_refl _
  | cons f l ih =>
    have h := trimL_len (bs f.value)
    have e : (trimF f).value.size ≤ f.value.size := by show (mkS (trimL (bs f.value))).size ≤ _; rw [mkS_size]; rw [bs_len] at h; exact h
    have e2 : (trimF f).name.size = f.name.size := rfl
    unfold fldsL at ih ⊢
    rw [List.map_cons, List.flatMap_cons, List.flatMap_cons, List.length_append, List.length_append, fldL_len, fldL_len]
    omega
theorem goOn_half (l : List Fld) (line : List UInt8) (hl : ∀ f ∈ l, HalfF f) (h1 : crlfL line = none) (h2 : blkB (line.headD 0) = true) :
    (∀ f ∈ goOn l line, HalfF f) ∧ (goOn l line).length = l.length ∧ (fldsL (goOn l line)).length ≤ (fldsL l).length + line.length := by
  rcases List.eq_nil_or_concat l with rfl | ⟨a, f, h⟩
  · exact ⟨hl, rfl, by show (fldsL []).length ≤ _; omega⟩
  · rw [List.concat_eq_append] at h
    subst h
    rw [goOn_snoc]
    have hf := hl f (by simp)
    refine ⟨?_, by simp, ?_⟩
    · intro x hx
      rcases List.mem_append.1 hx with hx | hx
      · exact hl x (List.mem_append_left _ hx)
      · simp only [List.mem_cons, List.not_mem_nil, or_false] at hx
        subst hx
        refine ⟨hf.name, ?_⟩
        show crlfL (bs (f.value ++ mkS line)) = none
        rw [bs_append, bs_mkS]
        refine crlfL_join _ _ hf.one h1 ?_
        cases line with
        | nil => simp
        | cons c t =>
          intro e
          simp only [List.head?_cons, Option.some.injEq] at e
          subst e
          have h3 : blkB 10 = true := h2
          exact absurd h3 (by decide)
    · unfold fldsL
      rw [List.flatMap_append, List.flatMap_append, List.length_append, List.length_append]
      simp only [List.flatMap_cons, List.flatMap_nil, List.append_nil, fldL_len, ByteArray.size_append, mkS_size]
      omega
theorem parse_inv : ∀ (fuel n : Nat) (acc : List Fld) (s : List UInt8) (fs : List Fld) (body : List UInt8), parseL fuel n acc s = .ok fs body → (∀ f ∈ acc, HalfF f) → acc.length ≤ 30 →
    (∀ f ∈ fs, MayF f) ∧ fs.length ≤ 30 ∧ (fldsL fs).length + body.length ≤ (fldsL acc).length + 2 * s.length
  | 0, n, acc, s, fs, body, h, _, _ => by rw [parseL] at h; cases h
  | k + 1, n, acc, s, fs, body, h, ha, hl => by
    rw [parseL] at h
    cases hc : crlfL s with
    | none => rw [hc] at h; cases h
    | some x =>
      obtain ⟨line, rest⟩ := x
      rw [hc] at h
      dsimp only at h
      have hlen := crlfL_len _ _ _ hc
      obtain ⟨hline, hsp⟩ := crlfL_first _ _ _ hc
      by_cases h0 : line = []
      · rw [if_pos h0] at h
        injection h with h1 h2
        subst h1 h2
        refine ⟨?_, by rw [List.length_map]; exact hl, ?_⟩
        · intro f hf
          obtain ⟨g, hg, rfl⟩ := List.mem_map.1 hf
          exact trim_may (ha g hg)
        · have := fldsL_trim acc; omega
      · rw [if_neg h0] at h
        by_cases h1 : blkB (line.headD 0) = true ∧ acc ≠ []
        · rw [if_pos h1] at h
          obtain ⟨g1, g2, g3⟩ := goOn_half acc line ha hline h1.1
          obtain ⟨r1, r2, r3⟩ := parse_inv k _ _ _ fs body h g1 (by omega)
          exact ⟨r1, r2, by omega⟩
        · rw [if_neg h1] at h
          cases hco : colonL line with
          | none => rw [hco] at h; cases h
          | some y =>
            obtain ⟨a, b⟩ := y
            rw [hco] at h
            dsimp only at h
            have hcl := colonL_len _ _ _ hco
            have hcs := colonL_split _ _ _ hco
            by_cases h2 : nameL a = false
            · rw [if_pos h2] at h; cases h
            · rw [if_neg h2] at h
              by_cases h3 : acc.length = 30
              · rw [if_pos h3] at h; cases h
              · rw [if_neg h3] at h
                have hb : crlfL b = none := by
                  have := crlfL_drop line (a.length + 1) hline
                  rw [hcs] at this
                  have e : (a ++ 58 :: b).drop (a.length + 1) = b := by
                    rw [show a ++ 58 :: b = (a ++ [58]) ++ b by simp, List.drop_left' (by simp)]
                  rw [e] at this
                  exact this
                obtain ⟨r1, r2, r3⟩ := parse_inv k _ _ _ fs body h (by
                  intro f hf
                  rcases List.mem_append.1 hf with hf | hf
                  · exact ha f hf
                  · simp only [List.mem_cons, List.not_mem_nil, or_false] at hf
                    subst hf
                    exact ⟨by rw [bs_mkS]; simpa using h2, hb⟩) (by rw [List.length_append]; simp; omega)
                refine ⟨r1, r2, ?_⟩
                have e : (fldsL (acc ++ [⟨mkS a, mkS b⟩])).length = (fldsL acc).length + (a.length + b.length + 4) := by
                  unfold fldsL
                  rw [List.flatMap_append, List.length_append]
                  simp only [List.flatMap_cons, List.flatMap_nil, List.append_nil, fldL_len, mkS_size]
                omega
theorem parse_err : ∀ (fuel n : Nat) (acc : List Fld) (s : List UInt8) (i : Nat) (e : Int), parseL fuel n acc s = .bad i e → s.length < fuel → e = 3 ∨ e = 4 ∨ e = 5
  | 0, n, acc, s, i, e, h, hs => by omega
  | k + 1, n, acc, s, i, e, h, hs => by
    rw [parseL] at h
    cases hc : crlfL s with
    | none =>
      rw [hc] at h
      injection h with _ h2
      exact .inr (.inl h2.symm)
    | some x =>
      obtain ⟨line, rest⟩ := x
      rw [hc] at h
      dsimp only at h
      have hlen := crlfL_len _ _ _ hc
      by_cases h0 : line = []
      · rw [if_pos h0] at h; cases h
      · rw [if_neg h0] at h
        by_cases h1 : blkB (line.headD 0) = true ∧ acc ≠ []
        · rw [if_pos h1] at h
          exact parse_err k _ _ _ i e h (by omega)
        · rw [if_neg h1] at h
          cases hco : colonL line with
          | none =>
            rw [hco] at h
            injection h with _ h2
            exact .inl h2.symm
          | some y =>
            obtain ⟨a, b⟩ := y
            rw [hco] at h
            dsimp only at h
            by_cases h2 : nameL a = false
            · rw [if_pos h2] at h
              injection h with _ h2
              exact .inl h2.symm
            · rw [if_neg h2] at h
              by_cases h3 : acc.length = 30
              · rw [if_pos h3] at h
                injection h with _ h2
                exact .inr (.inr h2.symm)
              · rw [if_neg h3] at h
                exact parse_err k _ _ _ i e h (by omega)
set_option maxRecDepth 100000 in
set_option maxHeartbeats 4000000 in
theorem parse_long (s : ByteArray) (w : World) (hs : 2000 < s.size) (hs2 : s.size ≤ 9223372036854775807) :
    Calls Tryd.prog 22 #[.string s] w fun e w' => e = .returned (.tuple #[.agg #[.slice none 0 0, .string ⟨#[]⟩], .int .i64 0, .int .i64 1]) ∧ Below w.heap.size w w' := by
  go_enter Tryd.func22, Tryd.ntmps22
  go_wp2_with fail
  exact bodyPost_ret (v := .tuple #[.agg #[.slice none 0 0, .string ⟨#[]⟩], .int .i64 0, .int .i64 1]) (by simp [results, Tryd.results22, go_sem]) rfl ⟨rfl, (Below.refl _ w).alloc (Nat.le_refl _) _⟩
/-- Parse at a text that it refuses. -/
theorem parse_no (s : ByteArray) (m : Int) (w : World) (hs2 : s.size ≤ 9223372036854775807) (hm : w.cell? ⟨0, 0, none⟩ = some (.int .i64 m)) (h : 2000 < s.size ∨ s.size ≤ 2000 ∧ ∃ i e, parseL (s.size + 1) 0 [] (bs s) = .bad i e) :
    ∃ (i : Nat) (e : Int), (e != 0) = true ∧ Calls Tryd.prog 22 #[.string s] w fun e' w' => e' = .returned (.tuple #[.agg #[.slice none 0 0, .string ⟨#[]⟩], .int .i64 i, .int .i64 e]) ∧ Below w.heap.size w w' := by
  rcases h with h | ⟨h, i, e, hp⟩
  · exact ⟨0, 1, rfl, parse_long s w h hs2⟩
  · refine ⟨i, e, ?_, (parse_calls s m w h hm _ hp).mono fun _ _ ⟨hb, he⟩ => ⟨he, hb⟩⟩
    rcases parse_err _ _ _ _ _ _ hp (by rw [bs_len]; omega) with rfl | rfl | rfl <;> rfl

set_option maxRecDepth 100000 in
set_option maxHeartbeats 8000000 in
theorem letterFixed_walk (s : ByteArray) (m : Int) (w : World) (hs : s.size ≤ 9223372036854775807) (hm : w.cell? ⟨0, 0, none⟩ = some (.int .i64 m)) :
    Calls Tryd.prog 10 #[.string s] w fun e w' => e = .returned (.bool true) ∧ Below w.heap.size w w' := by
  have h0 := parse_calls ⟨#[]⟩ m w (by decide) hm (.bad 0 4) (by rfl)
  have H0 := Lib.hid h0
  clear h0
  go_enter Tryd.func10, Tryd.ntmps10
  go_wp2_with fail
  refine H0.out.mono ?_
  rintro e w1 ⟨hb1, he⟩
  dsimp only at he
  subst he
  have hs1 := hb1.size
  have hb2 : Below w.heap.size w (w1.alloc (.cells #[.slice none 0 0, .string ⟨#[]⟩] 45)) := hb1.alloc hs1 _
  have hm2 := cell_later hb2 hm
  have hz2 := hb2.size
  clear H0 hb1 hm
  by_cases hcase : 2000 < s.size ∨ s.size ≤ 2000 ∧ ∃ i e, parseL (s.size + 1) 0 [] (bs s) = .bad i e
  · obtain ⟨i, e, hne, hc⟩ := parse_no s m _ hs hm2 hcase
    have HC := Lib.hid hc
    have hi0 : (0 : Int) ≤ (i : Int) := by omega
    clear hc hcase
    go_wp2_with fail
    generalize w1.alloc (.cells #[.slice none 0 0, .string ⟨#[]⟩] 45) = w2 at *
    refine HC.out.mono ?_
    rintro e w3 ⟨rfl, hb3⟩
    have Hb3 := Lib.hid (hb2.trans (hb3.mono hz2))
    clear HC hb3 hb2
    go_wp2
    go_ret
    exact ⟨rfl, Hb3.out.alloc Hb3.out.size _⟩
  · have hs2 : s.size ≤ 2000 := by
      by_cases h : 2000 < s.size
      · exact absurd (.inl h) hcase
      · omega
    obtain ⟨fs, body, hp⟩ : ∃ fs body, parseL (s.size + 1) 0 [] (bs s) = .ok fs body := by
      cases hr : parseL (s.size + 1) 0 [] (bs s) with
      | ok fs body => exact ⟨fs, body, rfl⟩
      | bad i e => exact absurd (.inr ⟨hs2, i, e, hr⟩) hcase
    obtain ⟨hmay, h30, hlen⟩ := parse_inv _ _ _ _ _ _ hp (by simp) (by simp)
    have hl0 : (fldsL []).length = 0 := rfl
    rw [bs_len, hl0] at hlen
    have hshl : (showL fs body).length ≤ 5000 := by rw [showL_len]; omega
    have hpc := parse_calls s m _ hs2 hm2 _ hp
    have HPc := Lib.hid hpc
    have Hmay := Lib.hid hmay
    have hsm : ∀ f ∈ fs, f.name.size ≤ 100000 ∧ f.value.size ≤ 100000 := by
      intro f hf
      obtain ⟨k, hk, rfl⟩ := List.getElem_of_mem hf
      have h1 := fldsL_take fs k hk
      have h2 := fldsL_le fs (k + 1)
      rw [h1, List.length_append, fldL_len] at h2
      omega
    have Hsm := Lib.hid hsm
    clear hcase hp hpc hmay hsm hl0 hlen
    go_wp2_with fail
    generalize w1.alloc (.cells #[.slice none 0 0, .string ⟨#[]⟩] 45) = w2 at *
    refine HPc.out.mono ?_
    rintro e w3 ⟨hb3, v, rfl, hrow⟩
    obtain ⟨A, c, rfl, hlin⟩ := ownsRow_lin hrow rfl Hsm.out
    have hb4 : Below w3.heap.size w3 (w3.alloc (.cells #[.slice A fs.length c, .string (mkS body)] 45)) := (Below.refl _ w3).alloc (Nat.le_refl _) _
    have hM4 : MB (w3.alloc (.cells #[.slice A fs.length c, .string (mkS body)] 45)) w3.heap.size (.slice A fs.length c) (mkS body) := World.alloc_heap_new w3 _
    have hlin4 := hlin.later hb4
    have hm4 := cell_later hb4 (cell_later hb3 hm2)
    have hbw3 := hb2.trans (hb3.mono hz2)
    have hbw4 := hbw3.trans (hb4.mono hbw3.size)
    have hz4 := hbw4.size
    have hsh := show_msg fs A c (mkS body) m _ hlin4 Hmay.out h30 (by rw [bs_mkS]; omega) hm4
    rw [bs_mkS] at hsh
    have hck := check_msg fs A c (mkS body)
    by_cases h2 : 2000 < (showL fs body).length
    · have hr : showR fs body = (⟨#[]⟩, 1) := by unfold showR; rw [if_pos h2]
      rw [hr] at hsh
      have HSh := Lib.hid hsh
      have hch : chkR (showL fs body).length = 1 := by unfold chkR; rw [if_pos h2]
      have HCh := Lib.hid hch
      clear HPc hb3 hrow hlin hb4 hm2 hb2 hbw3 hsh hck hr hch h2
      go_wp2_with fail
      generalize w3.alloc (.cells #[.slice A fs.length c, .string (mkS body)] 45) = w4 at *
      refine HSh.out.mono ?_
      rintro e w5 ⟨rfl, hb5⟩
      have hM5 := hM4.below hb5 hM4.lt
      have a0 := hM5.c0
      have a1 := hM5.c1
      have hck := check_msg fs A c (mkS body) m w5 (hlin4.later hb5) Hmay.out h30 (by rw [bs_mkS]; omega) (cell_later hb5 hm4)
      rw [bs_mkS, HCh.out] at hck
      have HCk := Lib.hid hck
      have Hb5 := Lib.hid (hbw4.trans (hb5.mono hz4))
      clear HSh hM4 hM5 hck hlin4 hm4 hb5 hbw4
      go_wp2_with fail
      refine HCk.out.mono ?_
      rintro e w6 ⟨rfl, hb6⟩
      have Hb6 := Lib.hid (Hb5.out.trans (hb6.mono Hb5.out.size))
      clear HCk hb6
      go_wp2
      go_ret
      exact ⟨rfl, Hb6.out⟩
    · have hr : showR fs body = (mkS (showL fs body), 0) := by unfold showR; rw [if_neg h2]
      rw [hr] at hsh
      have HSh := Lib.hid hsh
      have hps := mkS_size (showL fs body)
      have hpz : (mkS (showL fs body)).size ≤ 2000 := by omega
      have hpa : parseL ((mkS (showL fs body)).size + 1) 0 [] (bs (mkS (showL fs body))) = .ok fs body := by
        rw [bs_mkS]
        exact parse_showL fs _ body Hmay.out h30 (by have := showL_ge fs body; rw [hps]; omega)
      have HPa := Lib.hid hpa
      clear HPc hb3 hrow hlin hb4 hm2 hb2 hbw3 hsh hck hr h2 hpa hps
      generalize mkS (showL fs body) = p at *
      go_wp2_with fail
      generalize w3.alloc (.cells #[.slice A fs.length c, .string (mkS body)] 45) = w4 at *
      refine HSh.out.mono ?_
      rintro e w5 ⟨rfl, hb5⟩
      have hM5 := hM4.below hb5 hM4.lt
      have hlin5 := hlin4.later hb5
      have hbw5 := hbw4.trans (hb5.mono hz4)
      have hz5 := hbw5.size
      have hpc := parse_calls p m w5 hpz (cell_later hb5 hm4) _ HPa.out
      have HPc := Lib.hid hpc
      clear HSh hM4 hlin4 hm4 hb5 hbw4 hpc
      go_wp2_with fail
      refine HPc.out.mono ?_
      rintro e w6 ⟨hb6, v6, rfl, hrow6⟩
      obtain ⟨A6, c6, rfl, hlin6⟩ := ownsRow_lin hrow6 rfl Hsm.out
      have hM6 := hM5.below hb6 hM5.lt
      have hb7 : Below w6.heap.size w6 (w6.alloc (.cells #[.slice A6 fs.length c6, .string (mkS body)] 45)) := (Below.refl _ w6).alloc (Nat.le_refl _) _
      have hM7 := hM6.below hb7 hM6.lt
      have hN7 : MB (w6.alloc (.cells #[.slice A6 fs.length c6, .string (mkS body)] 45)) w6.heap.size (.slice A6 fs.length c6) (mkS body) := World.alloc_heap_new w6 _
      have a0 := hM7.c0
      have a1 := hM7.c1
      have b0 := hN7.c0
      have b1 := hN7.c1
      have hsame := same_msg fs A A6 c c6 (mkS body) _ ((hlin5.later hb6).later hb7) (hlin6.later hb7) (by omega)
      have HSame := Lib.hid hsame
      have hbw6 := hbw5.trans (hb6.mono hz5)
      have Hbw7 := Lib.hid (hbw6.trans (hb7.mono hbw6.size))
      clear HPc hb6 hrow6 hlin6 hM6 hb7 hM7 hN7 hM5 hlin5 hbw5 hbw6 hsame
      go_wp2_with fail
      generalize w6.alloc (.cells #[.slice A6 fs.length c6, .string (mkS body)] 45) = w7 at *
      refine HSame.out.mono ?_
      rintro e w8 ⟨rfl, hb8⟩
      have Hb8 := Lib.hid (Hbw7.out.trans (hb8.mono Hbw7.out.size))
      clear HSame hb8
      go_wp2
      go_ret
      exact ⟨rfl, Hb8.out⟩
end Go.Proofs.YtlbibklbckabnaaDoor
