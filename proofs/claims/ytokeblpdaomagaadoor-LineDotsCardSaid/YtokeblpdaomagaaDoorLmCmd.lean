/- The method command of lmtp's session: what it answers, and how the session goes on. -/
import Derived.Test.YtokeblpdaomagaaDoorLmRcpt
namespace Go.Proofs.YtokeblpdaomagaaDoor
open Go.RowKit
set_option linter.unusedVariables false

theorem foldF_calls (s : ByteArray) (w : World) (hs : s.size ≤ 2000) :
    Calls Tryd.prog 27 #[.string s] w fun e w' => e = .returned (.tuple #[.string (foldB s), .int .i64 0]) ∧ Below w.heap.size w w' := by
  have h1 : ¬ (2000 : Int) < (s.size : Int) := by omega
  go_enter Tryd.func27, Tryd.ntmps27
  go_wp2_with fail
  refine (fold_calls s _ (by omega)).mono ?_
  rintro e w1 ⟨rfl, hb1⟩
  go_wp2_with fail
  go_ret2
  exact ⟨rfl, hb1⟩
theorem restR_size {line word t : ByteArray} (h : restR line word = some t) : t.size ≤ line.size := by
  unfold restR at h
  split at h
  · cases h
  · split at h
    · obtain rfl := Option.some.inj h
      rw [ByteArray.size_extract]; omega
    · cases h
/-- A session that begins anew. -/
theorem SB.anew {W : World} {c : Nat} {x : Ses} (h : SB W c x) (k : Int) :
    SB ((((((W.setCell ⟨c, 0, none⟩ (.int .i64 k)).setCell ⟨c, 1, none⟩ (.string ⟨#[]⟩)).setCell ⟨c, 2, none⟩ (.string ⟨#[]⟩)).setCell ⟨c, 3, none⟩ (.slice none 0 0)).setCell ⟨c, 4, none⟩ (.string ⟨#[]⟩)).setCell ⟨c, 5, none⟩ (.bool false)) c (readyS k) := by
  obtain ⟨A, cx, h1, h2⟩ := h
  exact ⟨none, 0, (((((h1.set 0 _).set 1 _).set 2 _).set 3 _).set 4 _).set 5 _, World.ownsRow_nil _ _ _ _⟩
theorem mv_anew {V W : World} {c : Nat} (h : Mv c V W) (k : Int) :
    Mv c V ((((((W.setCell ⟨c, 0, none⟩ (.int .i64 k)).setCell ⟨c, 1, none⟩ (.string ⟨#[]⟩)).setCell ⟨c, 2, none⟩ (.string ⟨#[]⟩)).setCell ⟨c, 3, none⟩ (.slice none 0 0)).setCell ⟨c, 4, none⟩ (.string ⟨#[]⟩)).setCell ⟨c, 5, none⟩ (.bool false)) :=
  (((((h.set 0 _).set 1 _).set 2 _).set 3 _).set 4 _).set 5 _
/-- The cells of a session in a block. -/
theorem SB.cells {W : World} {c : Nat} {x : Ses} (h : SB W c x) : W.cell? ⟨c, 0, none⟩ = some (.int .i64 x.step) ∧ W.cell? ⟨c, 1, none⟩ = some (.string x.frm.loc) ∧ W.cell? ⟨c, 2, none⟩ = some (.string x.frm.dom) ∧ (∃ A cx, W.cell? ⟨c, 3, none⟩ = some (.slice A x.rcp.length cx)) ∧ W.cell? ⟨c, 4, none⟩ = some (.string x.text) ∧ W.cell? ⟨c, 5, none⟩ = some (.bool x.large) ∧ ∀ j, W.frozen? ⟨c, j, none⟩ = false := by
  obtain ⟨A, cx, h1, h2⟩ := h
  exact ⟨h1.cell 0 _ rfl, h1.cell 1 _ rfl, h1.cell 2 _ rfl, ⟨A, cx, h1.cell 3 _ rfl⟩, h1.cell 4 _ rfl, h1.cell 5 _ rfl, fun j => h1.frozen j⟩
theorem SB.step {W : World} {c : Nat} {x : Ses} (h : SB W c x) (k : Int) : SB (W.setCell ⟨c, 0, none⟩ (.int .i64 k)) c { x with step := k } := by
  obtain ⟨A, cx, h1, h2⟩ := h
  exact ⟨A, cx, h1.set 0 _, own_set h2 h1 (by decide) 0 _⟩
theorem beq_no {a b : ByteArray} (h : a ≠ b) : (a.toList == b.toList) = false := by
  rw [toList_bs, toList_bs, beq_eq_false_iff_ne]
  intro e
  exact h (by rw [← mkS_bs a, e, mkS_bs])
set_option maxRecDepth 100000 in
set_option maxHeartbeats 8000000 in
theorem cmd_calls (c : Nat) (x : Ses) (line : ByteArray) (known : List ByteArray) (K : Option Addr) (kc : Nat) (m : Int) (w : World) (h : SB w c x) (h5 : x.rcp.length ≤ 5) (hl : line.size ≤ 2000) (hK : StrsAt w K known) (hkn : known.length ≤ 1000) (hm : w.cell? ⟨0, 0, none⟩ = some (.int .i64 m)) :
    Calls Tryd.prog 17 #[.pointer (some ⟨c, 0, none⟩), .string line, .slice K known.length kc] w fun e w' => e = .returned (.int .i64 (cmdR x line known).1) ∧ SB w' c (cmdR x line known).2 ∧ Mv c w w' := by
  have H := Lib.hid h
  have HK := Lib.hid hK
  have Hm := Lib.hid hm
  clear h hK hm
  by_cases h300 : 300 < line.size
  · have hr : cmdR x line known = (500, x) := by unfold cmdR; rw [if_pos h300]
    have Hr := Lib.hid hr
    have h300' : (300 : Int) < (line.size : Int) := by omega
    clear hr
    go_enter Tryd.func17, Tryd.ntmps17
    go_wp2_with fail
    go_ret
    exact ⟨by rw [Hr.out]; rfl, by rw [Hr.out]; exact H.out, Mv.refl _ _⟩
  · have h300' : ¬ (300 : Int) < (line.size : Int) := by omega
    have hr0 : cmdR x line known = match restR line lhlo with
        | some name => if checkA ⟨⟨#[120]⟩, name⟩ ≠ 0 then (501, x) else (250, readyS 1)
        | none => match restR line mailF with
          | some t => mailR x t
          | none => match restR line rcptT with
            | some t => rcptR x t known
            | none => wordR x line := by unfold cmdR; exact if_neg h300
    have Hr0 := Lib.hid hr0
    clear hr0
    go_enter Tryd.func17, Tryd.ntmps17
    go_wp2_with fail
    refine (rest_calls line lhlo w hl (by decide)).mono ?_
    rintro e w1 ⟨rfl, hb1⟩
    cases h1 : restR line lhlo with
    | some name =>
      have hns := restR_size h1
      have hr := Hr0.out
      rw [h1] at hr
      simp only at hr
      have Hr1 := Lib.hid hr
      have hck := check_calls ⟨⟨#[120]⟩, name⟩ m w1 (by show (⟨#[120]⟩ : ByteArray).size ≤ _; decide) (by show name.size ≤ _; omega) (cell_later hb1 Hm.out)
      have H1 := Lib.hid (H.out.later hb1)
      have Hck := Lib.hid hck
      have Hb1 := Lib.hid hb1
      clear hr hck h1 hb1
      simp only [Option.getD_some, Option.isSome_some]
      go_wp2_with fail
      refine Hck.out.mono ?_
      rintro e w2 ⟨rfl, hb2⟩
      have H2 := Lib.hid (H1.out.later hb2)
      have Hb2 := Lib.hid (btr Hb1.out hb2)
      clear hb2
      by_cases hc : checkA ⟨⟨#[120]⟩, name⟩ = 0
      · have hr := Hr1.out
        rw [if_neg (by rw [hc]; simp)] at hr
        have Hr := Lib.hid hr
        rw [hc]
        obtain ⟨s0, s1, s2, ⟨As, cs, s3⟩, s4, s5, hf⟩ := H2.out.cells
        have f0 := hf 0
        have f1 := hf 1
        have f2 := hf 2
        have f3 := hf 3
        have f4 := hf 4
        have f5 := hf 5
        clear hr hc hf
        go_wp2_with fail
        go_ret
        exact ⟨by rw [Hr.out]; rfl, by rw [Hr.out]; exact H2.out.anew 1, mv_anew (Mv.of_below Hb2.out) 1⟩
      · have hr := Hr1.out
        rw [if_pos hc] at hr
        have Hr := Lib.hid hr
        have hc' : (checkA ⟨⟨#[120]⟩, name⟩ == 0) = false := by rw [beq_eq_false_iff_ne]; exact hc
        generalize checkA ⟨⟨#[120]⟩, name⟩ = z at *
        clear hr hc
        go_wp2_with fail
        go_ret
        exact ⟨by rw [Hr.out]; rfl, by rw [Hr.out]; exact H2.out, Mv.of_below Hb2.out⟩
    | none =>
      have hr := Hr0.out
      rw [h1] at hr
      simp only at hr
      have Hr1 := Lib.hid hr
      have H1 := Lib.hid (H.out.later hb1)
      have Hb1 := Lib.hid hb1
      clear hr h1 hb1
      simp only [Option.getD_none, Option.isSome_none]
      go_wp2_with fail
      refine (rest_calls line mailF w1 hl (by decide)).mono ?_
      rintro e w2 ⟨rfl, hb2⟩
      cases h2 : restR line mailF with
      | some t =>
        have hns := restR_size h2
        have hr := Hr1.out
        rw [h2] at hr
        simp only at hr
        have Hr := Lib.hid hr
        have Hb2 := Lib.hid (btr Hb1.out hb2)
        have hm2 := mail_calls c x t m w2 (H1.out.later hb2) (by omega) (cell_later (btr Hb1.out hb2) Hm.out)
        have Hm2 := Lib.hid hm2
        clear hr hm2 h2 hb2
        simp only [Option.getD_some, Option.isSome_some]
        go_wp2_with fail
        refine Hm2.out.mono ?_
        rintro e w3 ⟨rfl, hs3, hv3⟩
        have Hs3 := Lib.hid hs3
        have Hv3 := Lib.hid hv3
        clear hs3 hv3
        go_wp2_with fail
        go_ret
        exact ⟨by rw [Hr.out]; rfl, by rw [Hr.out]; exact Hs3.out, (Mv.of_below Hb2.out).trans Hv3.out⟩
      | none =>
        have hr := Hr1.out
        rw [h2] at hr
        simp only at hr
        have Hr2 := Lib.hid hr
        have H2 := Lib.hid (H1.out.later hb2)
        have Hb2 := Lib.hid (btr Hb1.out hb2)
        clear hr h2 hb2
        simp only [Option.getD_none, Option.isSome_none]
        go_wp2_with fail
        refine (rest_calls line rcptT w2 hl (by decide)).mono ?_
        rintro e w3 ⟨rfl, hb3⟩
        cases h3 : restR line rcptT with
        | some t =>
          have hns := restR_size h3
          have hr := Hr2.out
          rw [h3] at hr
          simp only at hr
          have Hr := Lib.hid hr
          have Hb3 := Lib.hid (btr Hb2.out hb3)
          have hm2 := rcpt_calls c x t known K kc m w3 (H2.out.later hb3) h5 (by omega) (HK.out.later Hb3.out) hkn (cell_later Hb3.out Hm.out)
          have Hm2 := Lib.hid hm2
          clear hr hm2 h3 hb3
          simp only [Option.getD_some, Option.isSome_some]
          go_wp2_with fail
          refine Hm2.out.mono ?_
          rintro e w4 ⟨rfl, hs3, hv3⟩
          have Hs3 := Lib.hid hs3
          have Hv3 := Lib.hid hv3
          clear hs3 hv3
          go_wp2_with fail
          go_ret
          exact ⟨by rw [Hr.out]; rfl, by rw [Hr.out]; exact Hs3.out, (Mv.of_below Hb3.out).trans Hv3.out⟩
        | none =>
          have hr := Hr2.out
          rw [h3] at hr
          simp only at hr
          have Hr3 := Lib.hid hr
          have H3 := Lib.hid (H2.out.later hb3)
          have Hb3 := Lib.hid (btr Hb2.out hb3)
          clear hr h3 hb3
          simp only [Option.getD_none, Option.isSome_none]
          go_wp2_with fail
          refine (foldF_calls line w3 hl).mono ?_
          rintro e w4 ⟨rfl, hb4⟩
          have H4 := Lib.hid (H3.out.later hb4)
          have Hb4 := Lib.hid (btr Hb3.out hb4)
          have hW : wordR x line = if foldB line = wData then (if x.step ≠ 3 then (503, x) else (354, { x with step := 4 }))
              else if foldB line = wRset then (250, readyS (min x.step 1))
              else if foldB line = wNoop then (250, x)
              else if foldB line = wQuit then (221, readyS 5)
              else (500, x) := rfl
          have HW := Lib.hid (Hr3.out.trans hW)
          clear hW hb4
          generalize foldB line = F at *
          obtain ⟨s0, s1, s2, ⟨As, cs, s3⟩, s4, s5, hf⟩ := H4.out.cells
          have f0 := hf 0
          have f1 := hf 1
          have f2 := hf 2
          have f3 := hf 3
          have f4 := hf 4
          have f5 := hf 5
          clear hf
          by_cases e1 : F = wData
          · have hr := HW.out
            rw [if_pos e1] at hr
            by_cases hx3 : x.step = 3
            · have hr : _ = _ := hr
              rw [if_neg (by rw [hx3]; simp)] at hr
              have Hr := Lib.hid hr
              have hn3 : (x.step != 3) = false := by rw [hx3]; rfl
              have n1 : (F.toList == [100, 97, 116, 97]) = true := by rw [e1, toList_bs]; rfl
              clear hr e1
              have hx3' := Lib.hid hx3
              clear hx3
              go_wp2_with fail
              go_ret
              exact ⟨by rw [Hr.out]; rfl, by rw [Hr.out]; exact H4.out.step 4, (Mv.of_below Hb4.out).set 0 _⟩
            · rw [if_pos hx3] at hr
              have Hr := Lib.hid hr
              have hn3 : (x.step != 3) = true := by rw [bne, beq_eq_false_iff_ne.2 hx3]; rfl
              have n1 : (F.toList == [100, 97, 116, 97]) = true := by rw [e1, toList_bs]; rfl
              clear hr e1
              have hx3' := Lib.hid hx3
              clear hx3
              go_wp2_with fail
              go_ret
              exact ⟨by rw [Hr.out]; rfl, by rw [Hr.out]; exact H4.out, Mv.of_below Hb4.out⟩
          · have hr := HW.out
            rw [if_neg e1] at hr
            by_cases e2 : F = wRset
            · rw [if_pos e2] at hr
              have Hr := Lib.hid hr
              have n1 : (F.toList == [100, 97, 116, 97]) = false := by rw [e2, toList_bs]; rfl
              have n2 : (F.toList == [114, 115, 101, 116]) = true := by rw [e2, toList_bs]; rfl
              clear hr e1 e2
              go_wp2_with fail
              go_ret
              exact ⟨by rw [Hr.out]; rfl, by rw [Hr.out]; exact H4.out.anew _, mv_anew (Mv.of_below Hb4.out) _⟩
            · rw [if_neg e2] at hr
              by_cases e3 : F = wNoop
              · rw [if_pos e3] at hr
                have Hr := Lib.hid hr
                have n1 : (F.toList == [100, 97, 116, 97]) = false := by rw [e3, toList_bs]; rfl
                have n2 : (F.toList == [114, 115, 101, 116]) = false := by rw [e3, toList_bs]; rfl
                have n3 : (F.toList == [110, 111, 111, 112]) = true := by rw [e3, toList_bs]; rfl
                clear hr e1 e2 e3
                go_wp2_with fail
                go_ret
                exact ⟨by rw [Hr.out]; rfl, by rw [Hr.out]; exact H4.out, Mv.of_below Hb4.out⟩
              · rw [if_neg e3] at hr
                by_cases e4 : F = wQuit
                · rw [if_pos e4] at hr
                  have Hr := Lib.hid hr
                  have n1 : (F.toList == [100, 97, 116, 97]) = false := by rw [e4, toList_bs]; rfl
                  have n2 : (F.toList == [114, 115, 101, 116]) = false := by rw [e4, toList_bs]; rfl
                  have n3 : (F.toList == [110, 111, 111, 112]) = false := by rw [e4, toList_bs]; rfl
                  have n4 : (F.toList == [113, 117, 105, 116]) = true := by rw [e4, toList_bs]; rfl
                  clear hr e1 e2 e3 e4
                  go_wp2_with fail
                  go_ret
                  exact ⟨by rw [Hr.out]; rfl, by rw [Hr.out]; exact H4.out.anew 5, mv_anew (Mv.of_below Hb4.out) 5⟩
                · rw [if_neg e4] at hr
                  have Hr := Lib.hid hr
                  have n1 := beq_no e1
                  have n2 := beq_no e2
                  have n3 := beq_no e3
                  have n4 := beq_no e4
                  have hl1 : wData.toList = [100, 97, 116, 97] := by rw [toList_bs]; rfl
                  have hl2 : wRset.toList = [114, 115, 101, 116] := by rw [toList_bs]; rfl
                  have hl3 : wNoop.toList = [110, 111, 111, 112] := by rw [toList_bs]; rfl
                  have hl4 : wQuit.toList = [113, 117, 105, 116] := by rw [toList_bs]; rfl
                  rw [hl1] at n1
                  rw [hl2] at n2
                  rw [hl3] at n3
                  rw [hl4] at n4
                  clear hr e1 e2 e3 e4 hl1 hl2 hl3 hl4
                  go_wp2_with fail
                  go_ret
                  exact ⟨by rw [Hr.out]; rfl, by rw [Hr.out]; exact H4.out, Mv.of_below Hb4.out⟩
end Go.Proofs.YtokeblpdaomagaaDoor
