/- The kind of a stick: what its cells say, and that an argument that reads as data has it. -/
import Derived.Test.YtgmnoemkdigafaaDoorKind
import Derived.Test.YtgmnoemkdigafaaDoorScrStk
namespace Go.Proofs.YtgmnoemkdigafaaDoor
open Go.RowKit
set_option linter.unusedVariables false

theorem stks_of {w : World} {a : Addr} : ∀ (len : Nat), (∀ i, i < len → ∃ s cs, StkV w s cs ∧ ∀ k u, cs[k]? = some u → w.cell? ((a.add (i * 6)).add k) = some u) → ∃ l : List Stk, l.length = len ∧ StksAt w l (some a) := by
  intro len one
  by_cases h0 : len = 0
  · subst h0
    exact ⟨[], rfl, by unfold StksAt; trivial⟩
  · have hpl : a.spot = none := by
      obtain ⟨s, cs, hv, hc⟩ := one 0 (by omega)
      obtain ⟨k, x, y, s, t, inn⟩ := s
      unfold StkV at hv
      obtain ⟨A, c, rfl, _⟩ := hv
      have h2 := cell_plain (hc 0 _ rfl)
      revert h2
      unfold Addr.add
      split <;> simp_all
    obtain ⟨b, off, spot⟩ := a
    have hpl : spot = none := hpl
    subst hpl
    have all : ∀ m, m ≤ len → ∃ l : List Stk, l.length = m ∧ StksAt w l (some ⟨b, off + (len - m) * 6, none⟩) := by
      intro m
      induction m with
      | zero => exact fun _ => ⟨[], rfl, by unfold StksAt; trivial⟩
      | succ m ih =>
        intro hm
        obtain ⟨l, hl, hs⟩ := ih (by omega)
        obtain ⟨s, cs, hv, hc⟩ := one (len - (m + 1)) (by omega)
        refine ⟨s :: l, by simp [hl], ?_⟩
        unfold StksAt
        refine ⟨b, off + (len - (m + 1)) * 6, cs, rfl, fun i v hi => ?_, hv, ?_⟩
        · have h4 := hc i v hi
          rw [add_plain (show (⟨b, off, none⟩ : Addr).spot = none from rfl), add_plain rfl] at h4
          exact h4
        · rw [show off + (len - (m + 1)) * 6 + 6 = off + (len - m) * 6 by
            have : len - m = len - (m + 1) + 1 := by omega
            rw [this]; omega]
          exact hs
    obtain ⟨l, hl, hs⟩ := all len (Nat.le_refl _)
    refine ⟨l, hl, ?_⟩
    rw [Nat.sub_self, Nat.zero_mul, Nat.add_zero] at hs
    exact hs
set_option maxRecDepth 100000 in
theorem stk_opens {H : Type} (enc : TypeId × Value → H) (w : World) (base : Nat) (spare : Nat → Bool) (held : Bool) : ∀ (N fuel : Nat) (cs : List Value) (x : DataW H × List MemPlace), fuel ≤ N → DataW.trod enc Tryd.prog w base spare held fuel 39 cs = some x → ∃ s : Stk, StkV w s cs
  | 0, fuel, cs, x, hN, hx => by
    obtain ⟨xs, n, h, _⟩ := DataW.trod_struct Tryd.underlying39 hx
    omega
  | N + 1, fuel, cs, x, hN, hx => by
    obtain ⟨xs, n, rfl, _, hl, hxs, hget⟩ := DataW.trod_struct Tryd.underlying39 hx
    have hl6 : cs.length = 6 := by rw [hl]; kernel_rfl
    have hx6 : xs.length = 6 := hxs
    match cs, hl6, xs, hx6 with
    | [c0, c1, c2, c3, c4, c5], _, [y0, y1, y2, y3, y4, y5], _ =>
      have e1 : Tryd.prog.cellsOf 3 = 1 := by kernel_rfl
      have e2 : Tryd.prog.cellsOf 9 = 1 := by kernel_rfl
      have e3 : Tryd.prog.cellsOf 37 = 1 := by kernel_rfl
      have e6 : Tryd.prog.cellsOf 39 = 6 := by kernel_rfl
      have g0 : DataW.trod enc Tryd.prog w base spare held n 3 [c0] = some y0 := by
        have h := hget 0 ⟨"Kind", 3, 0, false, "", "", 0⟩ rfl
        dsimp only at h
        rw [e1] at h
        exact h
      have g1 : DataW.trod enc Tryd.prog w base spare held n 3 [c1] = some y1 := by
        have h := hget 1 ⟨"A", 3, 1, false, "", "", 8⟩ rfl
        dsimp only at h
        rw [e1] at h
        exact h
      have g2 : DataW.trod enc Tryd.prog w base spare held n 3 [c2] = some y2 := by
        have h := hget 2 ⟨"B", 3, 2, false, "", "", 16⟩ rfl
        dsimp only at h
        rw [e1] at h
        exact h
      have g3 : DataW.trod enc Tryd.prog w base spare held n 9 [c3] = some y3 := by
        have h := hget 3 ⟨"S", 9, 3, false, "", "", 24⟩ rfl
        dsimp only at h
        rw [e2] at h
        exact h
      have g4 : DataW.trod enc Tryd.prog w base spare held n 9 [c4] = some y4 := by
        have h := hget 4 ⟨"T", 9, 4, false, "", "", 40⟩ rfl
        dsimp only at h
        rw [e2] at h
        exact h
      have g5 : DataW.trod enc Tryd.prog w base spare held n 37 [c5] = some y5 := by
        have h := hget 5 ⟨"In", 37, 5, false, "", "", 56⟩ rfl
        dsimp only at h
        rw [e3] at h
        exact h
      obtain ⟨k, h0, _, w0⟩ := DataW.trod_int Tryd.underlying3 g0
      obtain ⟨a, h1, _, w1⟩ := DataW.trod_int Tryd.underlying3 g1
      obtain ⟨b, h2, _, w2⟩ := DataW.trod_int Tryd.underlying3 g2
      obtain ⟨s, h3, _, w3⟩ := DataW.trod_string Tryd.underlying9 g3
      obtain ⟨t, h4, _, w4⟩ := DataW.trod_string Tryd.underlying9 g4
      simp only [List.cons.injEq, and_true] at h0 h1 h2 h3 h4
      subst h0 h1 h2 h3 h4
      rcases DataW.trod_slice Tryd.underlying37 g5 with ⟨h5, _⟩ | ⟨ad, len, cap, elems, rest, n2, h, h5, _, _, hlc, hcm, hel, hget2, _⟩
      · simp only [List.cons.injEq, and_true] at h5
        subst h5
        refine ⟨.mk k a b s t [], ?_⟩
        unfold StkV
        exact ⟨none, 0, rfl, by unfold StksAt; trivial, w0, w1, w2, w3, w4, Nat.le_refl _, Nat.zero_le _⟩
      · simp only [List.cons.injEq, and_true] at h5
        subst h5
        obtain ⟨l, hl2, hs⟩ := stks_of (w := w) (a := ad) len (fun i hi => by
          have h1 := hget2 i hi
          rw [List.getElem?_eq_getElem (by omega), e6] at h1
          obtain ⟨cs2, hcs, htr⟩ := Option.bind_eq_some_iff.1 h1
          obtain ⟨s2, hv⟩ := stk_opens enc w base spare held N n2 cs2 _ (by omega) htr
          exact ⟨s2, cs2, hv, (cells_get hcs).2⟩)
        subst hl2
        refine ⟨.mk k a b s t l, ?_⟩
        unfold StkV
        exact ⟨some ad, cap, rfl, hs, w0, w1, w2, w3, w4, hlc, hcm⟩
end Go.Proofs.YtgmnoemkdigafaaDoor
