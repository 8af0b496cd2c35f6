/- The methods mail and rcpt of lmtp's session: what they answer, and how the session goes on. -/
import Derived.Test.YtokeblpdaomagaaDoorLmRest
namespace Go.Proofs.YtokeblpdaomagaaDoor
open Go.RowKit
set_option linter.unusedVariables false

theorem setCell_grown (w : World) (g j : Nat) (u : Value) : w.grownBy (w.setCell ⟨g, j, none⟩ u) (some g) :=
  ⟨rfl, rfl, rfl, by simp, fun k hk hne => Below.heap_setCell _ _ _ k (fun e => hne (by rw [e]))⟩
theorem row_grown {w w' : World} {B e s n : Nat} {u : Value} {xs : List Value} {r : Option Nat} (h : w.ownsRow B e s u n xs) (hg : w.grownBy w' r) (hne : ∀ k, u.ownBlock = some k → some k ≠ r) : w'.ownsRow B e s u n xs := by
  refine ⟨h.1, ?_⟩
  rcases h.2 with hn | ⟨g, cap, cur, rfl, h1, h2, rest⟩
  · exact .inl hn
  · exact .inr ⟨g, cap, cur, rfl, h1, (hg.block g (Array.getElem?_eq_some_iff.1 h2).1 (hne g rfl)).trans h2, rest⟩
theorem own_set {w : World} {B e s n q : Nat} {v : Value} {xs cs : List Value} {t : TypeId} (h : w.ownsRow B e s v n xs) (hb : Bk w q cs t) (hne : e ≠ t) (j : Nat) (u : Value) : (w.setCell ⟨q, j, none⟩ u).ownsRow B e s v n xs := by
  refine row_grown h (setCell_grown w q j u) fun k hk e1 => ?_
  obtain rfl := Option.some.inj e1
  rcases h.2 with ⟨rfl, _⟩ | ⟨g, cap, cur, rfl, _, hg, _⟩
  · cases hk
  · obtain rfl : g = k := Option.some.inj hk
    unfold Bk at hb
    rw [hg] at hb
    have := Option.some.inj hb
    simp only [Obj.cells.injEq] at this
    exact hne this.2.1
/-- The cells of a session. -/
def sesCells (x : Ses) (v : Value) : List Value := [.int .i64 x.step, .string x.frm.loc, .string x.frm.dom, v, .string x.text, .bool x.large]
/-- A session in a block, whose list of addresses lies in a block of its own. -/
def SB (W : World) (c : Nat) (x : Ses) : Prop := ∃ A cx, Bk W c (sesCells x (.slice A x.rcp.length cx)) 54 ∧ W.ownsRow 0 28 2 (.slice A x.rcp.length cx) x.rcp.length (adrCells x.rcp)
theorem SB.later {W W' : World} {c : Nat} {x : Ses} (hb : Below W.heap.size W W') (h : SB W c x) : SB W' c x := by
  obtain ⟨A, cx, h1, h2⟩ := h
  exact ⟨A, cx, h1.later hb, row_later hb h2⟩
theorem SB.lt {W : World} {c : Nat} {x : Ses} (h : SB W c x) : c < W.heap.size := by
  obtain ⟨A, cx, h1, h2⟩ := h
  exact h1.lt
theorem mv_trans {b : Nat} {x y z : World} (h : Mv b x y) (k : Mv b y z) : Mv b x z := h.trans k
set_option maxRecDepth 100000 in
set_option maxHeartbeats 2000000 in
theorem mail_calls (c : Nat) (x : Ses) (t : ByteArray) (m : Int) (w : World) (h : SB w c x) (ht : t.size ≤ 2000) (hm : w.cell? ⟨0, 0, none⟩ = some (.int .i64 m)) :
    Calls Tryd.prog 25 #[.pointer (some ⟨c, 0, none⟩), .string t] w fun e w' => e = .returned (.int .i64 (mailR x t).1) ∧ SB w' c (mailR x t).2 ∧ Mv c w w' := by
  have had := lmaddr_calls t m w ht hm
  have hR : mailR x t = if x.step ≠ 1 then (503, x) else if (addrR t).2 = false then (501, x) else (250, { x with step := 2, frm := (addrR t).1 }) := rfl
  generalize addrR t = ar at *
  obtain ⟨⟨al, ad⟩, ok⟩ := ar
  simp only at had hR
  have HR := Lib.hid hR
  have Had := Lib.hid had
  have H := Lib.hid h
  have hcl := h.lt
  clear had hm h hR
  go_enter Tryd.func25, Tryd.ntmps25
  go_wp2_with fail
  refine Had.out.mono ?_
  rintro e w1 ⟨rfl, hb1⟩
  have hal : Below w1.heap.size w1 (w1.alloc (.cells #[.string al, .string ad] 28)) := (Below.refl _ w1).alloc (Nat.le_refl _) _
  have hP := Bk.new w1 [.string al, .string ad] 28
  have hb2 := btr hb1 hal
  have hcw : c < w1.heap.size := by have := hb1.size; omega
  obtain ⟨A, cx, hS, hrow⟩ := H.out.later hb2
  have HP := Lib.hid hP
  have HS := Lib.hid hS
  have Hrow := Lib.hid hrow
  have Hb2 := Lib.hid hb2
  clear hal hP hb2 hS hrow hb1
  go_upto_region 2 with fail
  generalize w1.alloc (.cells #[.string al, .string ad] 28) = w2 at *
  have s0 := HS.out.cell 0 _ rfl
  by_cases h1 : x.step = 1
  · rw [h1] at s0
    cases hok : ok with
    | false =>
      subst hok
      have hr := HR.out
      rw [if_neg (by simp [h1]), if_pos rfl] at hr
      have Hr := Lib.hid hr
      clear hr
      go_wp2_with fail
      go_ret
      exact ⟨by rw [Hr.out]; rfl, by rw [Hr.out]; exact ⟨A, cx, HS.out, Hrow.out⟩, Mv.of_below Hb2.out⟩
    | true =>
      subst hok
      have hr := HR.out
      rw [if_neg (by simp [h1]), if_neg (by simp)] at hr
      have Hr := Lib.hid hr
      have p0 := HP.out.cell 0 _ rfl
      have p1 := HP.out.cell 1 _ rfl
      have s1 := HS.out.cell 1 _ rfl
      have s2 := HS.out.cell 2 _ rfl
      have f0 := HS.out.frozen 0
      have f1 := HS.out.frozen 1
      have f2 := HS.out.frozen 2
      have hne : w1.heap.size ≠ c := by omega
      have hfin : SB (((w2.setCell ⟨c, 0, none⟩ (.int .i64 2)).setCell ⟨c, 1, none⟩ (.string al)).setCell ⟨c, 2, none⟩ (.string ad)).drew c { x with step := 2, frm := ⟨al, ad⟩ } ∧ Mv c w (((w2.setCell ⟨c, 0, none⟩ (.int .i64 2)).setCell ⟨c, 1, none⟩ (.string al)).setCell ⟨c, 2, none⟩ (.string ad)).drew := by
        have hS := HS.out
        refine ⟨⟨A, cx, ((hS.set 0 (.int .i64 2)).set 1 (.string al)).set 2 (.string ad), ?_⟩, ((((Mv.of_below Hb2.out).set 0 _).set 1 _).set 2 _).drew⟩
        exact own_set (own_set (own_set Hrow.out hS (by decide) 0 _) (hS.set 0 _) (by decide) 1 _) ((hS.set 0 _).set 1 _) (by decide) 2 _
      have Hfin := Lib.hid hfin
      clear hr hfin
      go_upto_region 6 with fail
      go_wp2_with fail
      go_region_with (fail)
      all_goals (
        generalize (((w2.setCell ⟨c, 0, none⟩ (.int .i64 2)).setCell ⟨c, 1, none⟩ (.string al)).setCell ⟨c, 2, none⟩ (.string ad)).drew = w3 at *
        clear s0 s1 s2 f0 f1 f2 p0 p1
        go_wp2_with fail
        go_ret
        exact ⟨by rw [Hr.out]; rfl, by rw [Hr.out]; exact Hfin.out.1, Hfin.out.2⟩)
  · have h1' : (x.step == 1) = false := by rw [beq_eq_false_iff_ne]; exact h1
    have hr := HR.out
    rw [if_pos h1] at hr
    have Hr := Lib.hid hr
    clear hr
    go_wp2_with fail
    go_ret
    exact ⟨by rw [Hr.out]; rfl, by rw [Hr.out]; exact ⟨A, cx, HS.out, Hrow.out⟩, Mv.of_below Hb2.out⟩
/-- Names that can be read. -/
def StrsAt (w : World) (A : Option Addr) (l : List ByteArray) : Prop := l = [] ∨ ∃ g off, A = some ⟨g, off, none⟩ ∧ ∀ j, j < l.length → w.cell? ⟨g, off + j, none⟩ = some (.string (l.getD j ByteArray.empty))
theorem StrsAt.later {w w' : World} {A : Option Addr} {l : List ByteArray} (hb : Below w.heap.size w w') (h : StrsAt w A l) : StrsAt w' A l := by
  rcases h with h | ⟨g, off, e, hc⟩
  · exact .inl h
  · exact .inr ⟨g, off, e, fun j hj => cell_later hb (hc j hj)⟩
theorem containsS_calls (l : List ByteArray) (x : ByteArray) (A : Option Addr) (c : Nat) (w : World) (hA : StrsAt w A l) (hb : l.length ≤ 1000) :
    Calls Tryd.prog 36 #[.slice A l.length c, .string x] w fun e w' => e = .returned (.bool (Lib.containsS l x)) ∧ w = w' := by
  rcases hA with rfl | ⟨g, off, rfl, hc⟩
  · exact (Tryd.slices_Contains_string_empty A c x w).mono fun e w' ⟨h1, h2⟩ => ⟨h1, h2.symm⟩
  · refine (Tryd.slices_Contains_string g off l.length c l x w (Nat.le_refl _) (by omega) hc).mono ?_
    rintro e w' ⟨h1, h2⟩
    rw [List.take_length] at h1
    exact ⟨h1, h2.symm⟩
end Go.Proofs.YtokeblpdaomagaaDoor
