/- Lists of addresses in memory: slices.Clone, Index and Contains of them. -/
import Derived.Test.YtokeblpdaomagaaDoorLmPlain
import Derived.Test.YtokeblpdaomagaaDoorBlk
import Derived.Test.YtokeblpdaomagaaDoorKind
import Derived.WalkSpells
import Derived.Deep.AppendLies
import Derived.Laws.OwnMore
import Derived.Lib.SliceRun
import Derived.Maps.AppendAt
import Derived.Deep.CutRange
import Derived.Deep.DeepCutAuto
import Derived.Deep.QuietTactic
import Derived.BigQuiet
import Derived.Outline
import Derived.Laws.AppendOwnNone
namespace Go.Proofs.YtokeblpdaomagaaDoor
open Go.RowKit
set_option linter.unusedVariables false

theorem btr {w W W' : World} (h : Below w.heap.size w W) (h2 : Below W.heap.size W W') : Below w.heap.size w W' := h.trans (h2.mono h.size)
theorem bal {w W : World} (h : Below w.heap.size w W) (o : Obj) : Below w.heap.size w (W.alloc o) := h.alloc h.size o
theorem bdr (w : World) : Below w.heap.size w w.drew := ⟨rfl, rfl, rfl, Nat.le_refl _, fun _ _ => rfl⟩
theorem k1 {a B : Prop} (k : a ∧ B) : B := k.2
theorem k2 {a b B : Prop} (k : a ∧ b ∧ B) : B := k.2.2
theorem k3 {a b c B : Prop} (k : a ∧ b ∧ c ∧ B) : B := k.2.2.2
theorem k4 {a b c d B : Prop} (k : a ∧ b ∧ c ∧ d ∧ B) : B := k.2.2.2.2
/-- Several ways that end alike are walked on but once. -/
theorem one_key {T G : Prop} (pf : T) (main : T → G) : G := main pf
/-- Addresses that can be read. -/
def AdrsAt (w : World) (A : Option Addr) (l : List Adr) : Prop :=
  ∀ (j : Nat) a, l[j]? = some a → ∃ g off, A = some ⟨g, off, none⟩ ∧ w.cell? ⟨g, off + j * 2, none⟩ = some (.string a.loc) ∧ w.cell? ⟨g, off + j * 2 + 1, none⟩ = some (.string a.dom)
theorem AdrsAt.later {w w' : World} {A : Option Addr} {l : List Adr} (hb : Below w.heap.size w w') (h : AdrsAt w A l) : AdrsAt w' A l := fun j a hj => by
  obtain ⟨g, off, e, c0, c1⟩ := h j a hj
  exact ⟨g, off, e, cell_later hb c0, cell_later hb c1⟩
theorem AdrsAt.take {w : World} {A : Option Addr} {l : List Adr} (h : AdrsAt w A l) (k : Nat) : AdrsAt w A (l.take k) := fun j a hj => by
  rw [List.getElem?_take] at hj
  split at hj
  · exact h j a hj
  · cases hj
theorem adrs_none {w : World} {A : Option Addr} {l : List Adr} (h : AdrsAt w A l) (hn : A = none) : l = [] := by
  cases l with
  | nil => rfl
  | cons a r =>
    obtain ⟨g, off, e, _⟩ := h 0 a rfl
    rw [hn] at e; cases e
theorem adrCells_len (l : List Adr) : (adrCells l).length = l.length * 2 := by
  induction l with
  | nil => rfl
  | cons a r ih =>
    have e : adrCells (a :: r) = [.string a.loc, .string a.dom] ++ adrCells r := by simp [adrCells]
    rw [e, List.length_append, ih, List.length_cons]
    simp only [List.length_cons, List.length_nil]
    omega
theorem adrCells_get : ∀ (l : List Adr) (j : Nat) (a : Adr), l[j]? = some a → ∀ i, i < 2 → (adrCells l)[j * 2 + i]? = ([Value.string a.loc, .string a.dom] : List Value)[i]?
  | [], j, a, h, i, hi => by simp at h
  | b :: r, 0, a, h, i, hi => by
    obtain rfl : b = a := by simpa using h
    have e : adrCells (b :: r) = [.string b.loc, .string b.dom] ++ adrCells r := by simp [adrCells]
    rw [e, Nat.zero_mul, Nat.zero_add, List.getElem?_append_left (by simpa using hi)]
  | b :: r, j + 1, a, h, i, hi => by
    have e : adrCells (b :: r) = [.string b.loc, .string b.dom] ++ adrCells r := by simp [adrCells]
    rw [e, List.getElem?_append_right (by simp; omega)]
    have := adrCells_get r j a (by simpa using h) i hi
    rw [← this]
    congr 1
    simp only [List.length_cons, List.length_nil]
    omega
theorem adrCells_split (l : List Adr) (j : Nat) (u : Value) (h : (adrCells l)[j]? = some u) : ∃ a, l[j / 2]? = some a ∧ ([Value.string a.loc, .string a.dom] : List Value)[j % 2]? = some u := by
  have hj : j < l.length * 2 := by rw [← adrCells_len l]; exact (List.getElem?_eq_some_iff.1 h).1
  have hq : j / 2 < l.length := by omega
  have hg := adrCells_get l (j / 2) l[j / 2] (by simp [hq]) (j % 2) (by omega)
  rw [show j / 2 * 2 + j % 2 = j by omega, h] at hg
  exact ⟨l[j / 2], by simp [hq], hg.symm⟩
theorem one_adrs (l : List Adr) : ∀ u ∈ adrCells l, u.oneCell' = true := by
  intro u hu
  unfold adrCells at hu
  obtain ⟨m, _, hm⟩ := List.mem_flatMap.1 hu
  simp at hm
  rcases hm with rfl | rfl <;> rfl
theorem adrs_of_own {w : World} {base n c : Nat} {A : Option Addr} {l : List Adr} (h : w.ownsRow base 28 2 (.slice A n c) n (adrCells l)) (hl : l.length = n) : AdrsAt w A l := by
  intro j a hj
  have hjl : j < l.length := (List.getElem?_eq_some_iff.1 hj).1
  obtain ⟨g, c2, e, _, _⟩ := h.form (by omega)
  obtain ⟨rfl, _, rfl⟩ := Value.slice.inj e
  have hc : ∀ i, i < 2 → w.cell? ⟨g, 0 + j * 2 + i, none⟩ = ([Value.string a.loc, .string a.dom] : List Value)[i]? := fun i hi => by
    rw [Nat.zero_add]
    exact (h.cellAt (j * 2 + i) (by omega)).trans (adrCells_get l j a hj i hi)
  exact ⟨g, 0, rfl, hc 0 (by decide), hc 1 (by decide)⟩
theorem own_sliceA {w : World} {base e size n : Nat} {v : Value} {xs : List Value} (h : w.ownsRow base e size v n xs) : ∃ A c, v = .slice A n c := by
  rcases h.2 with ⟨h1, h2⟩ | ⟨g, cap, cur, h1, _⟩
  · exact ⟨none, 0, by rw [h1, h2]⟩
  · exact ⟨_, cap, h1⟩
set_option maxRecDepth 100000 in
set_option maxHeartbeats 1000000 in
theorem cloneA_calls (A : Option Addr) (c : Nat) (l : List Adr) (w : World) (hA : AdrsAt w A l) (hn : A = none → c = 0) (hb : l.length ≤ 1000) :
    Calls Tryd.prog 16 #[.slice A l.length c] w fun e w' => ∃ A2 c2, e = .returned (.slice A2 l.length c2) ∧ w'.ownsRow w.heap.size 28 2 (.slice A2 l.length c2) l.length (adrCells l) ∧ Below w.heap.size w w' := by
  obtain ⟨i0, hi, hz0, hz1, hz2⟩ := info_parts info_adr
  have hl := adrCells_len l
  have hcs : ∀ (j : Nat) u, (adrCells l)[j]? = some u → ∃ b off, A = some ⟨b, off, none⟩ ∧ w.cell? ⟨b, off + j, none⟩ = some u := fun j u hj => by
    obtain ⟨a, ha, hu⟩ := adrCells_split l j u hj
    obtain ⟨g, off, e, c0, c1⟩ := hA (j / 2) a ha
    refine ⟨g, off, e, ?_⟩
    have hm : j % 2 = 0 ∨ j % 2 = 1 := by omega
    rcases hm with hm | hm
    · rw [hm] at hu
      rw [show off + j = off + j / 2 * 2 by omega, c0]
      simpa using hu
    · rw [hm] at hu
      rw [show off + j = off + j / 2 * 2 + 1 by omega, c1]
      simpa using hu
  have hno := fun h => adrs_none hA h
  have h1 := one_adrs l
  cases A with
  | none =>
    obtain rfl := hno rfl
    obtain rfl := hn rfl
    have hq : ∀ W, (binOp .eql 31 (.slice none 0 0) (.slice none 0 0)).run Tryd.prog W = .ok (.bool true) W := fun W => Lib.run_eql_slice_nil W 31 28 none 0 0 0 0 Tryd.underlying31
    clear hA hcs hno h1 hl
    go_enter Tryd.func16, Tryd.ntmps16
    go_wp2
    go_ret
    exact ⟨none, 0, rfl, World.ownsRow_nil _ _ _ _, Below.refl _ _⟩
  | some a =>
    generalize hxs : adrCells l = xs at *
    have Hxs := Lib.hid hxs
    generalize hnn : l.length = n at *
    have Hnn := Lib.hid hnn
    have hbA : Below w.heap.size w (w.alloc (.cells #[] 28)) := (Below.refl _ w).alloc (Nat.le_refl _) _
    have hr0 := World.ownsRow_lit (base := w.heap.size) (e := 28) (size := 2) w #[] 0 (Nat.le_refl _) (by decide) rfl
    have hnw : ∀ (j : Nat) u, xs[j]? = some u → (w.alloc (.cells #[] 28)).cell? (a.add j) = some u := fun j u hj => by
      obtain ⟨b, off, e, hc⟩ := hcs j u hj
      obtain rfl := Option.some.inj e
      rw [add_plain rfl]
      exact cell_later hbA hc
    have Hnw := Lib.hid hnw
    have H1 := Lib.hid h1
    have hq : ∀ W, (binOp .eql 31 (.slice (some a) n c) (.slice none 0 0)).run Tryd.prog W = .ok (.bool false) W := fun W => Lib.run_eql_slice_nil W 31 28 (some a) n c 0 0 Tryd.underlying31
    clear hnw hA h1 hno hcs hxs hnn hn
    go_enter Tryd.func16, Tryd.ntmps16
    go_wp2_with (at_builtin; refine wpList_append_own _ rfl _ _ 31 rfl w.heap.size 28 i0 (.agg #[.string ByteArray.empty, .string ByteArray.empty]) 2 32 Tryd.underlying31 hi hz0 hz1 hz2 rfl (by decide) (.slice (some ⟨w.heap.size, 0, none⟩) 0 0) 0 [] rfl hr0 a n c xs rfl (by omega) Hnw.out H1.out (by unfold maxLen; omega) (by omega) (by simp) ?_; intro v' w1 hown' hgrow _; rw [Nat.zero_add, List.nil_append] at hown'; have hb2 := hbA.grown hgrow (by simp) (by intro k e; simp [Value.ownBlock] at e; omega); obtain ⟨A2, c2, rfl⟩ := own_sliceA hown'; have Hown := Lib.hid hown'; have Hb2 := Lib.hid hb2; clear hown' hgrow hb2)
    go_ret
    exact ⟨A2, c2, by first | rfl | (rw [Hnn.out]; rfl), by first | exact Hown.out | (rw [Hnn.out, Hxs.out]; exact Hown.out), Hb2.out⟩
set_option maxRecDepth 100000 in
set_option maxHeartbeats 1000000 in
theorem indexA_calls (a : Adr) (A : Option Addr) (c : Nat) (l : List Adr) (w : World) (hA : AdrsAt w A l) (hb : l.length ≤ 1000) :
    Calls Tryd.prog 30 #[.slice A l.length c, .agg #[.string a.loc, .string a.dom]] w fun e w' => ∃ k : Int, e = .returned (.int .i64 k) ∧ (0 ≤ k ↔ a ∈ l) ∧ Below w.heap.size w w' := by
  have hbA : Below w.heap.size w (w.alloc (.cells #[.string a.loc, .string a.dom] 28)) := (Below.refl _ w).alloc (Nat.le_refl _) _
  have hX := Bk.new w [.string a.loc, .string a.dom] 28
  have HX := Lib.hid hX
  have HbA := Lib.hid hbA
  have HA := Lib.hid (hA.later hbA)
  clear hX hbA hA
  go_enter Tryd.func30, Tryd.ntmps30
  go_upto_region 2 with fail
  generalize w.alloc (.cells #[.string a.loc, .string a.dom] 28) = w1 at *
  go_loopw [8] (fun i wr => ∃ k : Nat, k ≤ l.length ∧ i = .int .i64 k ∧ Hid (a ∉ l.take k) ∧ Hid (Below w1.heap.size w1 wr)) (fun i _ => l.length - (intOf i).toNat)
  case atStart => exact ⟨0, Nat.zero_le _, rfl, Lib.hid (by simp), Lib.hid (Below.refl _ _)⟩
  case round =>
    obtain ⟨k, hk, rfl, Hno, Hb⟩ := hrel
    by_cases hlt : k < l.length
    · obtain ⟨g, off, hA1, c0, c1⟩ := (HA.out.later Hb.out) k l[k] (by simp [hlt])
      have htk : l.take (k + 1) = l.take k ++ [l[k]] := by rw [List.take_succ_eq_append_getElem hlt]
      have hmem : l[k] ∈ l := List.getElem_mem hlt
      have x0 := (HX.out.later Hb.out).cell 0 _ rfl
      have x1 := (HX.out.later Hb.out).cell 1 _ rfl
      generalize l[k] = b at *
      have hk0 : (0 : Int) ≤ (k : Int) := by omega
      have hkn : (k : Int) < (l.length : Int) := by omega
      have Htk := Lib.hid htk
      have Hmem := Lib.hid hmem
      clear htk hmem
      subst hA1
      by_cases hab : a = b
      · subst hab
        go_upto_region 4 with fail
        go_quiet (fail)
        clear c0 c1 x0 x1
        go_wp2_with fail
        go_ret
        exact ⟨(k : Int), rfl, ⟨fun _ => Hmem.out, fun _ => by omega⟩, (btr HbA.out Hb.out).trans (show Below w.heap.size wr (wr.drewN nq) from ⟨rfl, rfl, rfl, Nat.le_refl _, fun _ _ => rfl⟩)⟩
      · have hnb : a ∉ l.take (k + 1) := by
          rw [Htk.out]
          intro h
          rcases List.mem_append.1 h with h | h
          · exact Hno.out h
          · exact hab (by simpa using h)
        have Hnb := Lib.hid hnb
        clear hnb
        by_cases h1 : a.loc = b.loc
        · have h2 : a.dom ≠ b.dom := fun e => hab (by cases a; cases b; simp only at h1 e; rw [h1, e])
          have e1 : (a.loc.toList == b.loc.toList) = true := by rw [h1, beq_self_eq_true]
          have e2 : (a.dom.toList == b.dom.toList) = false := by
            rw [toList_bs, toList_bs, beq_eq_false_iff_ne]
            intro h
            exact h2 (by rw [← mkS_bs a.dom, h, mkS_bs])
          clear h1 h2 hab
          go_upto_region 4 with fail
          go_quiet (fail)
          clear c0 c1 x0 x1 e1 e2
          have Hb2 := Lib.hid (btr Hb.out (show Below wr.heap.size wr (wr.drewN nq) from ⟨rfl, rfl, rfl, Nat.le_refl _, fun _ _ => rfl⟩))
          go_wp2_with fail
          go_roundw
          case rel => exact ⟨k + 1, by omega, by go_num, Hnb, Hb2⟩
          case measure => simp [intOf]; omega
        · have e1 : (a.loc.toList == b.loc.toList) = false := by
            rw [toList_bs, toList_bs, beq_eq_false_iff_ne]
            intro h
            exact h1 (by rw [← mkS_bs a.loc, h, mkS_bs])
          clear h1 hab
          go_upto_region 4 with fail
          go_quiet (fail)
          clear c0 c1 x0 x1 e1
          have Hb2 := Lib.hid (btr Hb.out (show Below wr.heap.size wr (wr.drewN nq) from ⟨rfl, rfl, rfl, Nat.le_refl _, fun _ _ => rfl⟩))
          go_wp2_with fail
          go_roundw
          case rel => exact ⟨k + 1, by omega, by go_num, Hnb, Hb2⟩
          case measure => simp [intOf]; omega
    · obtain rfl : k = l.length := by omega
      have hno := Hno.out
      rw [List.take_length] at hno
      have Hno2 := Lib.hid hno
      clear hno
      go_wp2_with fail
      go_ret
      exact ⟨-1, rfl, ⟨fun h => by omega, fun h => absurd h Hno2.out⟩, btr HbA.out Hb.out⟩
set_option maxRecDepth 100000 in
set_option maxHeartbeats 1000000 in
theorem containsA_calls (a : Adr) (A : Option Addr) (c : Nat) (l : List Adr) (w : World) (hA : AdrsAt w A l) (hb : l.length ≤ 1000) :
    Calls Tryd.prog 20 #[.slice A l.length c, .agg #[.string a.loc, .string a.dom]] w fun e w' => e = .returned (.bool (decide (a ∈ l))) ∧ Below w.heap.size w w' := by
  have hbA : Below w.heap.size w (w.alloc (.cells #[.string a.loc, .string a.dom] 28)) := (Below.refl _ w).alloc (Nat.le_refl _) _
  have hX := Bk.new w [.string a.loc, .string a.dom] 28
  have hix := indexA_calls a A c l _ (hA.later hbA) hb
  have x0 := hX.cell 0 _ rfl
  have x1 := hX.cell 1 _ rfl
  have Hix := Lib.hid hix
  clear hX hA hix
  go_enter Tryd.func20, Tryd.ntmps20
  go_wp2_with fail
  refine Hix.out.mono ?_
  rintro e w1 ⟨k, rfl, hk, hb1⟩
  by_cases h : a ∈ l
  · have Hk := Lib.hid (decide_eq_true (hk.2 h))
    have Hd := Lib.hid (decide_eq_true h)
    clear hk h x0 x1
    go_wp2_with fail
    go_ret
    exact ⟨by rw [Hd.out, ← Hk.out]; rfl, btr hbA hb1⟩
  · have h0 : ¬ (0 : Int) ≤ k := fun h0 => h (hk.1 h0)
    have Hd := Lib.hid (decide_eq_false h)
    have Hk := Lib.hid (decide_eq_false h0)
    clear hk h x0 x1 h0
    go_wp2_with fail
    go_ret
    exact ⟨by rw [Hd.out, ← Hk.out]; rfl, btr hbA hb1⟩
end Go.Proofs.YtokeblpdaomagaaDoor
