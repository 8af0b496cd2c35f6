/- What Show gives back of one command, token by token. -/
import Derived.Test.YtgmnoemkdigafaaDoorScrElseP
import Derived.Test.YtgmnoemkdigafaaDoorScrShow
namespace Go.Proofs.YtgmnoemkdigafaaDoor
open Go.RowKit
set_option linter.unusedVariables false
set_option linter.unusedSimpArgs false

/-- Tokens in memory. -/
def TokAt (w : World) (A : Option Addr) (l : List Tok) : Prop := l = [] ∨ ∃ g off, A = some ⟨g, off, none⟩ ∧ ∀ (j : Nat) (t : Tok), l[j]? = some t →
  w.cell? ⟨g, off + j * 3, none⟩ = some (.int .i64 t.kind) ∧ w.cell? ⟨g, off + j * 3 + 1, none⟩ = some (.string t.text) ∧ w.cell? ⟨g, off + j * 3 + 2, none⟩ = some (.int .i64 t.num)
theorem tokCells_get : ∀ (l : List Tok) (j : Nat) (t : Tok), l[j]? = some t → (tokCells l)[j * 3]? = some (.int .i64 t.kind) ∧ (tokCells l)[j * 3 + 1]? = some (.string t.text) ∧ (tokCells l)[j * 3 + 2]? = some (.int .i64 t.num)
  | [], j, t, h => by simp at h
  | a :: l, 0, t, h => by
    simp only [List.getElem?_cons_zero, Option.some.injEq] at h
    subst h
    exact ⟨rfl, rfl, rfl⟩
  | a :: l, j + 1, t, h => by
    simp only [List.getElem?_cons_succ] at h
    have h1 := tokCells_get l j t h
    rw [show (j + 1) * 3 = j * 3 + 3 by omega]
    exact h1
theorem tokAt_own {w : World} {B n c : Nat} {A : Option Addr} {l : List Tok} (hn : n = l.length) (h : w.ownsRow B 45 3 (.slice A n c) n (tokCells l)) : TokAt w A l := by
  rcases h.2 with ⟨h1, h2⟩ | ⟨g, cap, cur, h1, _, hg, h4, h5, h6, h7⟩
  · exact .inl (List.length_eq_zero_iff.1 (by omega))
  · simp only [Value.slice.injEq] at h1
    obtain ⟨rfl, _, _⟩ := h1
    refine .inr ⟨g, 0, rfl, fun j t hj => ?_⟩
    have hb : Bk w g cur.toList 45 := hg
    have hget : ∀ (i : Nat) (v : Value), (tokCells l)[i]? = some v → cur.toList[i]? = some v := fun i v hv => by
      rw [← h7, List.getElem?_take] at hv
      split at hv
      · exact hv
      · cases hv
    obtain ⟨e1, e2, e3⟩ := tokCells_get l j t hj
    rw [Nat.zero_add]
    exact ⟨hb.cell _ _ (hget _ _ e1), hb.cell _ _ (hget _ _ e2), hb.cell _ _ (hget _ _ e3)⟩
theorem tokAt_later {w w' : World} {A : Option Addr} {l : List Tok} (hb : Below w.heap.size w w') (h : TokAt w A l) : TokAt w' A l := by
  rcases h with h | ⟨g, off, e, hc⟩
  · exact .inl h
  · exact .inr ⟨g, off, e, fun j t hj => ⟨cell_later hb (hc j t hj).1, cell_later hb (hc j t hj).2.1, cell_later hb (hc j t hj).2.2⟩⟩
theorem chkS_one' (c : Cmd) (h : (cmdsTk [c]).length ≤ 400) (h0 : chkC c 0 = 0) : chkS [c] = 0 := by
  unfold chkS
  rw [chkCs_one, h0, if_neg (by simp), if_neg (by omega)]
theorem show_one (c : Cmd) (vs : List Value) (q : Nat) (w : World) (hok : okC c) (hv : CmdV w c vs) (hq : Bk w q vs 34) (htab : TabsAt w) (hl : (cmdsTk [c]).length ≤ 400) (h0 : chkC c 0 = 0) :
    Calls Tryd.prog 17 #[.slice (some ⟨q, 0, none⟩) 1 1] w fun e w' => ∃ (A : Option Addr) (cp : Nat), e = .returned (.tuple #[.slice A (cmdsTk [c]).length cp, .int .i64 0]) ∧ Hid (TokAt w' A (cmdsTk [c])) ∧ Below w.heap.size w w' := by
  have h := Show_calls [c] (okCs_one hok) (some ⟨q, 0, none⟩) 1 w (cmdsAt_one hv hq) htab (by simp) (by omega)
  refine h.mono ?_
  rintro e w' ⟨hs, hb⟩
  unfold showA at hs
  rw [if_pos (chkS_one' c hl h0)] at hs
  obtain ⟨A, cp, rfl, hrow⟩ := hs
  exact ⟨A, cp, rfl, Lib.hid (tokAt_own rfl hrow), hb⟩
theorem cntW_take {s : ByteArray} {l : List Tok} {j : Nat} {t : Tok} (h : l[j]? = some t) : cntW s (l.take (j + 1)) = cntW s (l.take j) + (if isW s t = true then 1 else 0) := by
  rw [List.take_add_one, h, Option.toList_some, cntW_append, cntW_cons, cntW_nil, Nat.zero_add]
theorem cntW_mem {s : ByteArray} {l : List Tok} (h : cntW s l = 0) {j : Nat} {t : Tok} (hj : l[j]? = some t) : isW s t = false := by
  have h1 := List.countP_eq_zero.1 h t (List.mem_of_getElem? hj)
  simpa using h1
theorem cntW_le (s : ByteArray) (l : List Tok) (j : Nat) : cntW s (l.take j) ≤ j := by
  have h := List.countP_le_length (p := isW s) (l := l.take j)
  rw [List.length_take] at h
  unfold cntW; omega
theorem eqS_no {a b : ByteArray} {l : List UInt8} (hb : b = mkS l) (h : a ≠ b) : (a.toList == l) = false := by
  subst hb
  rw [toList_bs, beq_eq_false_iff_ne]
  intro e
  exact h (by rw [← mkS_bs a, e])
theorem eqS_yes {a b : ByteArray} {l : List UInt8} (hb : b = mkS l) (h : a = b) : (a.toList == l) = true := by
  subst hb h
  rw [toList_bs, bs_mkS]
  simp
theorem bk_news {W : World} {q : Nat} {cs : List Value} {t : TypeId} (h : Bk W q cs t) : ∀ (j : Nat) (u : Value), cs[j]? = some u → W.cell? ((⟨q, 0, none⟩ : Addr).add j) = some u := by
  intro j u hu
  have hp : (⟨q, 0, none⟩ : Addr).add j = ⟨q, 0 + j, none⟩ := by unfold Addr.add; split <;> simp_all
  rw [hp, Nat.zero_add]
  exact h.cell j u hu
theorem own_oneS {W : World} {base q s : Nat} {cs : List Value} {t : TypeId} (h : Bk W q cs t) (hq : base ≤ q) (hs : cs.length = s) : W.ownsRow base t s (.slice (some ⟨q, 0, none⟩) 1 1) 1 cs :=
  ⟨by omega, .inr ⟨q, 1, cs.toArray, rfl, hq, h, Nat.le_refl _, by decide, by simp; omega, by rw [Nat.one_mul, ← hs]; simp⟩⟩
theorem own_bkS {W : World} {base e s n : Nat} {v : Value} {xs : List Value} (hn : 0 < n) (h : W.ownsRow base e s v n xs) : ∃ g cap, v = .slice (some ⟨g, 0, none⟩) n cap ∧ base ≤ g ∧ n ≤ cap ∧ ∃ cs, Bk W g cs e ∧ cs.take (n * s) = xs := by
  rcases h.2 with ⟨_, h1⟩ | ⟨g', cap', cur, h1, h2, h3, h4, h5, h6, h7⟩
  · omega
  · refine ⟨g', cap', h1, h2, h4, cur.toList, ?_, h7⟩
    show W.heap[g']? = _
    rw [h3]
def keepV : List Value := [.int .i64 3, .slice none 0 0, .int .i64 0, .int .i64 0, .int .i64 0, .slice none 0 0, .slice none 0 0, .bool false, .int .i64 0, .slice none 0 0, .slice none 0 0, .slice none 0 0]
theorem cmdV_keep (W : World) : CmdV W (.mk 3 [] zeroT [] []) keepV := by
  unfold CmdV
  refine ⟨none, 0, [.int .i64 0, .int .i64 0, .int .i64 0, .slice none 0 0, .slice none 0 0, .bool false, .int .i64 0, .slice none 0 0], none, 0, none, 0, rfl, .inl rfl, ?_, by unfold CmdsAt; trivial, by unfold CmdsAt; trivial, by simp⟩
  unfold zeroT TestV
  exact ⟨none, 0, none, 0, none, 0, rfl, .inl rfl, .inl rfl, by unfold TestsAt; trivial, by simp⟩
theorem cmdsAt_two {W : World} {g : Nat} {c1 c2 : Cmd} {v1 v2 cs : List Value} {t : TypeId} (h1 : CmdV W c1 v1) (h2 : CmdV W c2 v2) (l1 : v1.length = 12) (l2 : v2.length = 12) (hb : Bk W g cs t) (ht : cs.take 24 = v1 ++ v2) : CmdsAt W [c1, c2] (some ⟨g, 0, none⟩) := by
  have hg : ∀ (i : Nat) (v : Value), (v1 ++ v2)[i]? = some v → W.cell? ⟨g, i, none⟩ = some v := fun i v hv => by
    rw [← ht, List.getElem?_take] at hv
    split at hv
    · exact hb.cell i v hv
    · cases hv
  unfold CmdsAt
  refine ⟨g, 0, v1, rfl, fun i v hi => ?_, h1, ?_⟩
  · rw [Nat.zero_add]
    refine hg i v ?_
    rw [List.getElem?_append_left (by have := (List.getElem?_eq_some_iff.1 hi).1; omega)]
    exact hi
  · unfold CmdsAt
    refine ⟨g, 0 + 12, v2, rfl, fun i v hi => ?_, h2, by unfold CmdsAt; trivial⟩
    refine hg (0 + 12 + i) v ?_
    rw [List.getElem?_append_right (by omega), show 0 + 12 + i - v1.length = i by omega]
    exact hi
theorem info_cmd : (Tryd.prog.info? 34).map (fun i => (i.zero, i.size, i.bytes)) = some (some (.agg #[.int .i64 0, .slice none 0 0, .int .i64 0, .int .i64 0, .int .i64 0, .slice none 0 0, .slice none 0 0, .bool false, .int .i64 0, .slice none 0 0, .slice none 0 0, .slice none 0 0]), 12, 192) := by kernel_rfl
end Go.Proofs.YtgmnoemkdigafaaDoor
