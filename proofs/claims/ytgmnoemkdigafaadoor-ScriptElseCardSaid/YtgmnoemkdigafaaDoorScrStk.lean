/- Raw numbers for scripts (a stick) and the test that is made of them. -/
import Derived.Test.YtgmnoemkdigafaaDoorScrDeepP
import Derived.Test.YtgmnoemkdigafaaDoorScrMk
import Derived.Test.YtgmnoemkdigafaaDoorScrPut
import Derived.Test.YtgmnoemkdigafaaDoorWord
import Derived.Test.YtgmnoemkdigafaaDoorCut
namespace Go.Proofs.YtgmnoemkdigafaaDoor
open Go.RowKit
set_option linter.unusedVariables false

inductive Stk where
  | mk (kind a b : Int) (s t : ByteArray) (inn : List Stk)
def shortS (s : ByteArray) : ByteArray := cutS s 12
def wordS (s : ByteArray) : ByteArray := mkS (wordL (bs s))
/-- The names that a header's test may have; an envelope's; one that exists. -/
def hdrN (b : Int) : ByteArray := mkS (([[115, 117, 98, 106, 101, 99, 116], [116, 111], [102, 114, 111, 109], [120]] : List (List UInt8)).getD (pickN b 4) [])
def envN (b : Int) : ByteArray := mkS (([[102, 114, 111, 109], [116, 111]] : List (List UInt8)).getD (pickN b 2) [])
def exiN (a : Int) : ByteArray := mkS (([[115, 117, 98, 106, 101, 99, 116], [116, 111], [99, 99]] : List (List UInt8)).getD (pickN a 3) [])
def keysT (a : Int) (s t : ByteArray) : List ByteArray := if pickN a 2 = 1 then [shortS s, shortS t] else [shortS s]
def namesE (a b : Int) (s : ByteArray) : List ByteArray := [exiN a, wordS s].take (1 + pickN b 2)
/-- A test that asks for no other ones. -/
def leafT (k : Int) : Stk → Tst
  | .mk _ a b s t _ =>
    if k = 6 then .mk 6 (1 + pickN a 3) 0 [hdrN b] (keysT a s t) false 0 []
    else if k = 7 then .mk 7 (1 + pickN a 3) (1 + pickN b 3) [hdrN b] (keysT a s t) false 0 []
    else if k = 8 then .mk 8 (1 + pickN a 3) (1 + pickN b 3) [envN b] (keysT a s t) false 0 []
    else if k = 9 then .mk 9 0 0 (namesE a b s) [] false 0 []
    else if k = 10 then .mk 10 0 0 [] [] (decide (pickN a 2 = 1)) (pickN b 400) []
    else .mk k 0 0 [] [] false 0 []
/-- A stick's kind of test: 0 to 9, and one more. -/
def Stk.k0 : Stk → Int
  | .mk k _ _ _ _ _ => 1 + pickN k 10
def Stk.fst : Stk → Stk
  | .mk _ a _ _ _ inn => match inn with
    | [] => .mk a 0 0 (mkS []) (mkS []) []
    | x :: _ => x
def Stk.inn : Stk → List Stk
  | .mk _ _ _ _ _ l => l
def Stk.a : Stk → Int
  | .mk _ a _ _ _ _ => a
/-- The test of a stick, that may have tests of its own n deep. -/
def testN : Nat → Stk → Tst
  | 0, x => leafT (if 3 ≤ x.k0 ∧ x.k0 ≤ 5 then 1 else x.k0) x
  | n + 1, x =>
    if x.k0 = 3 then .mk 3 0 0 [] [] false 0 [testN n x.fst]
    else if 3 ≤ x.k0 ∧ x.k0 ≤ 5 then .mk x.k0 0 0 [] [] false 0 (if x.inn = [] then [.mk (1 + pickN x.a 2) 0 0 [] [] false 0 []] else (x.inn.take 3).map (testN n))
    else leafT x.k0 x
theorem keysT_len (a : Int) (s t : ByteArray) : 0 < (keysT a s t).length ∧ (keysT a s t).length ≤ 2 := by
  unfold keysT; split <;> simp
theorem namesE_len (a b : Int) (s : ByteArray) : 0 < (namesE a b s).length ∧ (namesE a b s).length ≤ 2 := by
  unfold namesE; rw [List.length_take]; simp only [List.length_cons, List.length_nil]; omega
theorem okT_mk {k m p lm : Int} {ns ks : List ByteArray} {o : Bool} {ts : List Tst} (h1 : 1 ≤ k) (h2 : k ≤ 10) (h3 : formT k m p ns.length ks.length o lm ts.length = true) (h4 : okTs ts) : okT (.mk k m p ns ks o lm ts) := by
  unfold okT; exact ⟨h1, h2, h3, h4⟩
theorem okTs_nil : okTs [] := by unfold okTs; trivial
theorem okT_leafT (k : Int) (h1 : 1 ≤ k) (h2 : k ≤ 10) (h3 : ¬ (3 ≤ k ∧ k ≤ 5)) (x : Stk) : okT (leafT k x) := by
  obtain ⟨k', a, b, s, t, inn⟩ := x
  have ha := pickN_lt a 3 (by decide)
  have hb := pickN_lt b 3 (by decide)
  have hl := pickN_lt b 400 (by decide)
  obtain ⟨y1, y2⟩ := keysT_len a s t
  obtain ⟨z1, z2⟩ := namesE_len a b s
  unfold leafT
  dsimp only
  split
  · refine okT_mk (by decide) (by decide) ?_ okTs_nil
    generalize (keysT a s t).length = n at *
    generalize pickN a 3 = q at *
    unfold formT; simp; omega
  split
  · refine okT_mk (by decide) (by decide) ?_ okTs_nil
    generalize (keysT a s t).length = n at *
    generalize pickN a 3 = q at *
    generalize pickN b 3 = r at *
    unfold formT; simp; omega
  split
  · refine okT_mk (by decide) (by decide) ?_ okTs_nil
    generalize (keysT a s t).length = n at *
    generalize pickN a 3 = q at *
    generalize pickN b 3 = r at *
    unfold formT; simp; omega
  split
  · refine okT_mk (by decide) (by decide) ?_ okTs_nil
    generalize (namesE a b s).length = n at *
    unfold formT; simp; omega
  split
  · refine okT_mk (by decide) (by decide) ?_ okTs_nil
    generalize pickN b 400 = n at *
    unfold formT; simp; omega
  · refine okT_mk h1 h2 ?_ okTs_nil
    unfold formT; simp; omega
theorem okTs_map {α : Type} (f : α → Tst) (h : ∀ x, okT (f x)) : ∀ l : List α, okTs (l.map f)
  | [] => okTs_nil
  | x :: l => by
    rw [List.map_cons]; unfold okTs
    exact ⟨h x, okTs_map f h l⟩
theorem k0_le (x : Stk) : 1 ≤ x.k0 ∧ x.k0 ≤ 10 := by
  obtain ⟨k, _⟩ := x
  have := pickN_lt k 10 (by decide)
  show 1 ≤ 1 + (pickN k 10 : Int) ∧ 1 + (pickN k 10 : Int) ≤ 10
  omega
theorem okT_testN : ∀ (n : Nat) (x : Stk), okT (testN n x)
  | 0, x => by
    obtain ⟨h1, h2⟩ := k0_le x
    unfold testN
    exact okT_leafT _ (by split <;> omega) (by split <;> omega) (by split <;> omega) x
  | n + 1, x => by
    obtain ⟨h1, h2⟩ := k0_le x
    unfold testN
    split
    · refine okT_mk (by decide) (by decide) rfl ?_
      unfold okTs; exact ⟨okT_testN n _, okTs_nil⟩
    split
    · rename_i h3 h4
      refine okT_mk h1 h2 ?_ ?_
      · have hp : 0 < (if x.inn = [] then [(.mk (1 + pickN x.a 2) 0 0 [] [] false 0 [] : Tst)] else (x.inn.take 3).map (testN n)).length := by
          split
          · simp
          · rename_i h
            rw [List.length_map, List.length_take]
            have : 0 < x.inn.length := List.length_pos_iff.2 h
            omega
        generalize (if x.inn = [] then [(.mk (1 + pickN x.a 2) 0 0 [] [] false 0 [] : Tst)] else (x.inn.take 3).map (testN n)).length = q at *
        unfold formT
        simp only [List.length_nil]
        rw [if_pos h4]
        simp [h3, hp, show ¬ (6 ≤ x.k0) by omega]
        omega
      · split
        · unfold okTs
          have := pickN_lt x.a 2 (by decide)
          refine ⟨okT_mk (by omega) (by omega) ?_ okTs_nil, okTs_nil⟩
          unfold formT; simp; omega
        · exact okTs_map _ (okT_testN n) _
    · exact okT_leafT _ h1 h2 (by omega) x
/-- How many tokens a stick's test has, at most. -/
def maxTk : Nat → Nat
  | 0 => 12
  | n + 1 => 3 * (1 + maxTk n) + 2
theorem listTk_le2 (l : List ByteArray) (h : l.length ≤ 2) : (listTk l).length ≤ 5 := by
  match l, h with
  | [], _ => simp [listTk, listTks]
  | [s], _ => simp [listTk]
  | [a, b], _ => simp [listTk, listTks]
theorem leafTk_le (k : Int) (h3 : ¬ (3 ≤ k ∧ k ≤ 5)) (h1 : 1 ≤ k) (h2 : k ≤ 10) (x : Stk) : (testTk (leafT k x)).length ≤ 12 := by
  obtain ⟨k', a, b, s, t, inn⟩ := x
  have y := listTk_le2 _ (keysT_len a s t).2
  have z := listTk_le2 _ (namesE_len a b s).2
  have e1 : (listTk [hdrN b]).length = 1 := rfl
  have e2 : (listTk [envN b]).length = 1 := rfl
  unfold leafT
  dsimp only
  split
  · rw [testTk]; simp [e1]; omega
  split
  · rw [testTk]; simp [e1]; omega
  split
  · rw [testTk]; simp [e2]; omega
  split
  · rw [testTk]; simp; omega
  split
  · rw [testTk]; simp
  · rw [testTk]
    rw [if_neg (by omega), if_neg (by omega), if_neg (by omega), if_neg (by omega)]
    simp
theorem testsTk_le (M : Nat) : ∀ (l : List Tst) (i : Nat), (∀ t ∈ l, (testTk t).length ≤ M) → (testsTk i l).length ≤ l.length * (M + 1)
  | [], i, _ => by simp [testsTk]
  | t :: l, i, h => by
    have h1 := testsTk_le M l (i + 1) (fun t ht => h t (by simp [ht]))
    have h2 := h t (by simp)
    rw [testsTk]
    simp only [List.length_cons, List.length_append]
    rw [Nat.add_mul]; omega
theorem maxTk_ge : ∀ n, 12 ≤ maxTk n
  | 0 => by simp [maxTk]
  | n + 1 => by
    have := maxTk_ge n
    simp only [maxTk]; omega
theorem testNTk_le : ∀ (n : Nat) (x : Stk), (testTk (testN n x)).length ≤ maxTk n
  | 0, x => by
    obtain ⟨h1, h2⟩ := k0_le x
    unfold testN
    exact leafTk_le _ (by split <;> omega) (by split <;> omega) (by split <;> omega) x
  | n + 1, x => by
    obtain ⟨h1, h2⟩ := k0_le x
    have hM := maxTk_ge n
    unfold testN
    split
    · rw [testTk, if_pos (.inl rfl), if_pos rfl, testsTk1]
      have := testNTk_le n x.fst
      simp only [List.length_cons, maxTk]; omega
    split
    · rename_i h3 h4
      rw [testTk, if_pos (by omega), if_neg h3]
      have hl : (if x.inn = [] then [(.mk (1 + pickN x.a 2) 0 0 [] [] false 0 [] : Tst)] else (x.inn.take 3).map (testN n)).length ≤ 3 := by
        split
        · simp
        · rw [List.length_map, List.length_take]; omega
      have hm : ∀ t ∈ (if x.inn = [] then [(.mk (1 + pickN x.a 2) 0 0 [] [] false 0 [] : Tst)] else (x.inn.take 3).map (testN n)), (testTk t).length ≤ maxTk n := by
        split
        · intro t ht
          obtain rfl := List.mem_singleton.1 ht
          have := pickN_lt x.a 2 (by decide)
          rw [testTk, if_neg (by omega), if_neg (by omega), if_neg (by omega), if_neg (by omega)]
          simp; omega
        · intro t ht
          obtain ⟨y, _, rfl⟩ := List.mem_map.1 ht
          exact testNTk_le n y
      have h5 := testsTk_le (maxTk n) _ 0 hm
      generalize (if x.inn = [] then [(.mk (1 + pickN x.a 2) 0 0 [] [] false 0 [] : Tst)] else (x.inn.take 3).map (testN n)) = l at *
      have h6 : l.length * (maxTk n + 1) ≤ 3 * (maxTk n + 1) := Nat.mul_le_mul_right _ hl
      simp only [List.length_cons, List.length_append, List.length_nil, maxTk]
      omega
    · exact Nat.le_trans (leafTk_le _ (by omega) h1 h2 x) (by simp only [maxTk]; omega)
/-- A stick in memory. -/
def StkB (k a b : Int) (s t : ByteArray) (n c : Nat) : Prop := (Lit.int .i64 k).wf = true ∧ (Lit.int .i64 a).wf = true ∧ (Lit.int .i64 b).wf = true ∧ s.size ≤ maxLen ∧ t.size ≤ maxLen ∧ n ≤ c ∧ c ≤ maxLen
mutual
def StkV (w : World) : Stk → List Value → Prop
  | .mk k a b s t inn, vs => ∃ A c, vs = [.int .i64 k, .int .i64 a, .int .i64 b, .string s, .string t, .slice A inn.length c] ∧ StksAt w inn A ∧ StkB k a b s t inn.length c
def StksAt (w : World) : List Stk → Option Addr → Prop
  | [], _ => True
  | x :: l, A => ∃ b off vs, A = some ⟨b, off, none⟩ ∧ (∀ i v, vs[i]? = some v → w.cell? ⟨b, off + i, none⟩ = some v) ∧ StkV w x vs ∧ StksAt w l (some ⟨b, off + 6, none⟩)
end
section
variable {w w' : World}
mutual
theorem stkV_later (hb : Below w.heap.size w w') : ∀ (t : Stk) (vs : List Value), StkV w t vs → StkV w' t vs
  | .mk k a b s t inn, vs, h => by
    unfold StkV at h ⊢
    obtain ⟨A, c, rfl, h1, h2⟩ := h
    exact ⟨A, c, rfl, stksAt_later hb inn A h1, h2⟩
theorem stksAt_later (hb : Below w.heap.size w w') : ∀ (l : List Stk) (A : Option Addr), StksAt w l A → StksAt w' l A
  | [], _, _ => by unfold StksAt; trivial
  | t :: l, A, h => by
    unfold StksAt at h ⊢
    obtain ⟨b, off, vs, rfl, h1, h2, h3⟩ := h
    exact ⟨b, off, vs, rfl, fun i v hi => cell_later hb (h1 i v hi), stkV_later hb t vs h2, stksAt_later hb l _ h3⟩
end
theorem stksAt_get : ∀ (l : List Stk) (b off j : Nat) (t : Stk), StksAt w l (some ⟨b, off, none⟩) → l[j]? = some t → ∃ vs, (∀ i v, vs[i]? = some v → w.cell? ⟨b, off + j * 6 + i, none⟩ = some v) ∧ StkV w t vs
  | [], b, off, j, t, h, hj => by simp at hj
  | s :: l, b, off, 0, t, h, hj => by
    unfold StksAt at h
    obtain ⟨b', off', vs, e, h1, h2, h3⟩ := h
    cases e
    simp only [List.getElem?_cons_zero, Option.some.injEq] at hj
    subst hj
    exact ⟨vs, by simpa using h1, h2⟩
  | s :: l, b, off, j + 1, t, h, hj => by
    unfold StksAt at h
    obtain ⟨b', off', vs, e, h1, h2, h3⟩ := h
    cases e
    obtain ⟨us, h4, h5⟩ := stksAt_get l b (off + 6) j t h3 (by simpa using hj)
    exact ⟨us, fun i v hi => by have := h4 i v hi; rwa [show off + (j + 1) * 6 + i = off + 6 + j * 6 + i by omega], h5⟩
end
/-- What lies from block B on is as it was. -/
def New (B : Nat) (w W : World) : Prop := ∀ k, B ≤ k → k < w.heap.size → W.heap[k]? = w.heap[k]?
theorem New.refl (B : Nat) (w : World) : New B w w := fun _ _ _ => rfl
theorem New.mono {B C : Nat} {w W : World} (h : New B w W) (hBC : B ≤ C) : New C w W := fun k h1 h2 => h k (Nat.le_trans hBC h1) h2
theorem New.of_below {B : Nat} {w W : World} (h : Below w.heap.size w W) : New B w W := fun k _ h2 => h.block k h2
theorem Bk.neu {B q : Nat} {w W : World} {cs : List Value} {t : TypeId} (h : Bk w q cs t) (hn : New B w W) (hB : B ≤ q) : Bk W q cs t := (hn q hB h.lt).trans h
theorem New.trans {B : Nat} {w x y : World} (h : New B w x) (k : New B x y) (hs : w.heap.size ≤ x.heap.size) : New B w y := fun i h1 h2 => (k i h1 (by omega)).trans (h i h1 h2)
theorem info_string : (Tryd.prog.info? 9).map (fun i => (i.zero, i.size, i.bytes)) = some (some (.string ByteArray.empty), 1, 16) := by kernel_rfl
theorem bk_ne {W : World} {q q' : Nat} {cs cs' : List Value} {t t' : TypeId} (h : Bk W q cs t) (h' : Bk W q' cs' t') (hne : t ≠ t') : q ≠ q' := by
  rintro rfl
  unfold Bk at h h'
  rw [h] at h'
  have := Option.some.inj h'
  simp only [Obj.cells.injEq] at this
  exact hne this.2.1
/-- What a row of one's own is, as a block. -/
theorem own_bk {W : World} {base e n g cap : Nat} {xs : List Value} (h : W.ownsRow base e 1 (.slice (some ⟨g, 0, none⟩) n cap) n xs) : base ≤ g ∧ n ≤ cap ∧ ∃ cs, Bk W g cs e ∧ cs.take n = xs := by
  rcases h.2 with ⟨h1, _⟩ | ⟨g', cap', cur, h1, h2, h3, h4, h5, h6, h7⟩
  · cases h1
  · simp only [Value.slice.injEq, Option.some.injEq, Addr.mk.injEq, and_true, true_and] at h1
    obtain ⟨rfl, rfl⟩ := h1
    refine ⟨h2, h4, cur.toList, ?_, by simpa using h7⟩
    show W.heap[g]? = _
    rw [h3]
theorem own_one {W : World} {base q : Nat} {v : Value} {t : TypeId} (h : Bk W q [v] t) (hq : base ≤ q) : W.ownsRow base t 1 (.slice (some ⟨q, 0, none⟩) 1 1) 1 [v] :=
  ⟨rfl, .inr ⟨q, 1, #[v], rfl, hq, h, Nat.le_refl _, by decide, rfl, rfl⟩⟩
theorem bk_newN (W : World) (n : Nat) (cs : List Value) (t : TypeId) (h : W.heap.size = n) : Bk (W.alloc (.cells cs.toArray t)) n cs t := by
  subst h
  exact Bk.new W cs t
/-- A string out of a literal list, at a place that is not known. -/
theorem cell_getD {W : World} {q : Nat} {l : List (List UInt8)} {t : TypeId} (h : Bk W q (l.map fun x => .string (mkS x)) t) (i : Nat) (hi : i < l.length) : W.cell? ⟨q, i, none⟩ = some (.string (mkS (l.getD i []))) := by
  refine h.cell i _ ?_
  rw [List.getElem?_map, List.getD_eq_getElem?_getD, List.getElem?_eq_getElem hi]; rfl
theorem getD_str (l : List (List UInt8)) (i : Nat) (hi : i < l.length) : (l.map fun x => Value.string (mkS x))[i]? = some (.string (mkS (l.getD i []))) := by
  rw [List.getElem?_map, List.getD_eq_getElem?_getD, List.getElem?_eq_getElem hi]; rfl
theorem namesE_at {W : World} {q : Nat} {a b : Int} {s : ByteArray} {t : TypeId} (h : Bk W q [.string (exiN a), .string (wordS s)] t) : TxAt W (some ⟨q, 0, none⟩) (namesE a b s) :=
  .inr ⟨q, 0, rfl, fun j s' hj => by
    unfold namesE at hj
    rw [List.getElem?_take] at hj
    split at hj
    · match j, hj with
      | 0, hj =>
        obtain rfl : exiN a = s' := by simpa using hj
        exact h.cell 0 _ rfl
      | 1, hj =>
        obtain rfl : wordS s = s' := by simpa using hj
        exact h.cell 1 _ rfl
      | j + 2, hj => simp at hj
    · cases hj⟩
theorem namesE_size (a b : Int) (s : ByteArray) : (namesE a b s).length = 1 + pickN b 2 := by
  have := pickN_lt b 2 (by decide)
  unfold namesE; rw [List.length_take]; simp only [List.length_cons, List.length_nil]; omega
/-- A row made, and named in a cell of another block. -/
theorem fin9 {w V : World} {tb rb n : Nat} {T T' R P : List Value} {tT tS : TypeId} (hT : Bk V tb T tT) (hR : Bk V rb R tT) (hB : Below w.heap.size w V) (hn : V.heap.size = n) (hne : tb ≠ rb) (htb : w.heap.size ≤ tb) (j : Nat) (v : Value) (hT' : T.set j v = T') :
    Bk ((V.alloc (.cells P.toArray tS)).setCell ⟨tb, j, none⟩ v) tb T' tT ∧ Bk ((V.alloc (.cells P.toArray tS)).setCell ⟨tb, j, none⟩ v) rb R tT ∧ Bk ((V.alloc (.cells P.toArray tS)).setCell ⟨tb, j, none⟩ v) n P tS ∧ Below w.heap.size w ((V.alloc (.cells P.toArray tS)).setCell ⟨tb, j, none⟩ v) ∧ tb < n := by
  subst hn hT'
  have hl := hT.lt
  exact ⟨(hT.alloc _).set j v, (hR.alloc _).other hne j v, (Bk.new V P tS).other (by omega) j v, (bal hB _).setCell (p := ⟨tb, j, none⟩) htb v, hl⟩
theorem short_calls (s : ByteArray) (hs : s.size ≤ 9223372036854775807) (w : World) :
    Calls Tryd.prog 29 #[.string s] w fun e w' => e = .returned (.string (shortS s)) ∧ w = w' := by
  have h := cut_calls s 12 (by decide) hs w
  have H := Lib.hid h
  clear h
  go_enter Tryd.func29, Tryd.ntmps29
  go_wp2_with fail
  refine H.out.mono ?_
  rintro e w' ⟨rfl, rfl⟩
  go_wp2_with fail
  go_ret
  exact ⟨rfl, rfl⟩
theorem txAt_one {W : World} {q : Nat} {s : ByteArray} {t : TypeId} (h : Bk W q [.string s] t) : TxAt W (some ⟨q, 0, none⟩) [s] :=
  .inr ⟨q, 0, rfl, fun j s' hj => by
    match j with
    | 0 =>
      obtain rfl : s = s' := by simpa using hj
      exact h.cell 0 _ rfl
    | j + 1 => simp at hj⟩
theorem txAt_two {W : World} {q : Nat} {s u : ByteArray} (h : W.cell? ⟨q, 0, none⟩ = some (.string s)) (h2 : W.cell? ⟨q, 1, none⟩ = some (.string u)) : TxAt W (some ⟨q, 0, none⟩) [s, u] :=
  .inr ⟨q, 0, rfl, fun j s' hj => by
    match j with
    | 0 =>
      obtain rfl : s = s' := by simpa using hj
      exact h
    | 1 =>
      obtain rfl : u = s' := by simpa using hj
      exact h2
    | j + 2 => simp at hj⟩
end Go.Proofs.YtgmnoemkdigafaaDoor
