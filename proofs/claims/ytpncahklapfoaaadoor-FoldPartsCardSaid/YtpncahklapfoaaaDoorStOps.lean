/- What a write makes of a state of the call's own. -/
import Derived.Test.YtpncahklapfoaaaDoorStMem
import Derived.Test.YtpncahklapfoaaaDoorBlk
import Derived.OneCell
namespace Go.Proofs.YtpncahklapfoaaaDoor
open Go.RowKit
set_option linter.unusedVariables false

section
variable {w w1 : World} {B p : Nat} {s : StS} {vb vs : Value} {vm : List Value}
/-- The blocks of a state. -/
def blksOf (p : Nat) (vb vs : Value) (vm : List Value) : List (Option Nat) := some p :: vb.ownBlock :: vs.ownBlock :: vm.map Value.ownBlock
theorem OwnSt.blk (h : OwnSt w B p s vb vs vm) : ∀ (j k : Nat), (blksOf p vb vs vm)[j]? = some (some k) → B ≤ k ∧ k < w.heap.size := h.blocks
theorem OwnSt.keep (h : OwnSt w B p s vb vs vm) {r : Option Nat} (hg : w.grownBy w1 r) (hr : ∀ k, r = some k → ∀ (j : Nat), (blksOf p vb vs vm)[j]? ≠ some (some k)) : OwnSt w1 B p s vb vs vm := h.kept hg hr
theorem OwnSt.ne (h : OwnSt w B p s vb vs vm) {i j : Nat} {a b : Option Nat} (hi : (blksOf p vb vs vm)[i]? = some a) (hj : (blksOf p vb vs vm)[j]? = some b) (hn : i ≠ j) : a = none ∨ a ≠ b := by
  cases a with
  | none => exact .inl rfl
  | some k =>
    right
    rintro rfl
    exact hn (h.ap i j k hi hj)
theorem setCell_grown (w : World) (g j : Nat) (u : Value) : w.grownBy (w.setCell ⟨g, j, none⟩ u) (some g) :=
  ⟨rfl, rfl, rfl, by simp, fun k _ hk => Below.heap_setCell _ _ _ k (fun e => hk (by rw [e]))⟩
theorem zip_snoc {α β : Type} : ∀ (l : List α) (m : List β) (x : α) (y : β), m.length = l.length → (l ++ [x]).zip (m ++ [y]) = l.zip m ++ [(x, y)]
  | [], [], x, y, _ => rfl
  | [], b :: m, x, y, h => by simp at h
  | a :: l, [], x, y, h => by simp at h
  | a :: l, b :: m, x, y, h => by
    show (a, b) :: (l ++ [x]).zip (m ++ [y]) = _
    rw [zip_snoc l m x y (by simpa using h)]
    rfl
theorem zip_set {α β : Type} : ∀ (l : List α) (m : List β) (i : Nat) (x : α) (y : β), (l.set i x).zip (m.set i y) = (l.zip m).set i (x, y)
  | [], m, i, x, y => by simp
  | a :: l, [], i, x, y => by cases i <;> simp
  | a :: l, b :: m, 0, x, y => by simp
  | a :: l, b :: m, i + 1, x, y => by simp [zip_set l m i x y]
theorem set_same {α : Type} : ∀ (m : List α) (i : Nat) (y : α), m[i]? = some y → m.set i y = m
  | [], i, y, h => by simp at h
  | b :: m, 0, y, h => by simp at h; subst h; rfl
  | b :: m, i + 1, y, h => by simp at h; simp [set_same m i y h]
theorem boxesCells_snoc (l : List BoxS) (vm : List Value) (x : BoxS) (v : Value) (h : vm.length = l.length) : boxesCells (l ++ [x]) (vm ++ [v]) = boxesCells l vm ++ boxCells (x, v) := by
  unfold boxesCells
  rw [zip_snoc l vm x v h, List.flatMap_append]
  simp
/-- A new value's block is none of those that were there. -/
theorem new_block (h : OwnSt w B p s vb vs vm) {k : Nat} (hk : w.heap.size ≤ k) (j : Nat) : (blksOf p vb vs vm)[j]? ≠ some (some k) := fun e => by
  have := (h.blk j k e).2
  omega
/-- A value of the state has grown: it is where it was, or in a new block. -/
def At (w : World) (v v' : Value) : Prop := v'.ownBlock = v.ownBlock ∨ ∃ k, v'.ownBlock = some k ∧ w.heap.size ≤ k
theorem apart_set (h : OwnSt w B p s vb vs vm) {i : Nat} {v v' : Value} (hi : (blksOf p vb vs vm)[i]? = some v.ownBlock) (hat : At w v v') : Apart ((blksOf p vb vs vm).set i v'.ownBlock) := by
  have hap : Apart (blksOf p vb vs vm) := h.ap
  refine hap.set i v'.ownBlock ?_
  rcases hat with e | ⟨k, e, hk⟩
  · right; left; rw [hi, e]
  · right; right
    intro k' hk'
    rw [e] at hk'
    obtain rfl := Option.some.inj hk'
    exact new_block h hk
/-- A box more. -/
theorem OwnSt.addBox (h : OwnSt w B p s vb vs vm) (x : BoxS) (v vb' : Value) (hv : w.ownsRow B 85 3 v x.mails.length (mailsCells x.mails)) (hvn : ∀ k, v.ownBlock = some k → ∀ (j : Nat), (blksOf p vb vs vm)[j]? ≠ some (some k))
    (hg : w.grownBy w1 vb.ownBlock) (hrow : w1.ownsRow B 83 3 vb' (s.boxes.length + 1) (boxesCells s.boxes vm ++ boxCells (x, v))) (hat : At w vb vb') :
    OwnSt (w1.setCell ⟨p, 0, none⟩ vb') B p ⟨s.boxes ++ [x], s.spool⟩ vb' vs (vm ++ [v]) := by
  have hpv : vb'.ownBlock ≠ some p := by
    intro e
    rcases hat with e2 | ⟨k, e2, hk⟩
    · rw [e2] at e
      have := h.ap 0 1 p rfl (by show some vb.ownBlock = _; rw [e])
      omega
    · rw [e2] at e
      obtain rfl := Option.some.inj e
      have := h.lt
      omega
  have hp1 : w1.heap[p]? = some (.cells #[vb, vs] 56 (0, 0)) := by
    rw [hg.block p h.lt]
    · exact h.hp
    · intro e
      have := h.ap 0 1 p rfl (by show some vb.ownBlock = _; rw [← e])
      omega
  have hap : Apart (blksOf p vb' vs (vm ++ [v])) := by
    have h1 := apart_set h (i := 1) (v := vb) (v' := vb') rfl hat
    have e1 : (blksOf p vb vs vm).set 1 vb'.ownBlock = blksOf p vb' vs vm := rfl
    rw [e1] at h1
    have e2 : blksOf p vb' vs (vm ++ [v]) = blksOf p vb' vs vm ++ [v.ownBlock] := by simp [blksOf]
    rw [e2]
    refine h1.snoc _ fun k hk j hj => ?_
    have hne := hvn k hk
    by_cases hj1 : j = 1
    · subst hj1
      have e3 : vb'.ownBlock = some k := Option.some.inj hj
      rcases hat with e4 | ⟨k', e4, hk'⟩
      · exact hne 1 (by show some vb.ownBlock = _; rw [← e4, e3])
      · rw [e4] at e3
        obtain rfl := Option.some.inj e3
        have := (hv.lt k' hk).2
        omega
    · refine hne j ?_
      rw [← hj, ← e1, List.getElem?_set, if_neg (fun e => hj1 e.symm)]
  have hoth : ∀ (j : Nat) (o : Option Nat), (blksOf p vb vs vm)[j]? = some o → j ≠ 1 → o = none ∨ o ≠ vb.ownBlock := fun j o hj hj1 => h.ne hj (show (blksOf p vb vs vm)[1]? = some vb.ownBlock from rfl) hj1
  have hvk : v.ownBlock = none ∨ v.ownBlock ≠ vb.ownBlock := by
    cases e : v.ownBlock with
    | none => exact .inl rfl
    | some k => exact .inr fun e2 => hvn k e 1 (by show some vb.ownBlock = _; rw [← e2])
  have hnp : ∀ (j : Nat) (u : Value), (blksOf p vb vs vm)[j]? = some u.ownBlock → j ≠ 0 → u.ownBlock ≠ some p := fun j u hj hj0 e => by
    rw [e] at hj
    exact hj0 (h.ap j 0 p hj rfl)
  have hvp : v.ownBlock ≠ some p := fun e => hvn p e 0 rfl
  refine ⟨?_, h.pB, ?_, ?_, by simp [h.ln], ?_, hap⟩
  · have := heap_setCell_at hp1 0 vb'
    simpa using this
  · rw [boxesCells_snoc _ _ _ _ h.ln, List.length_append]
    exact ownsRow_setCell_other hrow hpv _
  · exact ownsRow_setCell_other (h.rs.kept hg (hoth 2 _ rfl (by decide))) (hnp 2 vs rfl (by decide)) _
  · intro j b u hb hu
    have hjl : j < (s.boxes ++ [x]).length := (List.getElem?_eq_some_iff.1 hb).1
    rw [List.length_append, List.length_cons, List.length_nil] at hjl
    by_cases hj : j < s.boxes.length
    · rw [List.getElem?_append_left hj] at hb
      rw [List.getElem?_append_left (by rw [h.ln]; exact hj)] at hu
      have hbk : (blksOf p vb vs vm)[j + 3]? = some u.ownBlock := by simp [blksOf, hu]
      exact ownsRow_setCell_other ((h.rm j b u hb hu).kept hg (hoth (j + 3) _ hbk (by omega))) (hnp (j + 3) u hbk (by omega)) _
    · have hje : j = s.boxes.length := by omega
      subst hje
      simp at hb
      rw [← h.ln] at hu
      simp at hu
      subst hb hu
      exact ownsRow_setCell_other (hv.kept hg hvk) hvp _
/-- An entry more waits to go out. -/
theorem OwnSt.addSpool (h : OwnSt w B p s vb vs vm) (x : Ent) (vs' : Value) (hg : w.grownBy w1 vs.ownBlock) (hrow : w1.ownsRow B 63 6 vs' (s.spool.length + 1) (entsCells s.spool ++ entCells x)) (hat : At w vs vs') :
    OwnSt (w1.setCell ⟨p, 1, none⟩ vs') B p ⟨s.boxes, s.spool ++ [x]⟩ vb vs' vm := by
  have hpv : vs'.ownBlock ≠ some p := by
    intro e
    rcases hat with e2 | ⟨k, e2, hk⟩
    · rw [e2] at e
      have := h.ap 0 2 p rfl (by show some vs.ownBlock = _; rw [e])
      omega
    · rw [e2] at e
      obtain rfl := Option.some.inj e
      have := h.lt
      omega
  have hp1 : w1.heap[p]? = some (.cells #[vb, vs] 56 (0, 0)) := by
    rw [hg.block p h.lt]
    · exact h.hp
    · intro e
      have := h.ap 0 2 p rfl (by show some vs.ownBlock = _; rw [← e])
      omega
  have hap : Apart (blksOf p vb vs' vm) := apart_set h (i := 2) (v := vs) (v' := vs') rfl hat
  have hoth : ∀ (j : Nat) (o : Option Nat), (blksOf p vb vs vm)[j]? = some o → j ≠ 2 → o = none ∨ o ≠ vs.ownBlock := fun j o hj hj1 => h.ne hj (show (blksOf p vb vs vm)[2]? = some vs.ownBlock from rfl) hj1
  have hnp : ∀ (j : Nat) (u : Value), (blksOf p vb vs vm)[j]? = some u.ownBlock → j ≠ 0 → u.ownBlock ≠ some p := fun j u hj hj0 e => by
    rw [e] at hj
    exact hj0 (h.ap j 0 p hj rfl)
  refine ⟨?_, h.pB, ?_, ?_, h.ln, ?_, hap⟩
  · have := heap_setCell_at hp1 1 vs'
    simpa using this
  · exact ownsRow_setCell_other (h.rb.kept hg (hoth 1 _ rfl (by decide))) (hnp 1 vb rfl (by decide)) _
  · rw [entsCells_append, List.length_append]
    have e : entsCells [x] = entCells x := by simp [entsCells]
    rw [e]
    exact ownsRow_setCell_other hrow hpv _
  · intro j b u hb hu
    have hbk : (blksOf p vb vs vm)[j + 3]? = some u.ownBlock := by simp [blksOf, hu]
    exact ownsRow_setCell_other ((h.rm j b u hb hu).kept hg (hoth (j + 3) _ hbk (by omega))) (hnp (j + 3) u hbk (by omega)) _
/-- The mails of a box are others: its row has grown or was written, and the box's cell says where it lies. -/
theorem OwnSt.setMails (h : OwnSt w B p s vb vs vm) (i g c : Nat) (b : BoxS) (v v' : Value) (ms : List MailS) (hb : s.boxes[i]? = some b) (hv : vm[i]? = some v) (hvb : vb = .slice (some ⟨g, 0, none⟩) s.boxes.length c)
    (hg : w.grownBy w1 v.ownBlock) (hrow : w1.ownsRow B 85 3 v' ms.length (mailsCells ms)) (hat : At w v v') :
    OwnSt (w1.setCell ⟨g, i * 3 + 2, none⟩ v') B p ⟨s.boxes.set i ⟨b.name, b.next, ms⟩, s.spool⟩ vb vs (vm.set i v') := by
  have hil : i < s.boxes.length := (List.getElem?_eq_some_iff.1 hb).1
  have hbi : (blksOf p vb vs vm)[i + 3]? = some v.ownBlock := by simp [blksOf, hv]
  have hgb : vb.ownBlock = some g := by rw [hvb]; rfl
  have hoth : ∀ (j : Nat) (o : Option Nat), (blksOf p vb vs vm)[j]? = some o → j ≠ i + 3 → o = none ∨ o ≠ v.ownBlock := fun j o hj hj1 => h.ne hj hbi hj1
  have hng : ∀ (j : Nat) (u : Value), (blksOf p vb vs vm)[j]? = some u.ownBlock → j ≠ 1 → u.ownBlock ≠ some g := fun j u hj hj0 e => by
    rw [e] at hj
    exact hj0 (h.ap j 1 g hj (by show some vb.ownBlock = _; rw [hgb]))
  have hpg : p ≠ g := fun e => by
    have := h.ap 0 1 p rfl (by show some vb.ownBlock = _; rw [hgb, e])
    omega
  have hvg : v'.ownBlock ≠ some g := by
    intro e
    rcases hat with e2 | ⟨k, e2, hk⟩
    · rw [e2] at e
      exact hng (i + 3) v hbi (by omega) e
    · rw [e2] at e
      obtain rfl := Option.some.inj e
      have := (h.rb.lt k hgb).2
      omega
  have hp1 : w1.heap[p]? = some (.cells #[vb, vs] 56 (0, 0)) := by
    rw [hg.block p h.lt]
    · exact h.hp
    · intro e
      have h0 : (blksOf p vb vs vm)[0]? = some (some p) := rfl
      rcases h.ne h0 hbi (by omega) with h1 | h1
      · cases h1
      · exact h1 e
  have hap : Apart (blksOf p vb vs (vm.set i v')) := by
    have h1 := apart_set h hbi hat
    have e1 : (blksOf p vb vs vm).set (i + 3) v'.ownBlock = blksOf p vb vs (vm.set i v') := by simp [blksOf, List.map_set]
    rwa [e1] at h1
  have hrb1 := h.rb.kept hg (hoth 1 _ rfl (by omega))
  refine ⟨?_, h.pB, ?_, ?_, by simp [h.ln], ?_, hap⟩
  · rw [Below.heap_setCell _ _ _ p hpg]
    exact hp1
  · rw [hvb] at hrb1 ⊢
    have h2 := (hrb1.stored (i * 3 + 2) v').1
    have e1 : (boxesCells s.boxes vm).set (i * 3 + 2) v' = boxesCells (s.boxes.set i ⟨b.name, b.next, ms⟩) (vm.set i v') := by
      unfold boxesCells
      rw [zip_set]
      exact flat_set boxCells 3 (fun _ => rfl) (b, v) (⟨b.name, b.next, ms⟩, v') 2 v' (by decide) rfl _ i (zip_get _ _ i b v hb hv)
    rw [e1] at h2
    have e2 : (s.boxes.set i ⟨b.name, b.next, ms⟩).length = s.boxes.length := by simp
    show World.ownsRow _ B _ 3 _ (s.boxes.set i ⟨b.name, b.next, ms⟩).length _
    rw [e2]
    exact h2
  · exact ownsRow_setCell_other (h.rs.kept hg (hoth 2 _ rfl (by omega))) (hng 2 vs rfl (by decide)) _
  · intro j b' u hb' hu
    by_cases hj : j = i
    · subst hj
      rw [List.getElem?_set] at hb' hu
      simp [hil, show j < vm.length by rw [h.ln]; exact hil] at hb' hu
      subst hb' hu
      exact ownsRow_setCell_other hrow hvg _
    · rw [List.getElem?_set_ne (fun e => hj e.symm)] at hb' hu
      have hbk : (blksOf p vb vs vm)[j + 3]? = some u.ownBlock := by simp [blksOf, hu]
      exact ownsRow_setCell_other ((h.rm j b' u hb' hu).kept hg (hoth (j + 3) _ hbk (by omega))) (hng (j + 3) u hbk (by omega)) _
/-- A box's next Uid is another. -/
theorem OwnSt.setNext (h : OwnSt w B p s vb vs vm) (i g c : Nat) (b : BoxS) (v : Value) (n : Int) (hb : s.boxes[i]? = some b) (hv : vm[i]? = some v) (hvb : vb = .slice (some ⟨g, 0, none⟩) s.boxes.length c) :
    OwnSt (w.setCell ⟨g, i * 3 + 1, none⟩ (.int .i64 n)) B p ⟨s.boxes.set i ⟨b.name, n, b.mails⟩, s.spool⟩ vb vs vm := by
  have hil : i < s.boxes.length := (List.getElem?_eq_some_iff.1 hb).1
  have hgb : vb.ownBlock = some g := by rw [hvb]; rfl
  have hng : ∀ (j : Nat) (u : Value), (blksOf p vb vs vm)[j]? = some u.ownBlock → j ≠ 1 → u.ownBlock ≠ some g := fun j u hj hj0 e => by
    rw [e] at hj
    exact hj0 (h.ap j 1 g hj (by show some vb.ownBlock = _; rw [hgb]))
  have hpg : p ≠ g := fun e => by
    have := h.ap 0 1 p rfl (by show some vb.ownBlock = _; rw [hgb, e])
    omega
  have hrb1 := h.rb
  refine ⟨?_, h.pB, ?_, ?_, by simp [h.ln], ?_, h.ap⟩
  · rw [Below.heap_setCell _ _ _ p hpg]
    exact h.hp
  · rw [hvb] at hrb1 ⊢
    have h2 := (hrb1.stored (i * 3 + 1) (.int .i64 n)).1
    have e1 : (boxesCells s.boxes vm).set (i * 3 + 1) (.int .i64 n) = boxesCells (s.boxes.set i ⟨b.name, n, b.mails⟩) vm := by
      have e0 := set_same vm i v hv
      conv => rhs; rw [← e0]
      unfold boxesCells
      rw [zip_set]
      exact flat_set boxCells 3 (fun _ => rfl) (b, v) (⟨b.name, n, b.mails⟩, v) 1 (.int .i64 n) (by decide) rfl _ i (zip_get _ _ i b v hb hv)
    rw [e1] at h2
    have e2 : (s.boxes.set i ⟨b.name, n, b.mails⟩).length = s.boxes.length := by simp
    show World.ownsRow _ B _ 3 _ (s.boxes.set i ⟨b.name, n, b.mails⟩).length _
    rw [e2]
    exact h2
  · exact ownsRow_setCell_other h.rs (hng 2 vs rfl (by decide)) _
  · intro j b' u hb' hu
    have hbk : (blksOf p vb vs vm)[j + 3]? = some u.ownBlock := by simp [blksOf, hu]
    by_cases hj : j = i
    · subst hj
      rw [List.getElem?_set] at hb'
      simp [hil] at hb'
      subst hb'
      exact ownsRow_setCell_other (h.rm j b u hb hu) (hng (j + 3) u hbk (by omega)) _
    · rw [List.getElem?_set_ne (fun e => hj e.symm)] at hb'
      exact ownsRow_setCell_other (h.rm j b' u hb' hu) (hng (j + 3) u hbk (by omega)) _
/-- A mail's flags are others. -/
theorem OwnSt.setFlag (h : OwnSt w B p s vb vs vm) (i k gm cm : Nat) (b : BoxS) (m : MailS) (f : Int) (hb : s.boxes[i]? = some b) (hv : vm[i]? = some (.slice (some ⟨gm, 0, none⟩) b.mails.length cm)) (hm : b.mails[k]? = some m) :
    OwnSt (w.setCell ⟨gm, k * 3 + 1, none⟩ (.int .i64 f)) B p ⟨s.boxes.set i ⟨b.name, b.next, b.mails.set k ⟨m.uid, f, m.text⟩⟩, s.spool⟩ vb vs vm := by
  have hil : i < s.boxes.length := (List.getElem?_eq_some_iff.1 hb).1
  have hbi : (blksOf p vb vs vm)[i + 3]? = some (some gm) := by simp [blksOf, hv, Value.ownBlock]
  have hng : ∀ (j : Nat) (u : Value), (blksOf p vb vs vm)[j]? = some u.ownBlock → j ≠ i + 3 → u.ownBlock ≠ some gm := fun j u hj hj0 e => by
    rw [e] at hj
    exact hj0 (h.ap j (i + 3) gm hj hbi)
  have hpg : p ≠ gm := fun e => by
    have := h.ap 0 (i + 3) p rfl (by rw [e]; exact hbi)
    omega
  have hrm := h.rm i b _ hb hv
  have hml : k < b.mails.length := (List.getElem?_eq_some_iff.1 hm).1
  have h2 := (hrm.stored (k * 3 + 1) (.int .i64 f)).1
  have e1 : (mailsCells b.mails).set (k * 3 + 1) (.int .i64 f) = mailsCells (b.mails.set k ⟨m.uid, f, m.text⟩) := flat_set mailCells 3 (fun _ => rfl) m ⟨m.uid, f, m.text⟩ 1 (.int .i64 f) (by decide) rfl _ k hm
  rw [e1] at h2
  refine ⟨?_, h.pB, ?_, ?_, by simp [h.ln], ?_, h.ap⟩
  · rw [Below.heap_setCell _ _ _ p hpg]
    exact h.hp
  · have hx := ownsRow_setCell_other h.rb (hng 1 vb rfl (by omega)) (a := ⟨gm, k * 3 + 1, none⟩) (.int .i64 f)
    have e0 := set_same vm i _ hv
    have e2 : boxesCells (s.boxes.set i ⟨b.name, b.next, b.mails.set k ⟨m.uid, f, m.text⟩⟩) vm = boxesCells s.boxes vm := by
      conv => lhs; rw [← e0]
      unfold boxesCells
      rw [zip_set]
      have hz := zip_get _ _ i b _ hb hv
      have h5 := flat_set boxCells 3 (fun _ => rfl) (b, .slice (some ⟨gm, 0, none⟩) b.mails.length cm) (⟨b.name, b.next, b.mails.set k ⟨m.uid, f, m.text⟩⟩, .slice (some ⟨gm, 0, none⟩) b.mails.length cm) 0 (.string b.name) (by decide) rfl _ i hz
      rw [← h5]
      exact set_same _ _ _ (flat_get boxCells 3 (fun _ => rfl) _ i _ hz 0 (by decide))
    have e3 : (s.boxes.set i ⟨b.name, b.next, b.mails.set k ⟨m.uid, f, m.text⟩⟩).length = s.boxes.length := by simp
    show World.ownsRow _ B _ 3 _ (s.boxes.set i ⟨b.name, b.next, b.mails.set k ⟨m.uid, f, m.text⟩⟩).length _
    rw [e2, e3]
    exact hx
  · exact ownsRow_setCell_other h.rs (hng 2 vs rfl (by omega)) _
  · intro j b' u hb' hu
    by_cases hj : j = i
    · subst hj
      rw [List.getElem?_set] at hb'
      simp [hil] at hb'
      subst hb'
      rw [hv] at hu
      obtain rfl := Option.some.inj hu
      have e4 : (b.mails.set k ⟨m.uid, f, m.text⟩).length = b.mails.length := by simp
      show World.ownsRow _ B _ 3 _ (b.mails.set k ⟨m.uid, f, m.text⟩).length _
      rw [e4]
      exact h2
    · rw [List.getElem?_set_ne (fun e => hj e.symm)] at hb'
      have hbk : (blksOf p vb vs vm)[j + 3]? = some u.ownBlock := by simp [blksOf, hu]
      exact ownsRow_setCell_other (h.rm j b' u hb' hu) (hng (j + 3) u hbk (by omega)) _
theorem OwnSt.mono {B' : Nat} (h : OwnSt w B p s vb vs vm) (hB : B' ≤ B) : OwnSt w B' p s vb vs vm :=
  ⟨h.hp, Nat.le_trans hB h.pB, row_base hB h.rb, row_base hB h.rs, h.ln, fun j b v hb hv => row_base hB (h.rm j b v hb hv), h.ap⟩
theorem OwnSt.setOther (h : OwnSt w B p s vb vs vm) (g j : Nat) (u : Value) (hg : g < B) : OwnSt (w.setCell ⟨g, j, none⟩ u) B p s vb vs vm :=
  h.keep (setCell_grown w g j u) fun k e i hi => by
    obtain rfl := Option.some.inj e
    have := (h.blk i g hi).1
    omega
/-- The state's own block, behind a write to one of its rows. -/
theorem OwnSt.pkeep (h : OwnSt w B p s vb vs vm) {r : Option Nat} (hg : w.grownBy w1 r) (i : Nat) (hi : (blksOf p vb vs vm)[i]? = some r) (h0 : i ≠ 0) :
    w1.cell? ⟨p, 0, none⟩ = some vb ∧ w1.cell? ⟨p, 1, none⟩ = some vs ∧ w1.frozen? ⟨p, 0, none⟩ = false ∧ w1.frozen? ⟨p, 1, none⟩ = false := by
  have hp1 : w1.heap[p]? = some (.cells #[vb, vs] 56 (0, 0)) := by
    rw [hg.block p h.lt]
    · exact h.hp
    · intro e
      have h1 : (blksOf p vb vs vm)[0]? = some (some p) := rfl
      rcases h.ne h1 hi (fun e => h0 e.symm) with h2 | h2
      · cases h2
      · exact h2 e
  simp [World.cell?, World.frozen?, hp1]
/-- A state is boxed anew. -/
theorem OwnSt.rebox {q : Nat} (h : OwnSt w B p s vb vs vm) (hb : Below w.heap.size w w1) (hq : Bk w1 q [vb, vs] 56) (hqn : w.heap.size ≤ q) : OwnSt w1 B q s vb vs vm := by
  have h1 := h.later hb
  refine ⟨hq, by have := h.lt; have := h.pB; omega, h1.rb, h1.rs, h1.ln, h1.rm, ?_⟩
  have hold : ∀ (j k : Nat), (blksOf p vb vs vm)[j]? = some (some k) → k < w.heap.size := fun j k hj => (h.blk j k hj).2
  have e1 : (some q :: vb.ownBlock :: vs.ownBlock :: vm.map Value.ownBlock) = (blksOf p vb vs vm).set 0 (some q) := rfl
  rw [e1]
  have hap : Apart (blksOf p vb vs vm) := h.ap
  refine hap.set 0 (some q) (.inr (.inr fun k hk j hj => ?_))
  obtain rfl := Option.some.inj hk
  have := hold j _ hj
  omega
end
end Go.Proofs.YtpncahklapfoaaaDoor
