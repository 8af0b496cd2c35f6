/- slices.Clone and box.own: states in memory of their own. -/
import Derived.Test.YtpncahklapfoaaaDoorBoxOk
import Derived.Test.YtpncahklapfoaaaDoorStOps
import Derived.WalkSpells
import Derived.Test.YtpncahklapfoaaaDoorKind
import Derived.Lib.SliceRun
import Derived.Maps.AppendAt
import Derived.Deep.CutRange
import Derived.Deep.DeepCutAuto
import Derived.Outline
import Derived.Laws.AppendOwnNone
namespace Go.Proofs.YtpncahklapfoaaaDoor
open Go.RowKit
set_option linter.unusedVariables false

/-- Cells that lie one behind the other. -/
def CsAt (w : World) (A : Option Addr) (cs : List Value) : Prop := ∀ (j : Nat) u, cs[j]? = some u → ∃ b off, A = some ⟨b, off, none⟩ ∧ w.cell? ⟨b, off + j, none⟩ = some u
theorem CsAt.later {w w' : World} {A : Option Addr} {cs : List Value} (hb : Below w.heap.size w w') (h : CsAt w A cs) : CsAt w' A cs := fun j u hj =>
  have ⟨b, off, hA, hc⟩ := h j u hj
  ⟨b, off, hA, cell_later hb hc⟩
theorem CsAt.news {w : World} {a : Addr} {cs : List Value} (h : CsAt w (some a) cs) : ∀ (j : Nat) u, cs[j]? = some u → w.cell? (a.add j) = some u := by
  intro j u hj
  obtain ⟨b, off, hA, hc⟩ := h j u hj
  obtain rfl := Option.some.inj hA
  rw [add_plain rfl]
  exact hc
theorem flat_split (n : Nat) {α : Type} (f : α → List Value) (hf : ∀ x, (f x).length = n) (l : List α) (j : Nat) (u : Value) (h : (l.flatMap f)[j]? = some u) (hn : 0 < n) : ∃ x, l[j / n]? = some x ∧ (f x)[j % n]? = some u := by
  have hj : j < l.length * n := by rw [← flat_len f n hf l]; exact (List.getElem?_eq_some_iff.1 h).1
  have hq : j / n < l.length := Nat.div_lt_of_lt_mul (by rw [Nat.mul_comm]; exact hj)
  have hg := flat_get f n hf l (j / n) l[j / n] (by simp [hq]) (j % n) (Nat.mod_lt _ hn)
  have he : j / n * n + j % n = j := by rw [Nat.mul_comm]; exact Nat.div_add_mod j n
  rw [he, h] at hg
  exact ⟨l[j / n], by simp [hq], hg.symm⟩
theorem MsAt.cs {w : World} {A : Option Addr} {l : List MailS} (h : MsAt w A l) : CsAt w A (mailsCells l) := by
  intro j u hj
  obtain ⟨x, hx, hu⟩ := flat_split 3 mailCells (fun _ => rfl) l j u hj (by decide)
  obtain ⟨b, off, hA, c0, c1, c2⟩ := h (j / 3) x hx
  refine ⟨b, off, hA, ?_⟩
  have he : j = j / 3 * 3 + j % 3 := by omega
  have hm : j % 3 = 0 ∨ j % 3 = 1 ∨ j % 3 = 2 := by omega
  rcases hm with hm | hm | hm
  · rw [hm] at hu he
    rw [he]
    have hu2 : Value.int .i64 x.uid = u := by simpa [mailCells] using hu
    rw [← hu2]; exact c0
  · rw [hm] at hu he
    rw [he]
    have hu2 : Value.int .i64 x.flags = u := by simpa [mailCells] using hu
    rw [← hu2]; exact c1
  · rw [hm] at hu he
    rw [he]
    have hu2 : Value.string x.text = u := by simpa [mailCells] using hu
    rw [← hu2]; exact c2
theorem EsAt.cs {w : World} {A : Option Addr} {l : List Ent} (h : EsAt w A l) : CsAt w A (entsCells l) := by
  intro j u hj
  obtain ⟨x, hx, hu⟩ := flat_split 6 entCells (fun _ => rfl) l j u hj (by decide)
  obtain ⟨hl, rfl⟩ := List.getElem?_eq_some_iff.1 hx
  obtain ⟨b, off, hA, c0, c1, c2, c3, c4, c5⟩ := h (j / 6) hl
  refine ⟨b, off, hA, ?_⟩
  have he : j = j / 6 * 6 + j % 6 := by omega
  generalize l[j / 6] = x at *
  have hm : j % 6 = 0 ∨ j % 6 = 1 ∨ j % 6 = 2 ∨ j % 6 = 3 ∨ j % 6 = 4 ∨ j % 6 = 5 := by omega
  rcases hm with hm | hm | hm | hm | hm | hm
  · rw [hm] at hu he
    rw [he]
    have hu2 : Value.int .i64 x.kind = u := by simpa [entCells] using hu
    rw [← hu2]; exact c0
  · rw [hm] at hu he
    rw [he]
    have hu2 : Value.string x.box = u := by simpa [entCells] using hu
    rw [← hu2]; exact c1
  · rw [hm] at hu he
    rw [he]
    have hu2 : Value.int .i64 x.uid = u := by simpa [entCells] using hu
    rw [← hu2]; exact c2
  · rw [hm] at hu he
    rw [he]
    have hu2 : Value.int .i64 x.flags = u := by simpa [entCells] using hu
    rw [← hu2]; exact c3
  · rw [hm] at hu he
    rw [he]
    have hu2 : Value.string x.dst = u := by simpa [entCells] using hu
    rw [← hu2]; exact c4
  · rw [hm] at hu he
    rw [he]
    have hu2 : Value.string x.text = u := by simpa [entCells] using hu
    rw [← hu2]; exact c5
theorem one_mails (l : List MailS) : ∀ u ∈ mailsCells l, u.oneCell' = true := by
  intro u hu
  unfold mailsCells at hu
  obtain ⟨m, _, hm⟩ := List.mem_flatMap.1 hu
  simp [mailCells] at hm
  rcases hm with rfl | rfl | rfl <;> rfl
theorem one_ents (l : List Ent) : ∀ u ∈ entsCells l, u.oneCell' = true := by
  intro u hu
  unfold entsCells at hu
  obtain ⟨m, _, hm⟩ := List.mem_flatMap.1 hu
  simp [entCells] at hm
  rcases hm with rfl | rfl | rfl | rfl | rfl | rfl <;> rfl
/-- What a copy ends in: a row of the call's own, in a block that it made. -/
def CloneOk (w : World) (t sz n : Nat) (xs : List Value) (e : Ending) (w' : World) : Prop :=
  ∃ v, e = .returned v ∧ w'.ownsRow w.heap.size t sz v n xs ∧ Below w.heap.size w w'
set_option maxRecDepth 100000 in
set_option maxHeartbeats 1000000 in
theorem cloneM_calls (A : Option Addr) (n c : Nat) (xs : List Value) (w : World) (hn : A = none → n = 0 ∧ c = 0) (hl : xs.length = n * 3) (hA : CsAt w A xs) (h1 : ∀ u ∈ xs, u.oneCell' = true) (hb : n ≤ 1000000) :
    Calls Tryd.prog 46 #[.slice A n c] w fun e w' => CloneOk w 85 3 n xs e w' := by
  obtain ⟨i0, hi, hz0, hz1, hz2⟩ := info_parts info_mail
  cases A with
  | none =>
    obtain ⟨rfl, rfl⟩ := hn rfl
    obtain rfl : xs = [] := List.length_eq_zero_iff.1 (by simpa using hl)
    have hq : ∀ W, (binOp .eql 81 (.slice none 0 0) (.slice none 0 0)).run Tryd.prog W = .ok (.bool true) W := fun W => Lib.run_eql_slice_nil W 81 85 none 0 0 0 0 Tryd.underlying81
    go_enter Tryd.func46, Tryd.ntmps46
    go_wp2
    go_ret
    exact ⟨_, rfl, World.ownsRow_nil _ _ _ _, Below.refl _ _⟩
  | some a =>
    have hbA : Below w.heap.size w (w.alloc (.cells #[] 85)) := (Below.refl _ w).alloc (Nat.le_refl _) _
    have hr0 := World.ownsRow_lit (base := w.heap.size) (e := 85) (size := 3) w #[] 0 (Nat.le_refl _) (by decide) rfl
    have hnw := (hA.later hbA).news
    have Hnw := Lib.hid hnw
    have H1 := Lib.hid h1
    have hq : ∀ W, (binOp .eql 81 (.slice (some a) n c) (.slice none 0 0)).run Tryd.prog W = .ok (.bool false) W := fun W => Lib.run_eql_slice_nil W 81 85 (some a) n c 0 0 Tryd.underlying81
    clear hnw hA h1 hn
    go_enter Tryd.func46, Tryd.ntmps46
    go_wp2_with (at_builtin; refine wpList_append_own _ rfl _ _ 81 rfl w.heap.size 85 i0 (.agg #[.int .i64 0, .int .i64 0, .string ⟨#[]⟩]) 3 32 Tryd.underlying81 hi hz0 hz1 hz2 rfl (by decide) (.slice (some ⟨w.heap.size, 0, none⟩) 0 0) 0 [] rfl hr0 a n c xs rfl hl Hnw.out H1.out (by unfold maxLen; omega) (by omega) (by simp) ?_; intro v' w1 hown' hgrow _; rw [Nat.zero_add, List.nil_append] at hown'; have hb2 := hbA.grown hgrow (by simp) (by intro k e; simp [Value.ownBlock] at e; omega); have Hown := Lib.hid hown'; have Hb2 := Lib.hid hb2; clear hown' hgrow hb2)
    go_ret
    exact ⟨_, rfl, Hown.out, Hb2.out⟩
set_option maxRecDepth 100000 in
set_option maxHeartbeats 1000000 in
theorem cloneE_calls (A : Option Addr) (n c : Nat) (xs : List Value) (w : World) (hn : A = none → n = 0 ∧ c = 0) (hl : xs.length = n * 6) (hA : CsAt w A xs) (h1 : ∀ u ∈ xs, u.oneCell' = true) (hb : n ≤ 1000000) :
    Calls Tryd.prog 45 #[.slice A n c] w fun e w' => CloneOk w 63 6 n xs e w' := by
  obtain ⟨i0, hi, hz0, hz1, hz2⟩ := info_parts info_ent
  cases A with
  | none =>
    obtain ⟨rfl, rfl⟩ := hn rfl
    obtain rfl : xs = [] := List.length_eq_zero_iff.1 (by simpa using hl)
    have hq : ∀ W, (binOp .eql 23 (.slice none 0 0) (.slice none 0 0)).run Tryd.prog W = .ok (.bool true) W := fun W => Lib.run_eql_slice_nil W 23 63 none 0 0 0 0 Tryd.underlying23
    go_enter Tryd.func45, Tryd.ntmps45
    go_wp2
    go_ret
    exact ⟨_, rfl, World.ownsRow_nil _ _ _ _, Below.refl _ _⟩
  | some a =>
    have hbA : Below w.heap.size w (w.alloc (.cells #[] 63)) := (Below.refl _ w).alloc (Nat.le_refl _) _
    have hr0 := World.ownsRow_lit (base := w.heap.size) (e := 63) (size := 6) w #[] 0 (Nat.le_refl _) (by decide) rfl
    have hnw := (hA.later hbA).news
    have Hnw := Lib.hid hnw
    have H1 := Lib.hid h1
    have hq : ∀ W, (binOp .eql 23 (.slice (some a) n c) (.slice none 0 0)).run Tryd.prog W = .ok (.bool false) W := fun W => Lib.run_eql_slice_nil W 23 63 (some a) n c 0 0 Tryd.underlying23
    clear hnw hA h1 hn
    go_enter Tryd.func45, Tryd.ntmps45
    go_wp2_with (at_builtin; refine wpList_append_own _ rfl _ _ 23 rfl w.heap.size 63 i0 (.agg #[.int .i64 0, .string ⟨#[]⟩, .int .i64 0, .int .i64 0, .string ⟨#[]⟩, .string ⟨#[]⟩]) 6 72 Tryd.underlying23 hi hz0 hz1 hz2 rfl (by decide) (.slice (some ⟨w.heap.size, 0, none⟩) 0 0) 0 [] rfl hr0 a n c xs rfl hl Hnw.out H1.out (by unfold maxLen; omega) (by omega) (by simp) ?_; intro v' w1 hown' hgrow _; rw [Nat.zero_add, List.nil_append] at hown'; have hb2 := hbA.grown hgrow (by simp) (by intro k e; simp [Value.ownBlock] at e; omega); have Hown := Lib.hid hown'; have Hb2 := Lib.hid hb2; clear hown' hgrow hb2)
    go_ret
    exact ⟨_, rfl, Hown.out, Hb2.out⟩
theorem none_len {w : World} {A : Option Addr} {l : List Ent} (h : EsAt w A l) (hn : A = none) : l.length = 0 := by
  by_cases h0 : l.length = 0
  · exact h0
  · obtain ⟨b, off, e, _⟩ := h 0 (by omega)
    rw [hn] at e; cases e
theorem none_lenM {w : World} {A : Option Addr} {l : List MailS} (h : MsAt w A l) (hn : A = none) : l.length = 0 := by
  by_cases h0 : l.length = 0
  · exact h0
  · obtain ⟨b, off, e, _⟩ := h 0 l[0] (by simp)
    rw [hn] at e; cases e
theorem apart_two (p : Nat) (o : Option Nat) (h : o ≠ some p) : Apart [some p, none, o] := by
  intro i j k hi hj
  rcases i with _ | _ | _ | i <;> rcases j with _ | _ | _ | j <;> simp_all
/-- What own ends in: a state in blocks that the call made. -/
def OwnOk (w : World) (s : StS) (e : Ending) (w' : World) : Prop :=
  ∃ vb vs vm p, e = .returned (.agg #[vb, vs]) ∧ OwnSt w' w.heap.size p s vb vs vm ∧ Below w.heap.size w w'
theorem boxesCells_len' (l : List BoxS) (vm : List Value) (h : vm.length = l.length) : (boxesCells l vm).length = l.length * 3 := boxesCells_len l vm h
set_option maxRecDepth 100000 in
set_option maxHeartbeats 4000000 in
theorem own_calls (s : StS) (A A2 : Option Addr) (c c2 : Nat) (w : World) (hA : StAt w A c A2 c2 s) (hnb : s.boxes.length ≤ 1000) (hns : s.spool.length ≤ 1000) (hnm : ∀ b ∈ s.boxes, b.mails.length ≤ 1000) :
    Calls Tryd.prog 36 #[.agg #[.slice A s.boxes.length c, .slice A2 s.spool.length c2]] w fun e w' => OwnOk w s e w' := by
  obtain ⟨i0, hi, hz0, hz1, hz2⟩ := info_parts info_box
  have hb1 : Below w.heap.size w ((w.alloc (.cells #[.slice A s.boxes.length c, .slice A2 s.spool.length c2] 56)).alloc (.cells #[.slice none 0 0, .slice none 0 0] 56)) := ((Below.refl _ w).alloc (Nat.le_refl _) _).alloc (by simp) _
  have hX := (Bk.new w [.slice A s.boxes.length c, .slice A2 s.spool.length c2] 56).alloc (.cells #[.slice none 0 0, .slice none 0 0] 56)
  have hR := Bk.new (w.alloc (.cells #[.slice A s.boxes.length c, .slice A2 s.spool.length c2] 56)) [.slice none 0 0, .slice none 0 0] 56
  rw [show (w.alloc (.cells #[.slice A s.boxes.length c, .slice A2 s.spool.length c2] 56)).heap.size = w.heap.size + 1 by simp] at hR
  have hs1 : ((w.alloc (.cells #[.slice A s.boxes.length c, .slice A2 s.spool.length c2] 56)).alloc (.cells #[.slice none 0 0, .slice none 0 0] 56)).heap.size = w.heap.size + 2 := by simp
  have hbx := hA.bx.later hb1
  have hes := hA.es.later hb1
  have hnn := hA.nn
  have hcl := fun W (hW : EsAt W A2 s.spool) => cloneE_calls A2 s.spool.length c2 (entsCells s.spool) W (fun h => ⟨none_len hW h, hnn h⟩) (entsCells_len s.spool) hW.cs (one_ents s.spool) (by omega)
  have Hcl := Lib.hid (hcl _ hes)
  have Hbx0 := Lib.hid hA.bx
  have Hnm := Lib.hid hnm
  obtain ⟨l, sp⟩ := s
  simp only at Hbx0 hnb hns hcl hb1 hX hR hs1 hbx hes hnn Hcl Hnm hnm ⊢
  clear hcl hA hes hnm
  go_enter Tryd.func36, Tryd.ntmps36
  go_wp2_with fail
  generalize (w.alloc (.cells #[.slice A l.length c, .slice A2 sp.length c2] 56)).alloc (.cells #[.slice none 0 0, .slice none 0 0] 56) = w1 at *
  refine Hcl.out.mono ?_
  rintro e w2 ⟨vs, rfl, hrs, hb2⟩
  obtain ⟨As, cs, rfl⟩ := own_sliceE hrs
  have hX2 := hX.later hb2
  have hR2 := hR.later hb2
  have hbx2 := hbx.later hb2
  have hb3 := hb1.trans (hb2.mono hb1.size)
  have hs2 := hb2.size
  clear Hcl hX hR hbx hb1 hb2
  have hbA : Below w2.heap.size w2 (w2.alloc (.cells #[.slice none 0 0, .slice As sp.length cs] 56)) := (Below.refl _ w2).alloc (Nat.le_refl _) _
  have hP := Bk.new w2 [.slice none 0 0, .slice As sp.length cs] 56
  have hO : OwnSt (w2.alloc (.cells #[.slice none 0 0, .slice As sp.length cs] 56)) (w.heap.size + 2) w2.heap.size ⟨[], sp⟩ (.slice none 0 0) (.slice As sp.length cs) [] := by
    refine ⟨hP, by omega, World.ownsRow_nil _ _ _ _, row_base (by omega) (row_later hbA hrs), rfl, fun j b v hb => by simp at hb, ?_⟩
    exact apart_two _ _ fun e => by have := (hrs.lt _ e).2; omega
  have hX3 := hX2.later hbA
  have hR3 := hR2.later hbA
  have hbx3 := hbx2.later hbA
  have hb4 := hb3.trans (hbA.mono hb3.size)
  have hs3 := hbA.size
  have x0 := hX3.cell 0 _ rfl
  clear hX2 hR2 hbx2 hb3 hbA hP hrs
  go_wp2_with fail
  generalize w2.alloc (.cells #[.slice none 0 0, .slice As sp.length cs] 56) = w3 at *
  generalize hp : w2.heap.size = p at *
  have hsp : w.heap.size + 2 ≤ p := by omega
  clear hp hs2
  have Hb4 := Lib.hid hb4
  have hs3l := hO.lt
  clear hX3 hbx3 hb4 x0 hs3 hs1
  go_loopw [13] (fun i wr => ∃ (k : Nat) (vb : Value) (vm : List Value), k ≤ l.length ∧ i = .int .i64 k ∧ OwnSt wr (w.heap.size + 2) p ⟨l.take k, sp⟩ vb (.slice As sp.length cs) vm ∧ Bk wr (w.heap.size + 1) [.slice none 0 0, .slice none 0 0] 56 ∧ Hid (Below w.heap.size w wr)) (fun i _ => l.length - (intOf i).toNat)
  case atStart => exact ⟨0, _, _, Nat.zero_le _, rfl, hO, hR3, Hb4⟩
  case round =>
    obtain ⟨k, vb, vm, hk, rfl, hO, hR, Hb⟩ := hrel
    clear hR3 Hb4
    by_cases hlt : k < l.length
    · obtain ⟨g, off, Am, cm, rfl, c0, c1, c2', hcm, hms⟩ := Hbx0.out.later Hb.out k l[k] (by simp [hlt])
      have htk : l.take (k + 1) = l.take k ++ [l[k]] := by rw [List.take_succ_eq_append_getElem hlt]
      have hbm := Hnm.out l[k] (List.getElem_mem hlt)
      have hk0 : (0 : Int) ≤ (k : Int) := by omega
      have hkn : (k : Int) < (l.length : Int) := by omega
      have hlk : (l.take k).length ≤ 1000 := by rw [List.length_take]; omega
      generalize l[k] = b at *
      obtain ⟨nm, nx, ms⟩ := b
      simp only at c0 c1 c2' hms hbm hcm
      have hbA : Below wr.heap.size wr (wr.alloc (.cells #[.string nm, .int .i64 nx, .slice Am ms.length cm] 83)) := (Below.refl _ wr).alloc (Nat.le_refl _) _
      have hY := Bk.new wr [.string nm, .int .i64 nx, .slice Am ms.length cm] 83
      have hO1 := hO.later hbA
      have hR1 := hR.later hbA
      have hms1 := hms.later hbA
      have hb1 := Hb.out.trans (hbA.mono Hb.out.size)
      have hs4 : (wr.alloc (.cells #[.string nm, .int .i64 nx, .slice Am ms.length cm] 83)).heap.size = wr.heap.size + 1 := by simp
      have hcl := cloneM_calls Am ms.length cm (mailsCells ms) _ (fun h => ⟨none_lenM hms1 h, hcm.2 h⟩) (mailsCells_len ms) hms1.cs (one_mails ms) (by omega)
      have Hcl := Lib.hid hcl
      have Htk := Lib.hid htk
      have hold : ∀ (j q : Nat), (blksOf p vb (.slice As sp.length cs) vm)[j]? = some (some q) → q < wr.heap.size := fun j q h => (hO.blk j q h).2
      have Hold := Lib.hid hold
      clear hcl htk hms hms1 hbA hold hO hR hcm
      go_wp2_with fail
      generalize wr.alloc (.cells #[.string nm, .int .i64 nx, .slice Am ms.length cm] 83) = w4 at *
      refine Hcl.out.mono ?_
      rintro e w5 ⟨v, rfl, hv, hb5⟩
      obtain ⟨Av, cv, rfl⟩ := own_sliceE hv
      have hO2 := hO1.later hb5
      have hR2 := hR1.later hb5
      have hY2 := hY.later hb5
      have hb6 := hb1.trans (hb5.mono hb1.size)
      have hs5 := hb5.size
      have hs4l : wr.heap.size + 1 ≤ w4.heap.size := by omega
      clear Hcl hb5 hO1 hR1 hY hb1 c0 c1 c2' hs4
      have y2 := hY2.cell 2 _ rfl
      have fy2 := hY2.frozen 2
      -- the box's field is written
      have hY3 := hY2.set 2 (.slice Av ms.length cv)
      have hO3 := hO2.keep (setCell_grown w5 wr.heap.size 2 (.slice Av ms.length cv)) (fun q e j hj => by
        obtain rfl := Option.some.inj e
        have := Hold.out j _ hj
        omega)
      have hR3 := hR2.other (c := wr.heap.size) (by have := hO2.pB; have := Hold.out 0 p rfl; omega) 2 (.slice Av ms.length cv)
      have hb7 := hb6.setCell (p := ⟨wr.heap.size, 2, none⟩) (by show w.heap.size ≤ wr.heap.size; exact Hb.out.size) (.slice Av ms.length cv)
      have hv3 := ownsRow_setCell_below hv (a := ⟨wr.heap.size, 2, none⟩) (by show wr.heap.size < _; omega) (.slice Av ms.length cv)
      have hs6 : (w5.setCell ⟨wr.heap.size, 2, none⟩ (.slice Av ms.length cv)).heap.size = w5.heap.size := by simp
      go_upto_region 6 with fail
      generalize w5.setCell ⟨wr.heap.size, 2, none⟩ (.slice Av ms.length cv) = w6 at *
      have hs6l : w5.heap.size ≤ w6.heap.size := by omega
      clear hO2 hR2 hY2 hb6 y2 fy2 hs6
      have y0 := hY3.cell 0 _ rfl
      have y1 := hY3.cell 1 _ rfl
      have y2 := hY3.cell 2 _ rfl
      have hlk2 : (l.take k).length = k := by rw [List.length_take]; omega
      have hrb : w6.ownsRow (w.heap.size + 2) 83 3 vb k (boxesCells (l.take k) vm) := by
        have h := hO3.rb
        rw [show (StS.boxes ⟨l.take k, sp⟩).length = k from hlk2] at h
        exact h
      obtain ⟨Ab, cb, rfl⟩ := own_sliceE hrb
      have e0 := hO3.c0
      have hnw := new_cells w6 [.string nm, .int .i64 nx, .slice Av ms.length cv] 83
      have hbB : Below w6.heap.size w6 (w6.alloc (.cells #[.string nm, .int .i64 nx, .slice Av ms.length cv] 83)) := (Below.refl _ w6).alloc (Nat.le_refl _) _
      have hpl := hO3.lt
      have hfin : ∀ (vb' : Value) (w8 : World), w8.ownsRow (w.heap.size + 2) 83 3 vb' (k + 1) (boxesCells (l.take k) vm ++ [.string nm, .int .i64 nx, .slice Av ms.length cv]) → (w6.alloc (.cells #[.string nm, .int .i64 nx, .slice Av ms.length cv] 83)).grownBy w8 (Value.ownBlock (.slice Ab k cb)) →
          (vb'.ownBlock = (Value.slice Ab k cb).ownBlock ∨ vb'.ownBlock = some (w6.alloc (.cells #[.string nm, .int .i64 nx, .slice Av ms.length cv] 83)).heap.size) →
          (w8.cell? ⟨p, 0, none⟩ = some (.slice Ab k cb) ∧ w8.frozen? ⟨p, 0, none⟩ = false) ∧ OwnSt (w8.setCell ⟨p, 0, none⟩ vb') (w.heap.size + 2) p ⟨l.take (k + 1), sp⟩ vb' (.slice As sp.length cs) (vm ++ [.slice Av ms.length cv]) ∧ Bk (w8.setCell ⟨p, 0, none⟩ vb') (w.heap.size + 1) [.slice none 0 0, .slice none 0 0] 56 ∧ Below w.heap.size w (w8.setCell ⟨p, 0, none⟩ vb') := by
        intro vb' w8 hown' hgrow hat
        have hO7 := hO3.later hbB
        have hv7 := row_base (base2 := w.heap.size + 2) (by have := Hold.out 0 p rfl; omega) (row_later hbB hv3)
        have hpk := hO7.pkeep hgrow 1 rfl (by decide)
        have hbl : Below (w.heap.size + 2) w6 w8 := ((Below.refl _ w6).alloc (by omega) _).grown hgrow (by simp; omega) (fun q e => own_base' hrb q e)
        refine ⟨⟨hpk.1, hpk.2.2.1⟩, ?_, (hR3.below hbl (by omega)).other (by omega) 0 vb', (hb7.trans (hbl.mono (by omega))).setCell (p := ⟨p, 0, none⟩) (by show w.heap.size ≤ p; omega) vb'⟩
        have h := hO7.addBox ⟨nm, nx, ms⟩ (.slice Av ms.length cv) vb' hv7 (fun q e j hj => by
          have h1 := Hold.out j q hj
          have h2 := (hv3.lt q e).1
          omega) hgrow (by rw [show (StS.boxes ⟨l.take k, sp⟩).length = k from hlk2]; exact hown') (by
            rcases hat with h | h
            · exact .inl h
            · exact .inr ⟨_, h, Nat.le_refl _⟩)
        rw [Htk.out]
        exact h
      have Hfin := Lib.hid hfin
      have hrbA := hrb.alloc (.cells #[.string nm, .int .i64 nx, .slice Av ms.length cv] 83)
      clear hlk2 hfin hbB hY3 hR3 hb7 hv3 hv Hold Htk
      go_wp2_with (at_builtin; refine wpList_append_own_at _ rfl _ _ 54 rfl (w.heap.size + 2) 83 i0 (.agg #[.string ⟨#[]⟩, .int .i64 0, .slice none 0 0]) 3 48 Tryd.underlying54 hi hz0 hz1 hz2 rfl (by decide) (.slice Ab k cb) k (boxesCells (l.take k) vm) rfl hrbA ⟨w6.heap.size, 0, none⟩ 1 1 [.string nm, .int .i64 nx, .slice Av ms.length cv] rfl rfl hnw (by simp [Value.oneCell']) (by unfold maxLen; omega) (by omega) (by simp; omega) ?_; intro v' w8 hown' hgrow _ hat; obtain ⟨Av2, cv2, rfl⟩ := own_sliceE hown'; obtain ⟨⟨q0, q1⟩, hO9, hR9, hb9⟩ := Hfin.out _ w8 hown' hgrow hat; have HO9 := Lib.hid hO9; have HR9 := Lib.hid hR9; have Hb9 := Lib.hid hb9; clear hO9 hR9 hb9 hown' hgrow hat Hfin hrbA hrb hO3 hnw)
      go_roundw
      case rel => exact ⟨k + 1, _, _, by omega, by go_num, HO9.out, HR9.out, Hb9⟩
      case measure => simp [intOf]; omega
    · obtain rfl : k = l.length := by omega
      rw [List.take_length] at hO
      obtain ⟨Ab, cb, rfl⟩ := own_sliceE hO.rb
      have e0 := hO.c0
      have e1 := hO.c1
      simp only at e0
      have r0 := hR.cell 0 _ rfl
      have r1 := hR.cell 1 _ rfl
      have g0 := hR.frozen 0
      have g1 := hR.frozen 1
      have hZ := (hR.set 0 (.slice Ab l.length cb)).set 1 (.slice As sp.length cs)
      have z0 := hZ.cell 0 _ rfl
      have z1 := hZ.cell 1 _ rfl
      have hOz := ((hO.setOther (w.heap.size + 1) 0 (.slice Ab l.length cb) (by omega)).setOther (w.heap.size + 1) 1 (.slice As sp.length cs) (by omega)).mono (B' := w.heap.size) (by omega)
      have hbz := (Hb.out.setCell (p := ⟨w.heap.size + 1, 0, none⟩) (by show w.heap.size ≤ w.heap.size + 1; omega) (.slice Ab l.length cb)).setCell (p := ⟨w.heap.size + 1, 1, none⟩) (by show w.heap.size ≤ w.heap.size + 1; omega) (.slice As sp.length cs)
      have HOz := Lib.hid hOz
      have Hbz := Lib.hid hbz
      clear hO hR hZ hOz hbz
      go_wp2_with fail
      exact bodyPost_ret (v := .agg #[.slice Ab l.length cb, .slice As sp.length cs]) (by simp [results, Tryd.results36, go_sem, z0, z1]) rfl ⟨_, _, vm, p, rfl, HOz.out, Hbz.out⟩
end Go.Proofs.YtpncahklapfoaaaDoor
