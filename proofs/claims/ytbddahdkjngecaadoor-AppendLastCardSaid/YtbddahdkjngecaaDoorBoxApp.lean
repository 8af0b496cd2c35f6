/- box.apply: what it makes of a state of the call's own. -/
import Derived.Test.YtbddahdkjngecaaDoorBoxAdd
import Derived.Test.YtbddahdkjngecaaDoorBoxMls
import Derived.Test.YtbddahdkjngecaaDoorBoxChk
import Derived.RegionTactic
import Derived.BigRegion
namespace Go.Proofs.YtbddahdkjngecaaDoor
open Go.RowKit
attribute [local go_sem ↓] Go.wp_at_zero Go.wp_at_succ
set_option linter.unusedVariables false

/-- Bounds that a state keeps. -/
structure InvS (s : StS) : Prop where
  nb : s.boxes.length ≤ 5
  ns : s.spool.length ≤ 20
  nm : ∀ b ∈ s.boxes, b.mails.length ≤ 30 ∧ 0 ≤ b.next ∧ ∀ m ∈ b.mails, 0 ≤ m.flags ∧ m.flags ≤ 31 ∧ m.text.size ≤ 2000
theorem OkS.inv {s : StS} (h : OkS s) : InvS s := ⟨h.nb, h.ns, fun b hb => by
  obtain ⟨h1, _, h2, _, h3⟩ := h.nm b hb
  exact ⟨h1, by omega, fun m hm => ⟨(h3 m hm).2.2.1, (h3 m hm).2.2.2.1, (h3 m hm).2.2.2.2⟩⟩⟩
theorem InvS.z {s : StS} (h : InvS s) : OkZ s := ⟨by have := h.nb; omega, fun b hb => by
  obtain ⟨h1, _, h3⟩ := h.nm b hb
  exact ⟨by omega, fun m hm => (h3 m hm).2.2⟩⟩
/-- What stands in apply: the state, the entry. -/
structure KA (w W : World) (B p h : Nat) (s : StS) (vb vs : Value) (vm : List Value) (x : Ent) : Prop where
  o : OwnSt W B p s vb vs vm
  x : EB W h x
  bl : Below B w W
theorem KA.later {w W W' : World} {B p h : Nat} {s : StS} {vb vs : Value} {vm : List Value} {x : Ent} (k : KA w W B p h s vb vs vm x) (hb : Below W.heap.size W W') : KA w W' B p h s vb vs vm x :=
  ⟨k.o.later hb, (hb.block h (Array.getElem?_eq_some_iff.1 k.x).1).trans k.x, k.bl.trans (hb.mono (by have := k.o.pB; have := k.o.lt; omega))⟩
theorem keepA {f : FuncId} {args : Array Value} {r : Value} {w W : World} {B p h : Nat} {s : StS} {vb vs b : Value} {vm : List Value} {x : Ent} {j : Nat}
    (hc : KA w W B p h s vb vs vm x → Calls Tryd.prog f args W fun e w' => e = .returned r ∧ Below W.heap.size W w')
    (hk : W.cell? ⟨p, 0, none⟩ = some vb ∧ W.cell? ⟨h, j, none⟩ = some b ∧ KA w W B p h s vb vs vm x) :
    Calls Tryd.prog f args W fun e w' => e = .returned r ∧ (w'.cell? ⟨p, 0, none⟩ = some vb ∧ w'.cell? ⟨h, j, none⟩ = some b ∧ KA w w' B p h s vb vs vm x) :=
  (hc hk.2.2).mono fun _ _ ⟨he, hb⟩ => ⟨he, cell_later hb hk.1, cell_later hb hk.2.1, hk.2.2.later hb⟩
set_option maxRecDepth 100000 in
set_option maxHeartbeats 8000000 in
theorem apply_spool (s : StS) (bx : ByteArray) (ud fl : Int) (ds tx : ByteArray) (B p : Nat) (vb vs : Value) (vm : List Value) (w : World) (h : OwnSt w B p s vb vs vm) (hi : InvS s) :
    Calls Tryd.prog 25 #[.pointer (some ⟨p, 0, none⟩), entVal ⟨6, bx, ud, fl, ds, tx⟩] w fun e w' => StepOk w B p (applyR s ⟨6, bx, ud, fl, ds, tx⟩) e w' := by
  unfold entVal
  simp only
  obtain ⟨A, c, rfl⟩ := own_sliceE h.rb
  have hbA : Below w.heap.size w (w.alloc (.cells #[.int .i64 6, .string bx, .int .i64 ud, .int .i64 fl, .string ds, .string tx] 31)) := (Below.refl _ w).alloc (Nat.le_refl _) _
  have hB : B ≤ w.heap.size := by have := h.pB; have := h.lt; omega
  have hX : EB (w.alloc (.cells #[.int .i64 6, .string bx, .int .i64 ud, .int .i64 fl, .string ds, .string tx] 31)) w.heap.size ⟨6, bx, ud, fl, ds, tx⟩ := World.alloc_heap_new w _
  have hka : KA w (w.alloc (.cells #[.int .i64 6, .string bx, .int .i64 ud, .int .i64 fl, .string ds, .string tx] 31)).drew B p w.heap.size s (.slice A s.boxes.length c) vs vm ⟨6, bx, ud, fl, ds, tx⟩ := KA.later ⟨h.later hbA, hX, hbA.mono hB⟩ (bel_drew _)
  have e0 := hka.o.c0
  have x1 := (EB.cells hka.x).2.1
  have hfi := fun W (hW : KA w W B p w.heap.size s (.slice A s.boxes.length c) vs vm ⟨6, bx, ud, fl, ds, tx⟩) => find_calls s.boxes A c bx W (by have := hi.nb; omega) (hW.o.bx rfl)
  have Hka := Lib.hid hka
  have Hfi := Lib.hid hfi
  have Hi := Lib.hid hi
  have hnb := hi.nb
  have hns := hi.ns
  clear hfi hX hbA hka h hi
  go_enter Tryd.func25, Tryd.ntmps25
  go_wp2_with fail
  go_region_held3 (fun w' => w'.cell? ⟨p, 0, none⟩ = some (.slice A s.boxes.length c) ∧ w'.cell? ⟨w.heap.size, 1, none⟩ = some (.string bx) ∧ KA w w' B p w.heap.size s (.slice A s.boxes.length c) vs vm ⟨6, bx, ud, fl, ds, tx⟩) (first | exact hKK | exact ⟨e0, x1, Hka.out⟩)
    (first
      | (go_at_call 28; (with_reducible refine (keepA (w := w) (B := B) (p := p) (h := w.heap.size) (s := s) (vb := .slice A s.boxes.length c) (vs := vs) (vm := vm) (x := ⟨6, bx, ud, fl, ds, tx⟩) (b := .string bx) (j := 1) (Hfi.out _) ?_).mono ?_); (first | assumption | exact hS); rintro e w2 ⟨rfl, hKK⟩))
  obtain ⟨_, _, hK⟩ := hKK
  obtain ⟨x0, x1, x2, x3, x4, x5⟩ := EB.cells hK.x
  have e0 := hK.o.c0
  have HK := Lib.hid hK
  have hlt2 : w.heap.size < w2.heap.size := (Array.getElem?_eq_some_iff.1 hK.x).1
  have hpl := hK.o.lt
  have hpB := hK.o.pB
  clear Hka Hfi hK
  obtain ⟨A2, c2, rfl⟩ := own_sliceE HK.out.o.rs
  have e1 := HK.out.o.c1
  have hr : applyR s ⟨6, bx, ud, fl, ds, tx⟩ = if s.spool.length = 20 then (5, s) else (0, { s with spool := s.spool ++ [⟨6, bx, ud, fl, ds, tx⟩] }) := by unfold applyR; rw [if_pos rfl]
  by_cases h20 : s.spool.length = 20
  · rw [if_pos h20] at hr
    have Hr := Lib.hid hr
    rw [h20] at e1
    clear hr
    go_wp2_with fail
    go_ret
    exact ⟨by rw [Hr.out]; rfl, _, _, _, by rw [Hr.out]; exact HK.out.o, HK.out.bl⟩
  · rw [if_neg h20] at hr
    have Hr := Lib.hid hr
    have hne : (((s.spool.length : Nat) : Int) == 20) = false := by rw [beq_eq_false_iff_ne]; omega
    have hbB : Below w2.heap.size w2 (w2.alloc (.cells #[.int .i64 6, .string bx, .int .i64 ud, .int .i64 fl, .string ds, .string tx] 31)) := (Below.refl _ w2).alloc (Nat.le_refl _) _
    have hrs := HK.out.o.rs
    have y0 := cell_later hbB x0
    have y1 := cell_later hbB x1
    have y2 := cell_later hbB x2
    have y3 := cell_later hbB x3
    have y4 := cell_later hbB x4
    have y5 := cell_later hbB x5
    have y6 := cell_later hbB e1
    have hfin : ∀ (g' cap : Nat) (w11 X : World), Below w2.heap.size w2 X → w11.ownsRow B 31 6 (.slice (some ⟨g', 0, none⟩) (s.spool.length + 1) cap) (s.spool.length + 1) (entsCells s.spool ++ [.int .i64 6, .string bx, .int .i64 ud, .int .i64 fl, .string ds, .string tx]) → X.grownBy w11 (Value.ownBlock (.slice A2 s.spool.length c2)) → ((Value.slice A2 s.spool.length c2).ownBlock = some g' ∨ w2.heap.size ≤ g') →
        (w11.cell? ⟨p, 1, none⟩ = some (.slice A2 s.spool.length c2) ∧ w11.frozen? ⟨p, 1, none⟩ = false) ∧ OwnSt (w11.setCell ⟨p, 1, none⟩ (.slice (some ⟨g', 0, none⟩) (s.spool.length + 1) cap)) B p ⟨s.boxes, s.spool ++ [⟨6, bx, ud, fl, ds, tx⟩]⟩ (.slice A s.boxes.length c) (.slice (some ⟨g', 0, none⟩) (s.spool.length + 1) cap) vm ∧ Below B w (w11.setCell ⟨p, 1, none⟩ (.slice (some ⟨g', 0, none⟩) (s.spool.length + 1) cap)) := by
      intro g' cap w11 X hX hown hg hat
      have hg2 := grown_pre hg hX
      have hpk := HK.out.o.pkeep hg2 2 rfl (by decide)
      refine ⟨⟨hpk.2.1, hpk.2.2.2⟩, HK.out.o.addSpool ⟨6, bx, ud, fl, ds, tx⟩ _ hg2 hown (by
        rcases hat with e | e
        · exact .inl e.symm
        · exact .inr ⟨g', rfl, e⟩), ?_⟩
      have hbl : Below B w2 w11 := (Below.refl B w2).grown hg2 (by omega) (fun k e => (HK.out.o.blk 2 k (by show some _ = _; rw [e])).1)
      exact (HK.out.bl.trans hbl).setCell (p := ⟨p, 1, none⟩) hpB _
    have Hfin := Lib.hid hfin
    obtain ⟨i0, hi0, hz0, hz1, hz2⟩ := info_parts info_ent
    clear hr hfin h20 hbB e0
    go_wp2_with fail
    go_region_law (first
      | (refine step_append_lies _ (by rfl) _ _ _ (by rfl) B 31 i0 _ 6 72 Tryd.underlying26 hi0 hz0 hz1 hz2 rfl (by omega) (.slice A2 s.spool.length c2) s.spool.length (entsCells s.spool) (by rfl) (hrs.alloc _) ⟨w2.heap.size, 0, none⟩ 1 1 [.int .i64 6, .string bx, .int .i64 ud, .int .i64 fl, .string ds, .string tx] (by rfl) (by rfl) (World.news_of_block (cs := #[.int .i64 6, .string bx, .int .i64 ud, .int .i64 fl, .string ds, .string tx]) (t := 31) (fr := (0, 0)) (heap_alloc_new w2 _)) (by simp [Value.oneCell']) (by omega) (by unfold maxLen; omega) (by omega) (by simp; omega) _ (by rfl) ?_; intro g' cap w11 hown1 hgrow hat hglt; have fin := Hfin.out g' cap w11 _ (((Below.refl _ w2).alloc (Nat.le_refl _) _).drew) hown1 hgrow (by rcases hat with h | h; exact .inl h; right; rw [h]; simp); have k1 := fin.1.1; have k2 := fin.1.2; have Fin2 := Lib.hid fin.2; clear fin hown1 hgrow hat)
      | fail)
    all_goals
      clear hrs Hfin
      go_wp2
      go_ret
      exact ⟨by rw [Hr.out]; rfl, _, _, _, by rw [Hr.out]; exact Fin2.out.1, Fin2.out.2⟩
theorem applyR_none (s : StS) (x : Ent) (h6 : x.kind ≠ 6) (h1 : x.kind ≠ 1) (hf : findR s.boxes x.box < 0) : applyR s x = (7, s) := by
  unfold applyR
  rw [if_neg h6, if_neg h1]
  split
  · rfl
  · rw [if_pos hf]
theorem applyR_some (s : StS) (x : Ent) (h6 : x.kind ≠ 6) (h1 : x.kind ≠ 1) (i : Nat) (b : BoxS) (hf : findR s.boxes x.box = i) (hb : s.boxes[i]? = some b) : applyR s x =
    if x.kind = 2 then addR s i x.flags x.text
      else if x.kind = 4 then (0, { s with boxes := s.boxes.set i { b with mails := b.mails.filter fun m => !delB m } })
      else match b.mails[(idxR (uidB x.uid) b.mails).toNat]? with
        | none => (7, s)
        | some m => if idxR (uidB x.uid) b.mails < 0 then (7, s)
          else if x.kind = 3 then (0, { s with boxes := s.boxes.set i { b with mails := b.mails.set (idxR (uidB x.uid) b.mails).toNat { m with flags := x.flags } } })
          else if findR s.boxes x.dst < 0 then (7, s) else addR s (findR s.boxes x.dst).toNat m.flags m.text := by
  unfold applyR
  rw [if_neg h6, if_neg h1, hf]
  simp only [Int.toNat_natCast, hb]
  rw [if_neg (by omega)]
  rfl
theorem pick_box (s : StS) (bx : ByteArray) (h : ¬ findR s.boxes bx < 0) : ∃ (i : Nat) (b : BoxS), findR s.boxes bx = i ∧ s.boxes[i]? = some b ∧ i < s.boxes.length := by
  have hl := idxR_lt (fun b : BoxS => decide (b.name = bx)) s.boxes
  have hi := hl.2.2 (by unfold findR at h; omega)
  refine ⟨(findR s.boxes bx).toNat, s.boxes[(findR s.boxes bx).toNat]'hi, by omega, List.getElem?_eq_getElem hi, hi⟩
theorem pick_mail (ms : List MailS) (u : Int) (h : ¬ idxR (uidB u) ms < 0) : ∃ (k : Nat) (m : MailS), idxR (uidB u) ms = k ∧ ms[k]? = some m ∧ k < ms.length := by
  have hl := idxR_lt (uidB u) ms
  have hi := hl.2.2 (by omega)
  exact ⟨(idxR (uidB u) ms).toNat, ms[(idxR (uidB u) ms).toNat]'hi, by omega, List.getElem?_eq_getElem hi, hi⟩
set_option maxRecDepth 100000 in
set_option maxHeartbeats 8000000 in
theorem apply_create (s : StS) (bx : ByteArray) (ud fl : Int) (ds tx : ByteArray) (B p : Nat) (vb vs : Value) (vm : List Value) (w : World) (h : OwnSt w B p s vb vs vm) (hi : InvS s) :
    Calls Tryd.prog 25 #[.pointer (some ⟨p, 0, none⟩), entVal ⟨1, bx, ud, fl, ds, tx⟩] w fun e w' => StepOk w B p (applyR s ⟨1, bx, ud, fl, ds, tx⟩) e w' := by
  unfold entVal
  simp only
  obtain ⟨A, c, rfl⟩ := own_sliceE h.rb
  have hbA : Below w.heap.size w (w.alloc (.cells #[.int .i64 1, .string bx, .int .i64 ud, .int .i64 fl, .string ds, .string tx] 31)) := (Below.refl _ w).alloc (Nat.le_refl _) _
  have hB : B ≤ w.heap.size := by have := h.pB; have := h.lt; omega
  have hX : EB (w.alloc (.cells #[.int .i64 1, .string bx, .int .i64 ud, .int .i64 fl, .string ds, .string tx] 31)) w.heap.size ⟨1, bx, ud, fl, ds, tx⟩ := World.alloc_heap_new w _
  have hka : KA w (w.alloc (.cells #[.int .i64 1, .string bx, .int .i64 ud, .int .i64 fl, .string ds, .string tx] 31)).drew B p w.heap.size s (.slice A s.boxes.length c) vs vm ⟨1, bx, ud, fl, ds, tx⟩ := KA.later ⟨h.later hbA, hX, hbA.mono hB⟩ (bel_drew _)
  have e0 := hka.o.c0
  have x1 := (EB.cells hka.x).2.1
  have hfi := fun W (hW : KA w W B p w.heap.size s (.slice A s.boxes.length c) vs vm ⟨1, bx, ud, fl, ds, tx⟩) => find_calls s.boxes A c bx W (by have := hi.nb; omega) (hW.o.bx rfl)
  have Hka := Lib.hid hka
  have Hfi := Lib.hid hfi
  have Hi := Lib.hid hi
  have hnb := hi.nb
  have hns := hi.ns
  clear hfi hX hbA hka h hi
  go_enter Tryd.func25, Tryd.ntmps25
  go_wp2_with fail
  go_region_held3 (fun w' => w'.cell? ⟨p, 0, none⟩ = some (.slice A s.boxes.length c) ∧ w'.cell? ⟨w.heap.size, 1, none⟩ = some (.string bx) ∧ KA w w' B p w.heap.size s (.slice A s.boxes.length c) vs vm ⟨1, bx, ud, fl, ds, tx⟩) (first | exact hKK | exact ⟨e0, x1, Hka.out⟩)
    (first
      | (go_at_call 28; (with_reducible refine (keepA (w := w) (B := B) (p := p) (h := w.heap.size) (s := s) (vb := .slice A s.boxes.length c) (vs := vs) (vm := vm) (x := ⟨1, bx, ud, fl, ds, tx⟩) (b := .string bx) (j := 1) (Hfi.out _) ?_).mono ?_); (first | assumption | exact hS); rintro e w2 ⟨rfl, hKK⟩))
  obtain ⟨_, _, hK⟩ := hKK
  obtain ⟨x0, x1, x2, x3, x4, x5⟩ := EB.cells hK.x
  have e0 := hK.o.c0
  have HK := Lib.hid hK
  have hlt2 : w.heap.size < w2.heap.size := (Array.getElem?_eq_some_iff.1 hK.x).1
  have hpl := hK.o.lt
  have hpB := hK.o.pB
  clear Hka Hfi hK
  have hr : applyR s ⟨1, bx, ud, fl, ds, tx⟩ = if 0 ≤ findR s.boxes bx then (10, s) else if s.boxes.length = 5 then (5, s) else (0, { s with boxes := s.boxes ++ [⟨bx, 1, []⟩] }) := by unfold applyR; rw [if_neg (by simp), if_pos rfl]
  generalize findR s.boxes bx = q at *
  by_cases hq : 0 ≤ q
  · rw [if_pos hq] at hr
    have Hr := Lib.hid hr
    clear hr
    go_wp2_with fail
    go_ret
    exact ⟨by rw [Hr.out]; rfl, _, _, _, by rw [Hr.out]; exact HK.out.o, HK.out.bl⟩
  · rw [if_neg hq] at hr
    by_cases h5 : s.boxes.length = 5
    · rw [if_pos h5] at hr
      have Hr := Lib.hid hr
      rw [h5] at e0
      clear hr
      go_wp2_with fail
      go_ret
      exact ⟨by rw [Hr.out]; rfl, _, _, _, by rw [Hr.out]; exact HK.out.o, HK.out.bl⟩
    · rw [if_neg h5] at hr
      have Hr := Lib.hid hr
      have hne : (((s.boxes.length : Nat) : Int) == 5) = false := by rw [beq_eq_false_iff_ne]; omega
      have hbB : Below w2.heap.size w2 (w2.alloc (.cells #[.string bx, .int .i64 1, .slice none 0 0] 39)) := (Below.refl _ w2).alloc (Nat.le_refl _) _
      have hrb := HK.out.o.rb
      have y1 := cell_later hbB x1
      have y6 := cell_later hbB e0
      have hfin : ∀ (g' cap : Nat) (w11 X : World), Below w2.heap.size w2 X → w11.ownsRow B 39 3 (.slice (some ⟨g', 0, none⟩) (s.boxes.length + 1) cap) (s.boxes.length + 1) (boxesCells s.boxes vm ++ [.string bx, .int .i64 1, .slice none 0 0]) → X.grownBy w11 (Value.ownBlock (.slice A s.boxes.length c)) → ((Value.slice A s.boxes.length c).ownBlock = some g' ∨ w2.heap.size ≤ g') →
          (w11.cell? ⟨p, 0, none⟩ = some (.slice A s.boxes.length c) ∧ w11.frozen? ⟨p, 0, none⟩ = false) ∧ OwnSt (w11.setCell ⟨p, 0, none⟩ (.slice (some ⟨g', 0, none⟩) (s.boxes.length + 1) cap)) B p ⟨s.boxes ++ [⟨bx, 1, []⟩], s.spool⟩ (.slice (some ⟨g', 0, none⟩) (s.boxes.length + 1) cap) vs (vm ++ [.slice none 0 0]) ∧ Below B w (w11.setCell ⟨p, 0, none⟩ (.slice (some ⟨g', 0, none⟩) (s.boxes.length + 1) cap)) := by
        intro g' cap w11 X hX hown hg hat
        have hg2 := grown_pre hg hX
        have hpk := HK.out.o.pkeep hg2 1 rfl (by decide)
        refine ⟨⟨hpk.1, hpk.2.2.1⟩, HK.out.o.addBox ⟨bx, 1, []⟩ (.slice none 0 0) _ (World.ownsRow_nil _ _ _ _) (fun k e => by cases e) hg2 hown (by
          rcases hat with e | e
          · exact .inl e.symm
          · exact .inr ⟨g', rfl, e⟩), ?_⟩
        have hbl : Below B w2 w11 := (Below.refl B w2).grown hg2 (by omega) (fun k e => (HK.out.o.blk 1 k (by show some _ = _; rw [e])).1)
        exact (HK.out.bl.trans hbl).setCell (p := ⟨p, 0, none⟩) hpB _
      have Hfin := Lib.hid hfin
      obtain ⟨i0, hi0, hz0, hz1, hz2⟩ := info_parts info_box
      clear hr hfin h5 hbB
      go_wp2_with fail
      go_region_law (first
        | (refine step_append_lies _ (by rfl) _ _ _ (by rfl) B 39 i0 _ 3 48 Tryd.underlying25 hi0 hz0 hz1 hz2 rfl (by omega) (.slice A s.boxes.length c) s.boxes.length (boxesCells s.boxes vm) (by rfl) (hrb.alloc _) ⟨w2.heap.size, 0, none⟩ 1 1 [.string bx, .int .i64 1, .slice none 0 0] (by rfl) (by rfl) (World.news_of_block (cs := #[.string bx, .int .i64 1, .slice none 0 0]) (t := 39) (fr := (0, 0)) (heap_alloc_new w2 _)) (by simp [Value.oneCell']) (by omega) (by unfold maxLen; omega) (by omega) (by simp; omega) _ (by rfl) ?_; intro g' cap w11 hown1 hgrow hat hglt; have fin := Hfin.out g' cap w11 _ (((Below.refl _ w2).alloc (Nat.le_refl _) _).drew) hown1 hgrow (by rcases hat with h | h; exact .inl h; right; rw [h]; simp); have k1 := fin.1.1; have k2 := fin.1.2; have Fin2 := Lib.hid fin.2; clear fin hown1 hgrow hat)
        | fail)
      all_goals
        clear hrb Hfin
        go_wp2
        go_ret
        exact ⟨by rw [Hr.out]; rfl, _, _, _, by rw [Hr.out]; exact Fin2.out.1, Fin2.out.2⟩
set_option maxRecDepth 100000 in
set_option maxHeartbeats 8000000 in
theorem apply_none (s : StS) (bx : ByteArray) (ud fl : Int) (ds tx : ByteArray) (B p : Nat) (vb vs : Value) (vm : List Value) (w : World) (h : OwnSt w B p s vb vs vm) (hi : InvS s) (kd : Int) (h6 : (kd == 6) = false) (h1 : (kd == 1) = false) (hf : findR s.boxes bx < 0) :
    Calls Tryd.prog 25 #[.pointer (some ⟨p, 0, none⟩), entVal ⟨kd, bx, ud, fl, ds, tx⟩] w fun e w' => StepOk w B p (applyR s ⟨kd, bx, ud, fl, ds, tx⟩) e w' := by
  unfold entVal
  simp only
  obtain ⟨A, c, rfl⟩ := own_sliceE h.rb
  have hbA : Below w.heap.size w (w.alloc (.cells #[.int .i64 kd, .string bx, .int .i64 ud, .int .i64 fl, .string ds, .string tx] 31)) := (Below.refl _ w).alloc (Nat.le_refl _) _
  have hB : B ≤ w.heap.size := by have := h.pB; have := h.lt; omega
  have hX : EB (w.alloc (.cells #[.int .i64 kd, .string bx, .int .i64 ud, .int .i64 fl, .string ds, .string tx] 31)) w.heap.size ⟨kd, bx, ud, fl, ds, tx⟩ := World.alloc_heap_new w _
  have hka : KA w (w.alloc (.cells #[.int .i64 kd, .string bx, .int .i64 ud, .int .i64 fl, .string ds, .string tx] 31)).drew B p w.heap.size s (.slice A s.boxes.length c) vs vm ⟨kd, bx, ud, fl, ds, tx⟩ := KA.later ⟨h.later hbA, hX, hbA.mono hB⟩ (bel_drew _)
  have e0 := hka.o.c0
  have x1 := (EB.cells hka.x).2.1
  have hfi := fun W (hW : KA w W B p w.heap.size s (.slice A s.boxes.length c) vs vm ⟨kd, bx, ud, fl, ds, tx⟩) => find_calls s.boxes A c bx W (by have := hi.nb; omega) (hW.o.bx rfl)
  have Hka := Lib.hid hka
  have Hfi := Lib.hid hfi
  have Hi := Lib.hid hi
  have hnb := hi.nb
  have hns := hi.ns
  clear hfi hX hbA hka h hi
  go_enter Tryd.func25, Tryd.ntmps25
  go_wp2_with fail
  go_region_held3 (fun w' => w'.cell? ⟨p, 0, none⟩ = some (.slice A s.boxes.length c) ∧ w'.cell? ⟨w.heap.size, 1, none⟩ = some (.string bx) ∧ KA w w' B p w.heap.size s (.slice A s.boxes.length c) vs vm ⟨kd, bx, ud, fl, ds, tx⟩) (first | exact hKK | exact ⟨e0, x1, Hka.out⟩)
    (first
      | (go_at_call 28; (with_reducible refine (keepA (w := w) (B := B) (p := p) (h := w.heap.size) (s := s) (vb := .slice A s.boxes.length c) (vs := vs) (vm := vm) (x := ⟨kd, bx, ud, fl, ds, tx⟩) (b := .string bx) (j := 1) (Hfi.out _) ?_).mono ?_); (first | assumption | exact hS); rintro e w2 ⟨rfl, hKK⟩))
  obtain ⟨_, _, hK⟩ := hKK
  obtain ⟨x0, x1, x2, x3, x4, x5⟩ := EB.cells hK.x
  have e0 := hK.o.c0
  have HK := Lib.hid hK
  have hlt2 : w.heap.size < w2.heap.size := (Array.getElem?_eq_some_iff.1 hK.x).1
  have hpl := hK.o.lt
  have hpB := hK.o.pB
  clear Hka Hfi hK
  have hr : applyR s ⟨kd, bx, ud, fl, ds, tx⟩ = (7, s) := applyR_none s _ (by simpa using h6) (by simpa using h1) hf
  generalize findR s.boxes bx = q at *
  have Hr := Lib.hid hr
  clear hr
  go_wp2_with fail
  go_ret
  exact ⟨by rw [Hr.out]; rfl, _, _, _, by rw [Hr.out]; exact HK.out.o, HK.out.bl⟩
set_option maxRecDepth 100000 in
set_option maxHeartbeats 8000000 in
theorem apply_append (s : StS) (bx : ByteArray) (ud fl : Int) (ds tx : ByteArray) (B p : Nat) (vb vs : Value) (vm : List Value) (w : World) (h : OwnSt w B p s vb vs vm) (hi : InvS s) (i : Nat) (b : BoxS) (hf : findR s.boxes bx = i) (hb : s.boxes[i]? = some b) (hil : i < s.boxes.length) (ht : tx.size ≤ 100000) :
    Calls Tryd.prog 25 #[.pointer (some ⟨p, 0, none⟩), entVal ⟨2, bx, ud, fl, ds, tx⟩] w fun e w' => StepOk w B p (applyR s ⟨2, bx, ud, fl, ds, tx⟩) e w' := by
  unfold entVal
  simp only
  obtain ⟨A, c, rfl⟩ := own_sliceE h.rb
  have hbA : Below w.heap.size w (w.alloc (.cells #[.int .i64 2, .string bx, .int .i64 ud, .int .i64 fl, .string ds, .string tx] 31)) := (Below.refl _ w).alloc (Nat.le_refl _) _
  have hB : B ≤ w.heap.size := by have := h.pB; have := h.lt; omega
  have hX : EB (w.alloc (.cells #[.int .i64 2, .string bx, .int .i64 ud, .int .i64 fl, .string ds, .string tx] 31)) w.heap.size ⟨2, bx, ud, fl, ds, tx⟩ := World.alloc_heap_new w _
  have hka : KA w (w.alloc (.cells #[.int .i64 2, .string bx, .int .i64 ud, .int .i64 fl, .string ds, .string tx] 31)).drew B p w.heap.size s (.slice A s.boxes.length c) vs vm ⟨2, bx, ud, fl, ds, tx⟩ := KA.later ⟨h.later hbA, hX, hbA.mono hB⟩ (bel_drew _)
  have e0 := hka.o.c0
  have x1 := (EB.cells hka.x).2.1
  have hfi := fun W (hW : KA w W B p w.heap.size s (.slice A s.boxes.length c) vs vm ⟨2, bx, ud, fl, ds, tx⟩) => find_calls s.boxes A c bx W (by have := hi.nb; omega) (hW.o.bx rfl)
  have Hka := Lib.hid hka
  have Hfi := Lib.hid hfi
  have Hi := Lib.hid hi
  have hnb := hi.nb
  have hns := hi.ns
  clear hfi hX hbA hka h hi
  go_enter Tryd.func25, Tryd.ntmps25
  go_wp2_with fail
  go_region_held3 (fun w' => w'.cell? ⟨p, 0, none⟩ = some (.slice A s.boxes.length c) ∧ w'.cell? ⟨w.heap.size, 1, none⟩ = some (.string bx) ∧ KA w w' B p w.heap.size s (.slice A s.boxes.length c) vs vm ⟨2, bx, ud, fl, ds, tx⟩) (first | exact hKK | exact ⟨e0, x1, Hka.out⟩)
    (first
      | (go_at_call 28; (with_reducible refine (keepA (w := w) (B := B) (p := p) (h := w.heap.size) (s := s) (vb := .slice A s.boxes.length c) (vs := vs) (vm := vm) (x := ⟨2, bx, ud, fl, ds, tx⟩) (b := .string bx) (j := 1) (Hfi.out _) ?_).mono ?_); (first | assumption | exact hS); rintro e w2 ⟨rfl, hKK⟩))
  obtain ⟨_, _, hK⟩ := hKK
  obtain ⟨x0, x1, x2, x3, x4, x5⟩ := EB.cells hK.x
  have e0 := hK.o.c0
  have HK := Lib.hid hK
  have hlt2 : w.heap.size < w2.heap.size := (Array.getElem?_eq_some_iff.1 hK.x).1
  have hpl := hK.o.lt
  have hpB := hK.o.pB
  clear Hka Hfi hK
  have hr : applyR s ⟨2, bx, ud, fl, ds, tx⟩ = addR s i fl tx := by rw [applyR_some s _ (by simp) (by simp) i b hf hb]; rfl
  have had := add_calls s i fl tx B p _ _ _ w2 HK.out.o hil Hi.out.z (fun b hb => (Hi.out.nm b hb).2.1) ht
  have Hr := Lib.hid hr
  have Had := Lib.hid had
  have Hb := Lib.hid hb
  have hi0 : ¬ (i : Int) < 0 := by omega
  clear hr had hb hf
  go_wp2_with fail
  refine Had.out.mono ?_
  rintro e w3 ⟨rfl, vb', vs', vm', hO3, hb3⟩
  have HO3 := Lib.hid hO3
  have Hb3 := Lib.hid (HK.out.bl.trans hb3)
  clear hO3 hb3 Had
  go_wp2_with fail
  go_ret
  exact ⟨by rw [Hr.out]; rfl, vb', vs', vm', by rw [Hr.out]; exact HO3.out, Hb3.out⟩
set_option maxRecDepth 100000 in
set_option maxHeartbeats 8000000 in
theorem apply_expunge (s : StS) (bx : ByteArray) (ud fl : Int) (ds tx : ByteArray) (B p : Nat) (vb vs : Value) (vm : List Value) (w : World) (h : OwnSt w B p s vb vs vm) (hi : InvS s) (i : Nat) (b : BoxS) (hf : findR s.boxes bx = i) (hb : s.boxes[i]? = some b) (hil : i < s.boxes.length) :
    Calls Tryd.prog 25 #[.pointer (some ⟨p, 0, none⟩), entVal ⟨4, bx, ud, fl, ds, tx⟩] w fun e w' => StepOk w B p (applyR s ⟨4, bx, ud, fl, ds, tx⟩) e w' := by
  unfold entVal
  simp only
  obtain ⟨A, c, rfl⟩ := own_sliceE h.rb
  have hbA : Below w.heap.size w (w.alloc (.cells #[.int .i64 4, .string bx, .int .i64 ud, .int .i64 fl, .string ds, .string tx] 31)) := (Below.refl _ w).alloc (Nat.le_refl _) _
  have hB : B ≤ w.heap.size := by have := h.pB; have := h.lt; omega
  have hX : EB (w.alloc (.cells #[.int .i64 4, .string bx, .int .i64 ud, .int .i64 fl, .string ds, .string tx] 31)) w.heap.size ⟨4, bx, ud, fl, ds, tx⟩ := World.alloc_heap_new w _
  have hka : KA w (w.alloc (.cells #[.int .i64 4, .string bx, .int .i64 ud, .int .i64 fl, .string ds, .string tx] 31)).drew B p w.heap.size s (.slice A s.boxes.length c) vs vm ⟨4, bx, ud, fl, ds, tx⟩ := KA.later ⟨h.later hbA, hX, hbA.mono hB⟩ (bel_drew _)
  have e0 := hka.o.c0
  have x1 := (EB.cells hka.x).2.1
  have hfi := fun W (hW : KA w W B p w.heap.size s (.slice A s.boxes.length c) vs vm ⟨4, bx, ud, fl, ds, tx⟩) => find_calls s.boxes A c bx W (by have := hi.nb; omega) (hW.o.bx rfl)
  have Hka := Lib.hid hka
  have Hfi := Lib.hid hfi
  have Hi := Lib.hid hi
  have hnb := hi.nb
  have hns := hi.ns
  clear hfi hX hbA hka h hi
  go_enter Tryd.func25, Tryd.ntmps25
  go_wp2_with fail
  go_region_held3 (fun w' => w'.cell? ⟨p, 0, none⟩ = some (.slice A s.boxes.length c) ∧ w'.cell? ⟨w.heap.size, 1, none⟩ = some (.string bx) ∧ KA w w' B p w.heap.size s (.slice A s.boxes.length c) vs vm ⟨4, bx, ud, fl, ds, tx⟩) (first | exact hKK | exact ⟨e0, x1, Hka.out⟩)
    (first
      | (go_at_call 28; (with_reducible refine (keepA (w := w) (B := B) (p := p) (h := w.heap.size) (s := s) (vb := .slice A s.boxes.length c) (vs := vs) (vm := vm) (x := ⟨4, bx, ud, fl, ds, tx⟩) (b := .string bx) (j := 1) (Hfi.out _) ?_).mono ?_); (first | assumption | exact hS); rintro e w2 ⟨rfl, hKK⟩))
  obtain ⟨_, _, hK⟩ := hKK
  obtain ⟨x0, x1, x2, x3, x4, x5⟩ := EB.cells hK.x
  have e0 := hK.o.c0
  have HK := Lib.hid hK
  have hlt2 : w.heap.size < w2.heap.size := (Array.getElem?_eq_some_iff.1 hK.x).1
  have hpl := hK.o.lt
  have hpB := hK.o.pB
  clear Hka Hfi hK
  have hr : applyR s ⟨4, bx, ud, fl, ds, tx⟩ = (0, { s with boxes := s.boxes.set i { b with mails := keepM b.mails } }) := by rw [applyR_some s _ (by simp) (by simp) i b hf hb]; rfl
  obtain ⟨Am, cm, hv⟩ := HK.out.o.vmAt i b hb
  obtain ⟨g, c', e, q0, q1, q2, qf⟩ := HK.out.o.boxAt i b _ hb hv
  obtain ⟨rfl, _, rfl⟩ := Value.slice.inj e
  rw [Nat.zero_add] at q0 q1 q2
  have hi0 : (0 : Int) ≤ (i : Int) := by omega
  have hin : (i : Int) < (s.boxes.length : Int) := by omega
  have hi1 : ¬ (i : Int) < 0 := by omega
  have hbi := Hi.out.nm b (List.mem_of_getElem? hb)
  have hrm := HK.out.o.rm i b _ hb hv
  have hdel := delFunc_calls b.mails (.slice Am b.mails.length cm) B w2.drew (by show B ≤ w2.heap.size; omega) hrm.drew (fun m hm => ⟨(hbi.2.2 m hm).1, (hbi.2.2 m hm).2.1⟩) (by omega)
  have hfin : ∀ (w3 : World) (v' : Value), w3.ownsRow B 41 3 v' (keepM b.mails).length (mailsCells (keepM b.mails)) → w2.drew.grownBy w3 (Value.ownBlock (.slice Am b.mails.length cm)) → v'.ownBlock = (Value.slice Am b.mails.length cm).ownBlock →
      (w3.cell? ⟨p, 0, none⟩ = some (.slice (some ⟨g, 0, none⟩) s.boxes.length c) ∧ w3.cell? ⟨g, i * 3 + 2, none⟩ = some (.slice Am b.mails.length cm) ∧ w3.frozen? ⟨g, i * 3 + 2, none⟩ = false) ∧ OwnSt (w3.setCell ⟨g, i * 3 + 2, none⟩ v') B p ⟨s.boxes.set i ⟨b.name, b.next, keepM b.mails⟩, s.spool⟩ (.slice (some ⟨g, 0, none⟩) s.boxes.length c) vs (vm.set i v') ∧ Below B w (w3.setCell ⟨g, i * 3 + 2, none⟩ v') := by
    intro w3 v' hrow hg hob
    have hg2 := grown_pre hg (bel_drew w2)
    have hbi2 : (blksOf p (.slice (some ⟨g, 0, none⟩) s.boxes.length c) vs vm)[i + 3]? = some (Value.slice Am b.mails.length cm).ownBlock := by simp [blksOf, hv]
    have hpk := HK.out.o.pkeep hg2 (i + 3) hbi2 (by omega)
    have hgb : (blksOf p (.slice (some ⟨g, 0, none⟩) s.boxes.length c) vs vm)[1]? = some (some g) := rfl
    have hgl := HK.out.o.blk 1 g hgb
    have hgv : some g ≠ (Value.slice Am b.mails.length cm).ownBlock := by
      rcases HK.out.o.ne hgb hbi2 (by omega) with h1 | h1
      · cases h1
      · exact h1
    refine ⟨⟨hpk.1, hg2.cell q2 hgv, (World.frozen?_of_block (hg2.block g hgl.2 hgv)).trans (qf _)⟩, HK.out.o.setMails i g c b _ v' (keepM b.mails) hb hv rfl hg2 hrow (.inl hob), ?_⟩
    have hbl : Below B w2 w3 := (Below.refl B w2).grown hg2 (by omega) (fun k e => (HK.out.o.blk (i + 3) k (by rw [hbi2, e])).1)
    exact (HK.out.bl.trans hbl).setCell (p := ⟨g, i * 3 + 2, none⟩) hgl.1 _
  have Hr := Lib.hid hr
  have Hdel := Lib.hid hdel
  have Hfin := Lib.hid hfin
  obtain ⟨nm, nx, ms⟩ := b
  simp only at *
  clear hr hdel hfin hb hv hbi hrm e
  go_wp2_with fail
  go_region_law (first
    | (go_simp; go_at_call 34; refine Hdel.out.mono ?_; rintro e w3 ⟨v', rfl, hrow3, hg3, hob⟩; obtain ⟨A3, c3, rfl⟩ := own_sliceE hrow3; have fin := Hfin.out w3 _ hrow3 hg3 hob; have k1 := fin.1.1; have k2 := fin.1.2.1; have k3 := fin.1.2.2; have Fin2 := Lib.hid fin.2; clear fin hrow3 hg3 hob)
    | fail)
  all_goals
    clear Hdel Hfin
    go_wp2
    go_ret
    exact ⟨by rw [Hr.out]; rfl, _, _, _, by rw [Hr.out]; exact Fin2.out.1, Fin2.out.2⟩
end Go.Proofs.YtbddahdkjngecaaDoor
