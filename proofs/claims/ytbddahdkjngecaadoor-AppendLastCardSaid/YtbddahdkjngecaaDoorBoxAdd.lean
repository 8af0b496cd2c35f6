/- box.add: what it makes of a state of the call's own. -/
import Derived.Test.YtbddahdkjngecaaDoorBoxOwn
import Derived.Deep.RegionLaw
import Derived.Deep.AppendLies
import Derived.Deep.DrawnRows
namespace Go.Proofs.YtbddahdkjngecaaDoor
open Go.RowKit
attribute [local go_sem ↓] Go.wp_at_zero Go.wp_at_succ
set_option linter.unusedVariables false

theorem grown_pre {w X W : World} {r : Option Nat} (h : X.grownBy W r) (hb : Below w.heap.size w X) : w.grownBy W r :=
  ⟨h.os.trans hb.os, h.tape.trans hb.tape, h.output.trans hb.output, Nat.le_trans hb.size h.size, fun k hk hn => (h.block k (Nat.lt_of_lt_of_le hk hb.size) hn).trans (hb.block k hk)⟩
/-- A mail more in a box: what the append and the two writes make. -/
theorem add_fin {w w11 : World} {B p i g c : Nat} {s : StS} {vs v : Value} {vm : List Value} {nm : ByteArray} {nx fl : Int} {t : ByteArray} {ms : List MailS}
    (h : OwnSt w B p s (.slice (some ⟨g, 0, none⟩) s.boxes.length c) vs vm) (hb : s.boxes[i]? = some ⟨nm, nx, ms⟩) (hv : vm[i]? = some v) (g' cap : Nat)
    (hrow : w11.ownsRow B 41 3 (.slice (some ⟨g', 0, none⟩) (ms.length + 1) cap) (ms.length + 1) (mailsCells ms ++ [.int .i64 nx, .int .i64 fl, .string t])) (hg : w.grownBy w11 v.ownBlock) (hat : v.ownBlock = some g' ∨ w.heap.size ≤ g') :
    (w11.cell? ⟨g, i * 3 + 1, none⟩ = some (.int .i64 nx) ∧ w11.cell? ⟨g, i * 3 + 2, none⟩ = some v ∧ w11.frozen? ⟨g, i * 3 + 1, none⟩ = false ∧ w11.frozen? ⟨g, i * 3 + 2, none⟩ = false) ∧
    OwnSt ((w11.setCell ⟨g, i * 3 + 2, none⟩ (.slice (some ⟨g', 0, none⟩) (ms.length + 1) cap)).setCell ⟨g, i * 3 + 1, none⟩ (.int .i64 (nx + 1))) B p ⟨s.boxes.set i ⟨nm, nx + 1, ms ++ [⟨nx, fl, t⟩]⟩, s.spool⟩ (.slice (some ⟨g, 0, none⟩) s.boxes.length c) vs (vm.set i (.slice (some ⟨g', 0, none⟩) (ms.length + 1) cap)) ∧
    Below B w ((w11.setCell ⟨g, i * 3 + 2, none⟩ (.slice (some ⟨g', 0, none⟩) (ms.length + 1) cap)).setCell ⟨g, i * 3 + 1, none⟩ (.int .i64 (nx + 1))) := by
  have hil : i < s.boxes.length := (List.getElem?_eq_some_iff.1 hb).1
  have hbi : (blksOf p (.slice (some ⟨g, 0, none⟩) s.boxes.length c) vs vm)[i + 3]? = some v.ownBlock := by simp [blksOf, hv]
  have hgb : (blksOf p (.slice (some ⟨g, 0, none⟩) s.boxes.length c) vs vm)[1]? = some (some g) := rfl
  have hgl := h.blk 1 g hgb
  have hgv : some g ≠ v.ownBlock := by
    rcases h.ne hgb hbi (by omega) with h1 | h1
    · cases h1
    · exact h1
  obtain ⟨g2, c2, e2, q0, q1, q2, qf⟩ := h.boxAt i _ v hb hv
  obtain ⟨e3, _, _⟩ := Value.slice.inj e2
  obtain rfl : g = g2 := by injection e3 with e4; injection e4
  rw [Nat.zero_add] at q1 q2
  have hfz : ∀ j, w11.frozen? ⟨g, j, none⟩ = false := fun j => (World.frozen?_of_block (hg.block g hgl.2 hgv)).trans (qf j)
  refine ⟨⟨hg.cell q1 hgv, hg.cell q2 hgv, hfz _, hfz _⟩, ?_, ?_⟩
  · have hm : mailsCells ms ++ [.int .i64 nx, .int .i64 fl, .string t] = mailsCells (ms ++ [⟨nx, fl, t⟩]) := by simp [mailsCells, mailCells]
    rw [hm] at hrow
    have hl : (ms ++ [(⟨nx, fl, t⟩ : MailS)]).length = ms.length + 1 := by simp
    have h1 := h.setMails i g c ⟨nm, nx, ms⟩ v (.slice (some ⟨g', 0, none⟩) (ms.length + 1) cap) (ms ++ [⟨nx, fl, t⟩]) hb hv rfl hg (by rw [hl]; exact hrow) (by
      rcases hat with e | e
      · exact .inl e.symm
      · exact .inr ⟨g', rfl, e⟩)
    have h2 := h1.setNext i g c ⟨nm, nx, ms ++ [⟨nx, fl, t⟩]⟩ (.slice (some ⟨g', 0, none⟩) (ms.length + 1) cap) (nx + 1) (by simp [hil]) (by simp [h.ln, hil]) (by simp)
    have e4 : (s.boxes.set i ⟨nm, nx, ms ++ [⟨nx, fl, t⟩]⟩).set i ⟨nm, nx + 1, ms ++ [⟨nx, fl, t⟩]⟩ = s.boxes.set i ⟨nm, nx + 1, ms ++ [⟨nx, fl, t⟩]⟩ := List.set_set ..
    have h3 : OwnSt _ B p ⟨(s.boxes.set i ⟨nm, nx, ms ++ [⟨nx, fl, t⟩]⟩).set i ⟨nm, nx + 1, ms ++ [⟨nx, fl, t⟩]⟩, s.spool⟩ _ vs _ := h2
    rw [e4] at h3
    exact h3
  · have hB : B ≤ w.heap.size := by have := h.pB; have := h.lt; omega
    have h1 : Below B w w11 := (Below.refl B w).grown hg hB (fun k e => (h.blk (i + 3) k (by rw [hbi, e])).1)
    exact (h1.setCell (p := ⟨g, i * 3 + 2, none⟩) hgl.1 _).setCell (p := ⟨g, i * 3 + 1, none⟩) hgl.1 _
/-- What a step on a state of the call's own ends in. -/
def StepOk (w : World) (B p : Nat) (r : Int × StS) (e : Ending) (w' : World) : Prop := e = .returned (.int .i64 r.1) ∧ ∃ vb vs vm, OwnSt w' B p r.2 vb vs vm ∧ Below B w w'
set_option maxRecDepth 100000 in
set_option maxHeartbeats 4000000 in
theorem add_calls (s : StS) (i : Nat) (fl : Int) (t : ByteArray) (B p : Nat) (vb vs : Value) (vm : List Value) (w : World) (h : OwnSt w B p s vb vs vm) (hi : i < s.boxes.length) (hz : OkZ s) (hn : ∀ b ∈ s.boxes, 0 ≤ b.next) (ht : t.size ≤ 100000) :
    Calls Tryd.prog 33 #[.pointer (some ⟨p, 0, none⟩), .int .i64 i, .int .i64 fl, .string t] w fun e w' => StepOk w B p (addR s i fl t) e w' := by
  obtain ⟨i0, hi0, hz0, hz1, hz2⟩ := info_parts info_mail
  obtain ⟨b, hb⟩ : ∃ b, s.boxes[i]? = some b := ⟨s.boxes[i], by simp [hi]⟩
  obtain ⟨Am, cm, hv⟩ := h.vmAt i b hb
  obtain ⟨g, c, rfl, q0, q1, q2, qf⟩ := h.boxAt i b _ hb hv
  obtain ⟨A2, c2, rfl⟩ := own_sliceE h.rs
  have hbm : b ∈ s.boxes := List.mem_of_getElem? hb
  have hb30 := (hz.nm b hbm).1
  have hbn := hn b hbm
  have hnb := hz.nb
  have e0 := h.c0
  have e1 := h.c1
  have f1 := qf (i * 3 + 1)
  have f2 := qf (i * 3 + 2)
  rw [Nat.zero_add] at q0 q1 q2
  have hr : addR s i fl t = if b.mails.length = 30 ∨ 1048576 < b.next ∨ 6000 < sizeR s + t.size then (5, s) else (0, { s with boxes := s.boxes.set i { b with mails := b.mails ++ [⟨b.next, fl, t⟩], next := b.next + 1 } }) := by
    unfold addR; rw [hb]
  have hi0' : (0 : Int) ≤ (i : Int) := by omega
  have hil : (i : Int) < (s.boxes.length : Int) := by omega
  have hsz := size_calls s (some ⟨g, 0, none⟩) c (.slice A2 s.spool.length c2) w (h.bx rfl) hz
  have Hsz := Lib.hid hsz
  have hzz := boxesZ_le s.boxes hz.nm
  have hzs : sizeR s ≤ 400000 := by unfold sizeR; omega
  have HO := Lib.hid h
  have Hv := Lib.hid hv
  have Hb := Lib.hid hb
  clear hsz qf hn hbm hzz
  by_cases h30 : b.mails.length = 30
  · rw [if_pos (.inl h30)] at hr
    have Hr := Lib.hid hr
    rw [h30] at q2
    clear hr h hv hb
    go_enter Tryd.func33, Tryd.ntmps33
    go_wp2_with fail
    go_ret
    exact ⟨by rw [Hr.out]; rfl, _, _, _, by rw [Hr.out]; exact HO.out, Below.refl _ _⟩
  · have hne : (((b.mails.length : Nat) : Int) == 30) = false := by rw [beq_eq_false_iff_ne]; omega
    by_cases hnx : 1048576 < b.next
    · rw [if_pos (.inr (.inl hnx))] at hr
      have Hr := Lib.hid hr
      clear hr h hv hb
      go_enter Tryd.func33, Tryd.ntmps33
      go_wp2_with fail
      go_ret
      exact ⟨by rw [Hr.out]; rfl, _, _, _, by rw [Hr.out]; exact HO.out, Below.refl _ _⟩
    · by_cases hq : 6000 < sizeR s + t.size
      · rw [if_pos (.inr (.inr hq))] at hr
        have Hr := Lib.hid hr
        generalize sizeR s = z at *
        have hq2 : (6000 : Int) < (z : Int) + (t.size : Int) := by omega
        clear hr h hv hb hq
        go_enter Tryd.func33, Tryd.ntmps33
        go_wp2_with (go_at_call 26; refine Hsz.out.mono ?_; rintro e w1 ⟨rfl, hb1⟩; have Hb1 := Lib.hid hb1; clear hb1 Hsz)
        go_ret
        exact ⟨by rw [Hr.out]; rfl, _, _, _, by rw [Hr.out]; exact HO.out.later Hb1.out, Hb1.out.mono (by have := HO.out.pB; have := HO.out.lt; omega)⟩
      · rw [if_neg (by omega)] at hr
        have Hr := Lib.hid hr
        generalize sizeR s = z at *
        have hq2 : ¬ (6000 : Int) < (z : Int) + (t.size : Int) := by omega
        obtain ⟨nm, nx, ms⟩ := b
        simp only at *
        have Hq := Lib.hid (And.intro q0 (And.intro q1 q2))
        clear hr h hv hb hq
        go_enter Tryd.func33, Tryd.ntmps33
        go_wp2_with (go_at_call 26; refine Hsz.out.mono ?_; rintro e w1 ⟨rfl, hb1⟩; have Hb1 := Lib.hid hb1; clear hb1 Hsz)
        have hO1 := HO.out.later Hb1.out
        have q1' := cell_later Hb1.out q1
        have q2' := cell_later Hb1.out q2
        have hrm := hO1.rm i _ _ Hb.out Hv.out
        have hB : B ≤ w1.heap.size := by have := hO1.pB; have := hO1.lt; omega
        have hBw : B ≤ w.heap.size := by have := HO.out.pB; have := HO.out.lt; omega
        have hfin := fun g' cap w11 hrow X hX hg hat => add_fin (fl := fl) (t := t) (w11 := w11) hO1 Hb.out Hv.out g' cap hrow (grown_pre (X := X) hg hX) hat
        have Hfin := Lib.hid hfin
        have HB := Lib.hid hBw
        clear q0 q1 q2 e0 e1 f1 f2 hfin Hq
        have m1 := cell_later ((Below.refl _ w1).alloc (Nat.le_refl _) (.cells #[.int .i64 nx, .int .i64 fl, .string t] 41)) q1'
        have m2 := cell_later ((Below.refl _ w1).alloc (Nat.le_refl _) (.cells #[.int .i64 nx, .int .i64 fl, .string t] 41)) q2'
        go_region_law (first
          | (refine step_append_lies _ (by rfl) _ _ _ (by rfl) B 41 i0 _ 3 32 Tryd.underlying37 hi0 hz0 hz1 hz2 rfl (by omega) (.slice Am ms.length cm) ms.length (mailsCells ms) (by rfl) (hrm.alloc _) ⟨w1.heap.size, 0, none⟩ 1 1 [.int .i64 nx, .int .i64 fl, .string t] (by rfl) (by rfl) (World.news_of_block (cs := #[.int .i64 nx, .int .i64 fl, .string t]) (t := 41) (fr := (0, 0)) (heap_alloc_new w1 _)) (by simp [Value.oneCell']) (by omega) (by unfold maxLen; omega) (by omega) (by simp; omega) _ (by rfl) ?_; intro g' cap w11 hown1 hgrow hat hglt; have fin := Hfin.out g' cap w11 hown1 _ (((Below.refl _ w1).alloc (Nat.le_refl _) _).drew) hgrow (by rcases hat with h | h; exact .inl h; right; rw [h]; simp); have k1 := fin.1.1; have k2 := fin.1.2.1; have k3 := fin.1.2.2.1; have k4 := fin.1.2.2.2; have Fin2 := Lib.hid fin.2; clear fin hown1 hgrow hat)
          | fail)
        all_goals
          clear hrm Hfin hO1 q1' q2'
          go_wp2
          go_ret
          exact ⟨by rw [Hr.out]; rfl, _, _, _, by rw [Hr.out]; exact Fin2.out.1, (Hb1.out.mono HB.out).trans Fin2.out.2⟩
end Go.Proofs.YtbddahdkjngecaaDoor
