/- A mail that was appended is taken away again, in memory: for the law AppendLast. -/
import Derived.Test.YtbddahdkjngecaaDoorBoxLaw2
namespace Go.Proofs.YtbddahdkjngecaaDoor
open Go.RowKit
set_option linter.unusedVariables false

/-- The state with a mail more. -/
def appTo (s : StS) (i : Nat) (b : BoxS) (fl : Int) (t : ByteArray) : StS := { s with boxes := s.boxes.set i { b with mails := b.mails ++ [⟨b.next, fl, t⟩], next := b.next + 1 } }
theorem mailsCells_take (l : List MailS) (x : MailS) : (mailsCells (l ++ [x])).take (l.length * 3) = mailsCells l := by
  have h : mailsCells (l ++ [x]) = mailsCells l ++ mailCells x := by simp [mailsCells]
  rw [h, ← mailsCells_len l, List.take_left]
theorem undo_app {W : World} {B p : Nat} {s : StS} {i : Nat} {b : BoxS} {fl : Int} {t : ByteArray} {vb vs : Value} {vm : List Value} (hb : s.boxes[i]? = some b) (h : OwnSt W B p (appTo s i b fl t) vb vs vm) :
    ∃ g c gm cm, vb = .slice (some ⟨g, 0, none⟩) s.boxes.length c ∧ vm[i]? = some (.slice (some ⟨gm, 0, none⟩) (b.mails.length + 1) cm) ∧
      OwnSt ((W.setCell ⟨g, i * 3 + 2, none⟩ (.slice (some ⟨gm, 0, none⟩) b.mails.length cm)).setCell ⟨g, i * 3 + 1, none⟩ (.int .i64 b.next)) B p s vb vs (vm.set i (.slice (some ⟨gm, 0, none⟩) b.mails.length cm)) := by
  have hil := (List.getElem?_eq_some_iff.1 hb).1
  have hb' : (appTo s i b fl t).boxes[i]? = some ⟨b.name, b.next + 1, b.mails ++ [⟨b.next, fl, t⟩]⟩ := by unfold appTo; simp [hil]
  have hlen : (appTo s i b fl t).boxes.length = s.boxes.length := by unfold appTo; simp
  obtain ⟨Am, cm, hv⟩ := h.vmAt i _ hb'
  obtain ⟨g, c, e, _⟩ := h.boxAt i _ _ hb' hv
  have hrow := h.rm i _ _ hb' hv
  simp only [List.length_append, List.length_singleton] at hrow hv
  obtain ⟨gm, cm2, e2, _, _⟩ := hrow.form (by omega)
  obtain ⟨rfl, _, rfl⟩ := Value.slice.inj e2
  have hr2 := row_cut hrow b.mails.length (by omega)
  rw [mailsCells_take] at hr2
  have h1 := h.setMails i g c _ _ _ b.mails hb' hv e (w1 := W) ⟨rfl, rfl, rfl, Nat.le_refl _, fun _ _ _ => rfl⟩ hr2 (.inl rfl)
  have h2 := h1.setNext i g c ⟨b.name, b.next + 1, b.mails⟩ (.slice (some ⟨gm, 0, none⟩) b.mails.length cm) b.next (by simp [hlen, hil]) (by simp [(List.getElem?_eq_some_iff.1 hv).1]) (by rw [e]; simp)
  refine ⟨g, c, gm, cm, by rw [e, hlen], hv, ?_⟩
  have hs : (⟨((appTo s i b fl t).boxes.set i ⟨b.name, b.next + 1, b.mails⟩).set i ⟨b.name, b.next, b.mails⟩, (appTo s i b fl t).spool⟩ : StS) = s := by
    unfold appTo
    simp only [List.set_set]
    rw [set_same s.boxes i b hb]
  rw [← hs]
  simpa using h2
/-- The world in which the mails are cut again, and what stands there. -/
theorem app_end {w : World} {B p g c gm cm n : Nat} {s : StS} {i : Nat} {b : BoxS} {fl : Int} {t : ByteArray} {vs : Value} {vm : List Value} (hn : n = s.boxes.length) (hb : s.boxes[i]? = some b) (h : OwnSt w.drew B p (appTo s i b fl t) (.slice (some ⟨g, 0, none⟩) n c) vs vm) (hvm : vm[i]? = some (.slice (some ⟨gm, 0, none⟩) (b.mails.length + 1) cm)) :
    (w.setCell ⟨g, i * 3 + 2, none⟩ (.slice (some ⟨gm, 0, none⟩) b.mails.length cm)).drew.cell? ⟨g, i * 3 + 1, none⟩ = some (.int .i64 (b.next + 1)) ∧
    (w.setCell ⟨g, i * 3 + 2, none⟩ (.slice (some ⟨gm, 0, none⟩) b.mails.length cm)).drew.frozen? ⟨g, i * 3 + 1, none⟩ = false ∧
    ∃ vm2, OwnSt ((w.setCell ⟨g, i * 3 + 2, none⟩ (.slice (some ⟨gm, 0, none⟩) b.mails.length cm)).drew.setCell ⟨g, i * 3 + 1, none⟩ (.int .i64 b.next)) B p s (.slice (some ⟨g, 0, none⟩) s.boxes.length c) vs vm2 := by
  subst hn
  have hil := (List.getElem?_eq_some_iff.1 hb).1
  have hb' : (appTo s i b fl t).boxes[i]? = some ⟨b.name, b.next + 1, b.mails ++ [⟨b.next, fl, t⟩]⟩ := by unfold appTo; simp [hil]
  obtain ⟨g3, c3, e3, q0, q1, q2, qf⟩ := h.boxAt i _ _ hb' hvm
  obtain ⟨hg3, _, _⟩ := Value.slice.inj e3
  obtain ⟨rfl, _, _⟩ := Addr.mk.inj (Option.some.inj hg3)
  simp only [Nat.zero_add] at q1
  refine ⟨?_, ?_, ?_⟩
  · exact (World.cell?_setCell_other _ _ _ _ (by intro e; have := (Addr.mk.inj e).2.1; omega)).trans q1
  · exact (World.frozen?_setCell (w := w.drew) ..).trans (qf _)
  · obtain ⟨g', c', gm', cm', e1, e2, hO⟩ := undo_app hb h
    obtain ⟨hg, _, rfl⟩ := Value.slice.inj e1
    obtain ⟨rfl, _, _⟩ := Addr.mk.inj (Option.some.inj hg)
    rw [e2] at hvm
    obtain ⟨hg, _, rfl⟩ := Value.slice.inj (Option.some.inj hvm)
    obtain ⟨rfl, _, _⟩ := Addr.mk.inj (Option.some.inj hg)
    exact ⟨_, hO⟩
/-- What other blocks hold then. -/
theorem app_bk {w : World} {q g i gm n cm : Nat} {cs : List Value} {t : TypeId} (nx : Int) (h : Bk w q cs t) (hq : g ≠ q) : Bk ((w.setCell ⟨g, i * 3 + 2, none⟩ (.slice (some ⟨gm, 0, none⟩) n cm)).drew.setCell ⟨g, i * 3 + 1, none⟩ (.int .i64 nx)) q cs t :=
  Bk.other (Bk.drew (Bk.other h hq _ _)) hq _ _
theorem app_bk0 {w : World} {q g i gm n cm : Nat} {cs : List Value} {t : TypeId} (h : Bk w q cs t) (hq : g ≠ q) : Bk (w.setCell ⟨g, i * 3 + 2, none⟩ (.slice (some ⟨gm, 0, none⟩) n cm)).drew q cs t :=
  Bk.drew (Bk.other h hq _ _)
/-- Several ways that end alike are walked on but once. -/
theorem one_key {T G : Prop} (pf : T) (main : T → G) : G := main pf
theorem belB (B : Nat) (w : World) : Below B w w.drew := ⟨rfl, rfl, rfl, Nat.le_refl _, fun _ _ => rfl⟩
/-- A block of a state is none of its boxes. -/
theorem st_no {w : World} {B p q g c : Nat} {s : StS} {u v : Value} {vs : Value} {vm : List Value} {i : Nat} (h : OwnSt w B p s (.slice (some ⟨g, 0, none⟩) s.boxes.length c) vs vm) (hi : i < s.boxes.length) (hq : Bk w q [u, v] 28) : g ≠ q := by
  rintro rfl
  obtain ⟨_, hr⟩ := h.rb
  rcases hr with hn | ⟨g', cap, cur, e, _, hh, _⟩
  · simp at hn
  · obtain ⟨hg, _, _⟩ := Value.slice.inj e
    obtain ⟨rfl, _, _⟩ := Addr.mk.inj (Option.some.inj hg)
    unfold Bk at hq
    rw [hq] at hh
    have := Option.some.inj hh
    simp at this
end Go.Proofs.YtbddahdkjngecaaDoor
