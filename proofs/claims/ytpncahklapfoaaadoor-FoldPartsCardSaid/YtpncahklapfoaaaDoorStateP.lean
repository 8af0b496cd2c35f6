/- States that chores make, plain words and memory: what State's walk and others share. -/
import Derived.Test.YtpncahklapfoaaaDoorBoxAply
import Derived.Test.YtpncahklapfoaaaDoorStInv
import Derived.Test.YtpncahklapfoaaaDoorEntr
namespace Go.Proofs.YtpncahklapfoaaaDoor
open Go.RowKit
set_option linter.unusedVariables false

def inbS : StS := ⟨[⟨nmN 0, 1, []⟩], []⟩
def stepS (s : StS) (x : Ent) : StS := if (allR s [x]).1 = 0 then (allR s [x]).2 else s
/-- The state that chores make. -/
def stR (l : List Chr) : StS := ((l.take 40).map entC).foldl stepS inbS
theorem vld_inb : Vld inbS := (vld_iff inbS).1 (by decide)
theorem vld_step {s : StS} (h : Vld s) (x : Ent) : Vld (stepS s x) := by
  unfold stepS
  split
  · next hz => exact vld_all s [x] hz
  · exact h
theorem vld_fold : ∀ (l : List Ent) (s : StS), Vld s → Vld (l.foldl stepS s)
  | [], s, h => h
  | x :: r, s, h => vld_fold r _ (vld_step h x)
theorem vld_st (l : List Chr) : Vld (stR l) := vld_fold _ _ vld_inb
theorem allR_err (s : StS) (l : List Ent) (h : (allR s l).1 ≠ 0) : (allR s l).2 = noneS := by
  unfold allR at h ⊢
  split
  · rfl
  · split
    · rfl
    · split
      · rfl
      · next h1 h2 h3 => rw [if_neg h1, if_neg h2, if_neg h3] at h; exact absurd h h3
/-- What Apply and All end in: the state lies in memory; if all went well, in memory that the call made. -/
def AplyOk (w : World) (r : Int × StS) (e : Ending) (w' : World) : Prop :=
  ∃ A c A2 c2, e = .returned (.tuple #[.agg #[.slice A r.2.boxes.length c, .slice A2 r.2.spool.length c2], .int .i64 r.1]) ∧ StAt w' A c A2 c2 r.2 ∧ (r.1 = 0 → ∃ vm p, OwnSt w' w.heap.size p r.2 (.slice A r.2.boxes.length c) (.slice A2 r.2.spool.length c2) vm) ∧ Below w.heap.size w w'
theorem stAt_none (w : World) : StAt w none 0 none 0 noneS := ⟨fun j b h => by simp [noneS] at h, Nat.le_refl _, fun j h => by simp [noneS] at h, fun _ => rfl⟩
theorem allOk_at {w w' : World} {s : StS} {l : List Ent} {e : Ending} (h : AllOk w (allR s l) e w') : AplyOk w (allR s l) e w' := by
  obtain ⟨v, rfl, hb, hif⟩ := h
  by_cases hz : (allR s l).1 = 0
  · rw [if_pos hz] at hif
    obtain ⟨vb, vs, vm, p, rfl, hO⟩ := hif
    obtain ⟨Ab, cb, As, cs, rfl, rfl⟩ := hO.slices
    exact ⟨Ab, cb, As, cs, rfl, hO.at rfl rfl, fun _ => ⟨vm, p, hO⟩, hb⟩
  · rw [if_neg hz] at hif
    subst hif
    have he := allR_err s l hz
    refine ⟨none, 0, none, 0, ?_, ?_, fun h => absurd h hz, hb⟩
    · rw [he]; rfl
    · rw [he]; exact stAt_none w'
theorem aply_ok (s : StS) (x : Ent) (A A2 : Option Addr) (c c2 : Nat) (m : Int) (w : World) (hA : StAt w A c A2 c2 s) (hv : Vld s) (hsm : SmE x) (hm : w.cell? ⟨0, 0, none⟩ = some (.int .i64 m)) :
    Calls Tryd.prog 34 #[.agg #[.slice A s.boxes.length c, .slice A2 s.spool.length c2], entVal x] w fun e w' => AplyOk w (allR s [x]) e w' :=
  (aply_calls s x A A2 c c2 m w hA hv.okC hsm hm).mono fun _ _ h => allOk_at h
theorem b8 {a b c d e f g h B : Prop} (k : a ∧ b ∧ c ∧ d ∧ e ∧ f ∧ g ∧ h ∧ B) : B := k.2.2.2.2.2.2.2.2
theorem bel_tr {w W W' : World} (h : Below w.heap.size w W) (h2 : Below W.heap.size W W') : Below w.heap.size w W' := h.trans (h2.mono h.size)
theorem bel_al {w W : World} (h : Below w.heap.size w W) (o : Obj) : Below w.heap.size w (W.alloc o) := h.alloc h.size o
/-- What stands behind Apply in a round of State: the new state's slices in a block of their own. -/
structure AfK (wr W : World) (q : Nat) (A9 : Option Addr) (c9 : Nat) (A92 : Option Addr) (c92 : Nat) (r : Int × StS) : Prop where
  b : Bk W q [.slice A9 r.2.boxes.length c9, .slice A92 r.2.spool.length c92] 56
  l : Below wr.heap.size wr W
  q : wr.heap.size ≤ q
  o : r.1 = 0 → ∃ B vm p, wr.heap.size ≤ B ∧ OwnSt W B p r.2 (.slice A9 r.2.boxes.length c9) (.slice A92 r.2.spool.length c92) vm
theorem bel_drew2 {wr w9 : World} (h : Below wr.drew.heap.size wr.drew w9) : Below wr.heap.size wr w9 := (bel_drew wr).trans (h.mono (Nat.le_refl _))
theorem afk_set {wr w9 : World} {B q : Nat} {A9 A92 : Option Addr} {c9 c92 : Nat} {r : Int × StS} (hd : Below wr.drew.heap.size wr.drew w9) (hB : Bk w9 q [.slice none 0 0, .slice none 0 0] 56) (ho : r.1 = 0 → ∃ vm p, OwnSt w9 B p r.2 (.slice A9 r.2.boxes.length c9) (.slice A92 r.2.spool.length c92) vm) (h1 : q < B) (h2 : wr.heap.size ≤ q) :
    AfK wr ((w9.setCell ⟨q, 0, none⟩ (.slice A9 r.2.boxes.length c9)).setCell ⟨q, 1, none⟩ (.slice A92 r.2.spool.length c92)) q A9 c9 A92 c92 r :=
  ⟨(hB.set 0 _).set 1 _, ((bel_drew2 hd).setCell (p := ⟨q, 0, none⟩) h2 _).setCell (p := ⟨q, 1, none⟩) h2 _, h2, fun hz => by
    obtain ⟨vm, p, hO⟩ := ho hz
    exact ⟨B, vm, p, by omega, (hO.setOther q 0 _ h1).setOther q 1 _ h1⟩⟩
theorem afk_new {wr w9 : World} {B : Nat} {A9 A92 : Option Addr} {c9 c92 : Nat} {r : Int × StS} (hd : Below wr.drew.heap.size wr.drew w9) (ho : r.1 = 0 → ∃ vm p, OwnSt w9 B p r.2 (.slice A9 r.2.boxes.length c9) (.slice A92 r.2.spool.length c92) vm) (h2 : wr.heap.size ≤ B) :
    AfK wr (w9.alloc (.cells #[.slice A9 r.2.boxes.length c9, .slice A92 r.2.spool.length c92] 56)) w9.heap.size A9 c9 A92 c92 r :=
  ⟨Bk.new _ _ _, bel_al (bel_drew2 hd) _, (bel_drew2 hd).size, fun hz => by
    obtain ⟨vm, p, hO⟩ := ho hz
    exact ⟨B, vm, p, h2, hO.later ((Below.refl _ _).alloc (Nat.le_refl _) _)⟩⟩
theorem Bk.no {W : World} {b i : Nat} {a1 a2 : Value} {t : TypeId} {v : Value} (h : Bk W b [a1, a2] t) (h1 : a1 ≠ v) (h2 : a2 ≠ v) : W.cell? ⟨b, i, none⟩ ≠ some v := by
  rw [show W.cell? ⟨b, i, none⟩ = [a1, a2][i]? by simp [World.cell?, show W.heap[b]? = _ from h]]
  match i with
  | 0 => simpa using h1
  | 1 => simpa using h2
  | i + 2 => simp
theorem far {W : World} {b j g i : Nat} {u v : Value} (h : b ≠ g) (hc : W.cell? ⟨g, i, none⟩ = some v) : (W.setCell ⟨b, j, none⟩ u).cell? ⟨g, i, none⟩ = some v :=
  (World.cell?_setCell_other _ _ _ _ (fun e => h (by injection e))).trans hc
/-- A state is not touched by what is written into a block of two slices. -/
theorem StAt.setSl {W : World} {A A2 : Option Addr} {c c2 : Nat} {s : StS} (h : StAt W A c A2 c2 s) {b : Nat} {B1 B2 : Option Addr} {n1 k1 n2 k2 : Nat} {t : TypeId} (hb : Bk W b [.slice B1 n1 k1, .slice B2 n2 k2] t) (j : Nat) (u : Value) : StAt (W.setCell ⟨b, j, none⟩ u) A c A2 c2 s := by
  refine ⟨fun i x hx => ?_, h.nb, fun i hi => ?_, h.nn⟩
  · obtain ⟨g, off, Am, cm, hA, c0, c1, c2, hc, hm⟩ := h.bx i x hx
    have hg : b ≠ g := by rintro rfl; exact hb.no (by simp) (by simp) c0
    refine ⟨g, off, Am, cm, hA, far hg c0, far hg c1, far hg c2, hc, fun l m hl => ?_⟩
    obtain ⟨g2, o2, hA2, d0, d1, d2⟩ := hm l m hl
    have hg2 : b ≠ g2 := by rintro rfl; exact hb.no (by simp) (by simp) d0
    exact ⟨g2, o2, hA2, far hg2 d0, far hg2 d1, far hg2 d2⟩
  · obtain ⟨g, off, hA, c0, c1, c2, c3, c4, c5⟩ := h.es i hi
    have hg : b ≠ g := by rintro rfl; exact hb.no (by simp) (by simp) c0
    exact ⟨g, off, hA, far hg c0, far hg c1, far hg c2, far hg c3, far hg c4, far hg c5⟩
end Go.Proofs.YtpncahklapfoaaaDoor
