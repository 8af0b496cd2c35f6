/- box.add: what it makes of a state of the call's own. slices.IndexFunc and slices.DeleteFunc over mails, at box.apply's two closures. box.apply: what it makes of a state of the call's own. box.apply: flags, copies, and the whole. box.All and box.Apply: what they answer. box.Apply: what it answers. -/
import Derived.Test.YtpncahklapfoaaaDoorBoxOwn
import Derived.Deep.RegionLaw
import Derived.Deep.AppendLies
import Derived.Deep.DrawnRows
import Derived.Deep.LoopGhost
import Derived.Laws.IdiomCopy
import Derived.Lib.SmallJoins
import Derived.Laws.Append
import Derived.Lib.SliceRun
import Derived.Test.YtpncahklapfoaaaDoorBoxChk
import Derived.RegionTactic
import Derived.BigRegion
import Derived.Test.YtpncahklapfoaaaDoorFormOk
namespace Go.Proofs.YtpncahklapfoaaaDoor
open Go.RowKit
attribute [local go_sem ↓] Go.wp_at_zero Go.wp_at_succ
set_option linter.unusedVariables false

theorem grown_pre {w X W : World} {r : Option Nat} (h : X.grownBy W r) (hb : Below w.heap.size w X) : w.grownBy W r :=
  ⟨h.os.trans hb.os, h.tape.trans hb.tape, h.output.trans hb.output, Nat.le_trans hb.size h.size, fun k hk hn => (h.block k (Nat.lt_of_lt_of_le hk hb.size) hn).trans (hb.block k hk)⟩
/-- A mail more in a box: what the append and the two writes make. -/
theorem add_fin {w w11 : World} {B p i g c : Nat} {s : StS} {vs v : Value} {vm : List Value} {nm : ByteArray} {nx fl : Int} {t : ByteArray} {ms : List MailS}
    (h : OwnSt w B p s (.slice (some ⟨g, 0, none⟩) s.boxes.length c) vs vm) (hb : s.boxes[i]? = some ⟨nm, nx, ms⟩) (hv : vm[i]? = some v) (g' cap : Nat)
    (hrow : w11.ownsRow B 85 3 (.slice (some ⟨g', 0, none⟩) (ms.length + 1) cap) (ms.length + 1) (mailsCells ms ++ [.int .i64 nx, .int .i64 fl, .string t])) (hg : w.grownBy w11 v.ownBlock) (hat : v.ownBlock = some g' ∨ w.heap.size ≤ g') :
    (w11.cell? ⟨g, i * 3 + 1, none⟩ = some (.int .i64 nx) ∧ w11.cell? ⟨g, i * 3 + 2, none⟩ = some v ∧ w11.frozen? ⟨g, i * 3 + 1, none⟩ = false ∧ w11.frozen? ⟨g, i * 3 + 2, none⟩ = false) ∧
    OwnSt ((w11.setCell ⟨g, i * 3 + 2, none⟩ (.slice (some ⟨g', 0, none⟩) (ms.length + 1) cap)).setCell ⟨g, i * 3 + 1, none⟩ (.int .i64 (nx + 1))) B p ⟨s.boxes.set i ⟨nm, nx + 1, ms ++ [⟨nx, fl, t⟩]⟩, s.spool⟩ (.slice (some ⟨g, 0, none⟩) s.boxes.length c) vs (vm.set i (.slice (some ⟨g', 0, none⟩) (ms.length + 1) cap)) ∧
    Below B w ((w11.setCell ⟨g, i * 3 + 2, none⟩ (.slice (some ⟨g', 0, none⟩) (ms.length + 1) cap)).setCell ⟨g, i * 3 + 1, none⟩ (.int .i64 (nx + 1))) := by
  have hil : i < s.boxes.length := (List.getElem?_eq_some_iff.1 hb).1
  have hbi : (blksOf p (.slice (some ⟨g, 0, none⟩) s.boxes.length c) vs vm)[i + 3]? = some v.ownBlock := by simp [blksOf, hv]
  have hgb : (blksOf p (.slice (some ⟨g, 0, none⟩) s.boxes.length c) vs vm)[1]? = some (some g) := rfl
  have hgl := h.blk 1 g hgb
  have hgv : some g ≠ v.ownBlock := by
    rcases h.ne hgb hbi (by omega) with h1 | h1
    · cases h1
    · exact h1
  obtain ⟨g2, c2, e2, q0, q1, q2, qf⟩ := h.boxAt i _ v hb hv
  obtain ⟨e3, _, _⟩ := Value.slice.inj e2
  obtain rfl : g = g2 := by injection e3 with e4; injection e4
  rw [Nat.zero_add] at q1 q2
  have hfz : ∀ j, w11.frozen? ⟨g, j, none⟩ = false := fun j => (World.frozen?_of_block (hg.block g hgl.2 hgv)).trans (qf j)
  refine ⟨⟨hg.cell q1 hgv, hg.cell q2 hgv, hfz _, hfz _⟩, ?_, ?_⟩
  · have hm : mailsCells ms ++ [.int .i64 nx, .int .i64 fl, .string t] = mailsCells (ms ++ [⟨nx, fl, t⟩]) := by simp [mailsCells, mailCells]
    rw [hm] at hrow
    have hl : (ms ++ [(⟨nx, fl, t⟩ : MailS)]).length = ms.length + 1 := by simp
    have h1 := h.setMails i g c ⟨nm, nx, ms⟩ v (.slice (some ⟨g', 0, none⟩) (ms.length + 1) cap) (ms ++ [⟨nx, fl, t⟩]) hb hv rfl hg (by rw [hl]; exact hrow) (by
      rcases hat with e | e
      · exact .inl e.symm
      · exact .inr ⟨g', rfl, e⟩)
    have h2 := h1.setNext i g c ⟨nm, nx, ms ++ [⟨nx, fl, t⟩]⟩ (.slice (some ⟨g', 0, none⟩) (ms.length + 1) cap) (nx + 1) (by simp [hil]) (by simp [h.ln, hil]) (by simp)
    have e4 : (s.boxes.set i ⟨nm, nx, ms ++ [⟨nx, fl, t⟩]⟩).set i ⟨nm, nx + 1, ms ++ [⟨nx, fl, t⟩]⟩ = s.boxes.set i ⟨nm, nx + 1, ms ++ [⟨nx, fl, t⟩]⟩ := List.set_set ..
    have h3 : OwnSt _ B p ⟨(s.boxes.set i ⟨nm, nx, ms ++ [⟨nx, fl, t⟩]⟩).set i ⟨nm, nx + 1, ms ++ [⟨nx, fl, t⟩]⟩, s.spool⟩ _ vs _ := h2
    rw [e4] at h3
    exact h3
  · have hB : B ≤ w.heap.size := by have := h.pB; have := h.lt; omega
    have h1 : Below B w w11 := (Below.refl B w).grown hg hB (fun k e => (h.blk (i + 3) k (by rw [hbi, e])).1)
    exact (h1.setCell (p := ⟨g, i * 3 + 2, none⟩) hgl.1 _).setCell (p := ⟨g, i * 3 + 1, none⟩) hgl.1 _
/-- What a step on a state of the call's own ends in. -/
def StepOk (w : World) (B p : Nat) (r : Int × StS) (e : Ending) (w' : World) : Prop := e = .returned (.int .i64 r.1) ∧ ∃ vb vs vm, OwnSt w' B p r.2 vb vs vm ∧ Below B w w'
set_option maxRecDepth 100000 in
set_option maxHeartbeats 4000000 in
theorem add_calls (s : StS) (i : Nat) (fl : Int) (t : ByteArray) (B p : Nat) (vb vs : Value) (vm : List Value) (w : World) (h : OwnSt w B p s vb vs vm) (hi : i < s.boxes.length) (hz : OkZ s) (hn : ∀ b ∈ s.boxes, 0 ≤ b.next) (ht : t.size ≤ 100000) :
    Calls Tryd.prog 47 #[.pointer (some ⟨p, 0, none⟩), .int .i64 i, .int .i64 fl, .string t] w fun e w' => StepOk w B p (addR s i fl t) e w' := by
  obtain ⟨i0, hi0, hz0, hz1, hz2⟩ := info_parts info_mail
  obtain ⟨b, hb⟩ : ∃ b, s.boxes[i]? = some b := ⟨s.boxes[i], by simp [hi]⟩
  obtain ⟨Am, cm, hv⟩ := h.vmAt i b hb
  obtain ⟨g, c, rfl, q0, q1, q2, qf⟩ := h.boxAt i b _ hb hv
  obtain ⟨A2, c2, rfl⟩ := own_sliceE h.rs
  have hbm : b ∈ s.boxes := List.mem_of_getElem? hb
  have hb30 := (hz.nm b hbm).1
  have hbn := hn b hbm
  have hnb := hz.nb
  have e0 := h.c0
  have e1 := h.c1
  have f1 := qf (i * 3 + 1)
  have f2 := qf (i * 3 + 2)
  rw [Nat.zero_add] at q0 q1 q2
  have hr : addR s i fl t = if b.mails.length = 30 ∨ 1048576 < b.next ∨ 6000 < sizeR s + t.size then (5, s) else (0, { s with boxes := s.boxes.set i { b with mails := b.mails ++ [⟨b.next, fl, t⟩], next := b.next + 1 } }) := by
    unfold addR; rw [hb]
  have hi0' : (0 : Int) ≤ (i : Int) := by omega
  have hil : (i : Int) < (s.boxes.length : Int) := by omega
  have hsz := size_calls s (some ⟨g, 0, none⟩) c (.slice A2 s.spool.length c2) w (h.bx rfl) hz
  have Hsz := Lib.hid hsz
  have hzz := boxesZ_le s.boxes hz.nm
  have hzs : sizeR s ≤ 400000 := by unfold sizeR; omega
  have HO := Lib.hid h
  have Hv := Lib.hid hv
  have Hb := Lib.hid hb
  clear hsz qf hn hbm hzz
  by_cases h30 : b.mails.length = 30
  · rw [if_pos (.inl h30)] at hr
    have Hr := Lib.hid hr
    rw [h30] at q2
    clear hr h hv hb
    go_enter Tryd.func47, Tryd.ntmps47
    go_wp2_with fail
    go_ret
    exact ⟨by rw [Hr.out]; rfl, _, _, _, by rw [Hr.out]; exact HO.out, Below.refl _ _⟩
  · have hne : (((b.mails.length : Nat) : Int) == 30) = false := by rw [beq_eq_false_iff_ne]; omega
    by_cases hnx : 1048576 < b.next
    · rw [if_pos (.inr (.inl hnx))] at hr
      have Hr := Lib.hid hr
      clear hr h hv hb
      go_enter Tryd.func47, Tryd.ntmps47
      go_wp2_with fail
      go_ret
      exact ⟨by rw [Hr.out]; rfl, _, _, _, by rw [Hr.out]; exact HO.out, Below.refl _ _⟩
    · by_cases hq : 6000 < sizeR s + t.size
      · rw [if_pos (.inr (.inr hq))] at hr
        have Hr := Lib.hid hr
        generalize sizeR s = z at *
        have hq2 : (6000 : Int) < (z : Int) + (t.size : Int) := by omega
        clear hr h hv hb hq
        go_enter Tryd.func47, Tryd.ntmps47
        go_wp2_with (go_at_call 44; refine Hsz.out.mono ?_; rintro e w1 ⟨rfl, hb1⟩; have Hb1 := Lib.hid hb1; clear hb1 Hsz)
        go_ret
        exact ⟨by rw [Hr.out]; rfl, _, _, _, by rw [Hr.out]; exact HO.out.later Hb1.out, Hb1.out.mono (by have := HO.out.pB; have := HO.out.lt; omega)⟩
      · rw [if_neg (by omega)] at hr
        have Hr := Lib.hid hr
        generalize sizeR s = z at *
        have hq2 : ¬ (6000 : Int) < (z : Int) + (t.size : Int) := by omega
        obtain ⟨nm, nx, ms⟩ := b
        simp only at *
        have Hq := Lib.hid (And.intro q0 (And.intro q1 q2))
        clear hr h hv hb hq
        go_enter Tryd.func47, Tryd.ntmps47
        go_wp2_with (go_at_call 44; refine Hsz.out.mono ?_; rintro e w1 ⟨rfl, hb1⟩; have Hb1 := Lib.hid hb1; clear hb1 Hsz)
        have hO1 := HO.out.later Hb1.out
        have q1' := cell_later Hb1.out q1
        have q2' := cell_later Hb1.out q2
        have hrm := hO1.rm i _ _ Hb.out Hv.out
        have hB : B ≤ w1.heap.size := by have := hO1.pB; have := hO1.lt; omega
        have hBw : B ≤ w.heap.size := by have := HO.out.pB; have := HO.out.lt; omega
        have hfin := fun g' cap w11 hrow X hX hg hat => add_fin (fl := fl) (t := t) (w11 := w11) hO1 Hb.out Hv.out g' cap hrow (grown_pre (X := X) hg hX) hat
        have Hfin := Lib.hid hfin
        have HB := Lib.hid hBw
        clear q0 q1 q2 e0 e1 f1 f2 hfin Hq
        have m1 := cell_later ((Below.refl _ w1).alloc (Nat.le_refl _) (.cells #[.int .i64 nx, .int .i64 fl, .string t] 85)) q1'
        have m2 := cell_later ((Below.refl _ w1).alloc (Nat.le_refl _) (.cells #[.int .i64 nx, .int .i64 fl, .string t] 85)) q2'
        go_region_law (first
          | (refine step_append_lies _ (by rfl) _ _ _ (by rfl) B 85 i0 _ 3 32 Tryd.underlying81 hi0 hz0 hz1 hz2 rfl (by omega) (.slice Am ms.length cm) ms.length (mailsCells ms) (by rfl) (hrm.alloc _) ⟨w1.heap.size, 0, none⟩ 1 1 [.int .i64 nx, .int .i64 fl, .string t] (by rfl) (by rfl) (World.news_of_block (cs := #[.int .i64 nx, .int .i64 fl, .string t]) (t := 85) (fr := (0, 0)) (heap_alloc_new w1 _)) (by simp [Value.oneCell']) (by omega) (by unfold maxLen; omega) (by omega) (by simp; omega) _ (by rfl) ?_; intro g' cap w11 hown1 hgrow hat hglt; have fin := Hfin.out g' cap w11 hown1 _ (((Below.refl _ w1).alloc (Nat.le_refl _) _).drew) hgrow (by rcases hat with h | h; exact .inl h; right; rw [h]; simp); have k1 := fin.1.1; have k2 := fin.1.2.1; have k3 := fin.1.2.2.1; have k4 := fin.1.2.2.2; have Fin2 := Lib.hid fin.2; clear fin hown1 hgrow hat)
          | fail)
        all_goals
          clear hrm Hfin hO1 q1' q2'
          go_wp2
          go_ret
          exact ⟨by rw [Hr.out]; rfl, _, _, _, by rw [Hr.out]; exact Fin2.out.1, (Hb1.out.mono HB.out).trans Fin2.out.2⟩
end Go.Proofs.YtpncahklapfoaaaDoor
namespace Go.Proofs.YtpncahklapfoaaaDoor
open Go.RowKit
set_option linter.unusedVariables false

/-- A predicate on mails, as a closure: what a call of it answers. -/
def PredM (f : FuncId) (lb : Array Value) (p : MailS → Bool) (w : World) (l : List MailS) : Prop :=
  ∀ (W : World) (m : MailS), m ∈ l → Below w.heap.size w W → Calls Tryd.prog f (#[.agg #[.int .i64 m.uid, .int .i64 m.flags, .string m.text]] ++ lb) W fun e w' => e = .returned (.bool (p m)) ∧ Below W.heap.size W w'
set_option maxRecDepth 100000 in
set_option maxHeartbeats 1000000 in
theorem del_pred (w : World) (l : List MailS) (hf : ∀ m ∈ l, 0 ≤ m.flags ∧ m.flags ≤ 31) : PredM 49 #[] delB w l := by
  intro W m hm hb
  have hd := delB_of m (hf m hm).1 (hf m hm).2
  have hbl : Below W.heap.size W (W.alloc (.cells #[.int .i64 m.uid, .int .i64 m.flags, .string m.text] 85)) := (Below.refl _ W).alloc (Nat.le_refl _) _
  show Calls _ _ #[.agg #[.int .i64 m.uid, .int .i64 m.flags, .string m.text]] _ _
  generalize delB m = d at *
  obtain ⟨u, f, t⟩ := m
  simp only at hd hbl ⊢
  have Hd := Lib.hid hd
  clear hd hf
  go_enter Tryd.func49, Tryd.ntmps49
  go_wp2
  go_ret
  exact ⟨by rw [← Hd.out]; rfl, hbl⟩
set_option maxRecDepth 100000 in
set_option maxHeartbeats 1000000 in
theorem uid_pred (w : World) (l : List MailS) (B : Nat) (u : Int) (hB : w.cell? ⟨B, 2, none⟩ = some (.int .i64 u)) : PredM 51 #[.pointer (some ⟨B, 0, none⟩)] (uidB u) w l := by
  intro W m hm hb
  have hc := cell_later hb hB
  have hbl : Below W.heap.size W (W.alloc (.cells #[.int .i64 m.uid, .int .i64 m.flags, .string m.text] 85)) := (Below.refl _ W).alloc (Nat.le_refl _) _
  have hc2 := cell_later hbl hc
  show Calls _ _ #[.agg #[.int .i64 m.uid, .int .i64 m.flags, .string m.text], .pointer (some ⟨B, 0, none⟩)] _ _
  obtain ⟨v, f, t⟩ := m
  simp only at hbl hc2 ⊢
  unfold uidB
  simp only
  go_enter Tryd.func51, Tryd.ntmps51
  go_wp2
  all_goals
    go_ret
    exact ⟨by first | rfl | simp_all | (congr 2; simp_all), hbl⟩
set_option maxRecDepth 100000 in
set_option maxHeartbeats 1000000 in
theorem idxM_calls (f : FuncId) (lb : Array Value) (p : MailS → Bool) (hent : ∀ args w, (callFunc f args).run Tryd.prog w = .ok (.enter f args) w) (l : List MailS) (A : Option Addr) (c : Nat) (w : World) (hl : l.length ≤ 9223372036854775807) (hA : MsAt w A l) (hp : PredM f lb p w l) :
    Calls Tryd.prog 50 #[.slice A l.length c, .func (.func f) #[] lb] w fun e w' => e = .returned (.int .i64 (idxR p l)) ∧ Below w.heap.size w w' := by
  have Hp := Lib.hid hp
  clear hp
  go_enter Tryd.func50, Tryd.ntmps50
  go_wp2
  go_loopw [5, 8] (fun _ i wr => ∃ k : Nat, k ≤ l.length ∧ i = .int .i64 k ∧ Hid (Below w.heap.size w wr) ∧ Hid (∀ j (hj : j < l.length), j < k → p l[j] = false)) (fun _ i _ => l.length - (intOf i).toNat)
  case atStart => exact ⟨0, Nat.zero_le _, rfl, Lib.hid (Below.refl _ _), Lib.hid (fun j _ hj => absurd hj (Nat.not_lt_zero _))⟩
  case round =>
    obtain ⟨k, hk, rfl, Hb, Hno⟩ := hrel
    by_cases hlt : k < l.length
    · obtain ⟨g, off, rfl, c0, c1, c2⟩ := hA.later Hb.out k l[k] (by simp [hlt])
      have h1 := Hp.out wr l[k] (List.getElem_mem hlt) Hb.out
      have hk0 : (0 : Int) ≤ (k : Int) := by omega
      have hkn : (k : Int) < (l.length : Int) := by omega
      obtain ⟨b, hbe⟩ : ∃ b, l[k] = b := ⟨_, rfl⟩
      rw [hbe] at c0 c1 c2 h1
      have Hbe := Lib.hid hbe
      clear hbe
      cases hq : p b with
      | true =>
        rw [hq] at h1
        have hfin : idxR p l = k := idxR_hit _ l k hlt (by rw [Hbe.out]; exact hq) Hno.out
        have Hf := Lib.hid hfin
        have H1 := Lib.hid h1
        clear hfin h1 hq
        obtain ⟨u, fl, t⟩ := b
        simp only at c0 c1 c2 H1
        go_wp2_with (go_at_fn f; refine H1.out.mono ?_; rintro e w' ⟨rfl, hb'⟩; have Hb2 := Lib.hid (Hb.out.trans (hb'.mono Hb.out.size)); clear hb' H1)
        go_ret
        exact ⟨by rw [Hf.out]; rfl, Hb2.out⟩
      | false =>
        rw [hq] at h1
        have hno : ∀ j (hj : j < l.length), j < k + 1 → p l[j] = false := by
          intro j hj hjk
          by_cases e : j = k
          · have h2 : l[j] = b := by rw [← Hbe.out]; simp only [e]
            rw [h2]; exact hq
          · exact Hno.out j hj (by omega)
        have Hn2 := Lib.hid hno
        have H1 := Lib.hid h1
        clear hno h1 hq
        obtain ⟨u, fl, t⟩ := b
        simp only at c0 c1 c2 H1
        go_wp2_with (go_at_fn f; refine H1.out.mono ?_; rintro e w' ⟨rfl, hb'⟩; have Hb2 := Lib.hid (Hb.out.trans (hb'.mono Hb.out.size)); clear hb' H1)
        go_roundw
        case rel => exact ⟨k + 1, by omega, by go_num, Hb2, Hn2⟩
        case measure => simp [intOf]; omega
    · obtain rfl : k = l.length := by omega
      have hfin : idxR p l = -1 := idxR_miss _ l fun j hj => Hno.out j hj hj
      have Hf := Lib.hid hfin
      clear hfin Hno hA
      go_wp2
      go_ret
      exact ⟨by rw [Hf.out]; rfl, Hb.out⟩
theorem ent_del : ∀ args w, (callFunc 49 args).run Tryd.prog w = .ok (.enter 49 args) w := enters_of Tryd.func49 (by kernel_rfl) rfl
theorem ent_uid : ∀ args w, (callFunc 51 args).run Tryd.prog w = .ok (.enter 51 args) w := enters_of Tryd.func51 (by kernel_rfl) rfl
theorem zero_mail : ∀ w, (zeroValue 85).run Tryd.prog w = .ok (.agg #[.int .i64 0, .int .i64 0, .string ⟨#[]⟩]) w := fun w => by kernel_rfl
theorem run_clear_mails (w : World) (b o n c : Nat) (hn : 0 < n) (hc : ∀ j, j < n * 3 → (w.cell? ⟨b, o + j, none⟩).isSome = true) (hf : ∀ j, j < n * 3 → w.frozen? ⟨b, o + j, none⟩ = false) :
    ∃ cs, ∀ ty, (Builtin.clear_ #[81] ty #[.slice (some ⟨b, o, none⟩) n c]).run Tryd.prog w = .ok (.tuple #[]) (w.setCells b o cs) := by
  have hlen : (Builtin.zeroCells (Value.agg #[.int .i64 0, .int .i64 0, .string ⟨#[]⟩]).cells n).toList.length = n * 3 := by
    rw [Array.length_toList, size_zeroCells]; rfl
  have hone : ∀ v ∈ (Builtin.zeroCells (Value.agg #[.int .i64 0, .int .i64 0, .string ⟨#[]⟩]).cells n).toList, v.oneCell' = true := by
    intro v hv
    simp [Builtin.zeroCells, Value.cells] at hv
    obtain ⟨a, ha, rfl⟩ := hv
    have h3 : a % 3 = 0 ∨ a % 3 = 1 ∨ a % 3 = 2 := by omega
    rcases h3 with h3 | h3 | h3 <;> rw [h3] <;> rfl
  refine ⟨(Builtin.zeroCells (Value.agg #[.int .i64 0, .int .i64 0, .string ⟨#[]⟩]).cells n).toList, fun ty => ?_⟩
  have hst := run_storeCells_cells (P := Tryd.prog) b o (Builtin.zeroCells (Value.agg #[.int .i64 0, .int .i64 0, .string ⟨#[]⟩]).cells n).toList 0 w (by rw [hlen]; simpa using hc) (by rw [hlen]; simpa using hf) hone
  simp only [Nat.add_zero] at hst
  obtain ⟨m, rfl⟩ : ∃ m, n = m + 1 := ⟨n - 1, by omega⟩
  simp [Builtin.clear_, run_underlying Tryd.underlying81, hst]
/-- The mails that are not deleted. -/
def keepM (l : List MailS) : List MailS := l.filter fun m => !delB m
theorem keepM_append (a b : List MailS) : keepM (a ++ b) = keepM a ++ keepM b := by simp [keepM]
section
variable {w : World} {base e size g n cap : Nat} {xs : List Value}
/-- A row is cut off. -/
theorem row_cut (h : w.ownsRow base e size (.slice (some ⟨g, 0, none⟩) n cap) n xs) (i : Nat) (hi : i ≤ n) : w.ownsRow base e size (.slice (some ⟨g, 0, none⟩) i cap) i (xs.take (i * size)) := by
  rcases h.2 with ⟨h1, _⟩ | ⟨g2, cap2, cur, h1, hb, hg, hn, hc, hcur, ht⟩
  · cases h1
  · obtain ⟨h2, _, rfl⟩ := Value.slice.inj h1
    obtain rfl : g = g2 := by injection h2 with h3; injection h3
    have hm : i * size ≤ n * size := Nat.mul_le_mul_right _ hi
    refine ⟨by rw [List.length_take, h.1]; omega, .inr ⟨g, cap, cur, rfl, hb, hg, by omega, hc, hcur, ?_⟩⟩
    rw [← ht, List.take_take, Nat.min_eq_left hm]
/-- What is written behind a row does not touch it. -/
theorem row_behind (vs : List Value) : ∀ (o : Nat) (w : World), w.ownsRow base e size (.slice (some ⟨g, 0, none⟩) n cap) n xs → n * size ≤ o → (w.setCells g o vs).ownsRow base e size (.slice (some ⟨g, 0, none⟩) n cap) n xs ∧ w.grownBy (w.setCells g o vs) (some g) := by
  induction vs with
  | nil => exact fun o w h _ => ⟨h, ⟨rfl, rfl, rfl, Nat.le_refl _, fun _ _ _ => rfl⟩⟩
  | cons v r ih =>
    intro o w h ho
    have h1 := h.stored o v
    rw [List.set_eq_of_length_le (by rw [h.1]; exact ho)] at h1
    have h2 := ih (o + 1) _ h1.1 (by omega)
    exact ⟨h2.1, grown_trans h1.2 h2.2 (.inl rfl)⟩
end
/-- An element of a row of mails is written. -/
theorem mail_set {w : World} {base g n c : Nat} {l : List MailS} (h : w.ownsRow base 85 3 (.slice (some ⟨g, 0, none⟩) n c) n (mailsCells l)) (hl : l.length = n) (i : Nat) (m : MailS) (hi : i < n) :
    (((w.setCell ⟨g, i * 3, none⟩ (.int .i64 m.uid)).setCell ⟨g, i * 3 + 1, none⟩ (.int .i64 m.flags)).setCell ⟨g, i * 3 + 2, none⟩ (.string m.text)).ownsRow base 85 3 (.slice (some ⟨g, 0, none⟩) n c) n (mailsCells (l.set i m)) := by
  have h3 := (((h.stored (i * 3 + 0) (.int .i64 m.uid)).1.stored (i * 3 + 1) (.int .i64 m.flags)).1.stored (i * 3 + 2) (.string m.text)).1
  have hx : l[i]? = some l[i] := by simp
  obtain ⟨x, hxe⟩ : ∃ x, l[i] = x := ⟨_, rfl⟩
  rw [hxe] at hx
  have e1 := flat_set mailCells 3 (fun _ => rfl) x ⟨m.uid, x.flags, x.text⟩ 0 (.int .i64 m.uid) (by decide) rfl l i hx
  have hx1 : (l.set i ⟨m.uid, x.flags, x.text⟩)[i]? = some ⟨m.uid, x.flags, x.text⟩ := by simp [show i < l.length by omega]
  have e2 := flat_set mailCells 3 (fun _ => rfl) (⟨m.uid, x.flags, x.text⟩ : MailS) ⟨m.uid, m.flags, x.text⟩ 1 (.int .i64 m.flags) (by decide) rfl _ i hx1
  have hx2 : ((l.set i ⟨m.uid, x.flags, x.text⟩).set i ⟨m.uid, m.flags, x.text⟩)[i]? = some (⟨m.uid, m.flags, x.text⟩ : MailS) := by simp [show i < l.length by omega]
  have e3 := flat_set mailCells 3 (fun _ => rfl) (⟨m.uid, m.flags, x.text⟩ : MailS) m 2 (.string m.text) (by decide) rfl _ i hx2
  have e4 : ((mailsCells l).set (i * 3 + 0) (.int .i64 m.uid)).set (i * 3 + 1) (.int .i64 m.flags) = mailsCells ((l.set i ⟨m.uid, x.flags, x.text⟩).set i ⟨m.uid, m.flags, x.text⟩) := by
    show ((l.flatMap mailCells).set (i * 3 + 0) _).set _ _ = _
    rw [e1, e2]; rfl
  rw [e4] at h3
  have e5 : (mailsCells ((l.set i ⟨m.uid, x.flags, x.text⟩).set i ⟨m.uid, m.flags, x.text⟩)).set (i * 3 + 2) (.string m.text) = mailsCells (l.set i m) := by
    show ((List.flatMap mailCells _)).set _ _ = _
    rw [e3]
    simp [mailsCells]
  rw [e5] at h3
  exact h3
/-- What DeleteFunc ends in. -/
def DelOk (w : World) (B : Nat) (v : Value) (ms : List MailS) (e : Ending) (w' : World) : Prop :=
  ∃ v', e = .returned v' ∧ w'.ownsRow B 85 3 v' (keepM ms).length (mailsCells (keepM ms)) ∧ w.grownBy w' v.ownBlock ∧ v'.ownBlock = v.ownBlock
set_option maxRecDepth 100000 in
set_option maxHeartbeats 1000000 in
theorem del_call (m : MailS) (h0 : 0 ≤ m.flags) (h1 : m.flags ≤ 31) (W : World) : Calls Tryd.prog 49 #[.agg #[.int .i64 m.uid, .int .i64 m.flags, .string m.text]] W fun e w' => e = .returned (.bool (delB m)) ∧ Below W.heap.size W w' := by
  have h := del_pred W [m] (fun x hx => by simp at hx; subst hx; exact ⟨h0, h1⟩) W m (by simp) (Below.refl _ _)
  exact h
set_option maxRecDepth 100000 in
set_option maxHeartbeats 4000000 in
theorem delFunc_calls (ms : List MailS) (v : Value) (B : Nat) (w : World) (hB : B ≤ w.heap.size) (hrow : w.ownsRow B 85 3 v ms.length (mailsCells ms)) (hf : ∀ m ∈ ms, 0 ≤ m.flags ∧ m.flags ≤ 31) (hl : ms.length ≤ 1000) :
    Calls Tryd.prog 48 #[v, .func (.func 49) #[] #[]] w fun e w' => DelOk w B v ms e w' := by
  obtain ⟨A, c, rfl⟩ := own_sliceE hrow
  have hms := ms_of_own hrow rfl
  have hix := idxM_calls 49 #[] delB ent_del ms A c w (by omega) hms (del_pred w ms hf)
  have hidx := idxR_lt delB ms
  by_cases hno : idxR delB ms < 0
  · have hall : keepM ms = ms := by
      unfold keepM
      rw [List.filter_eq_self]
      intro m hm
      cases hd : delB m with
      | false => rfl
      | true =>
        exfalso
        unfold idxR at hno
        have : ms.findIdx delB < ms.length := List.findIdx_lt_length_of_exists ⟨m, hm, hd⟩
        rw [if_pos this] at hno
        omega
    have h1 : idxR delB ms = -1 := by omega
    rw [h1] at hix
    have Hix := Lib.hid hix
    have Hall := Lib.hid hall
    have Hrow := Lib.hid hrow
    clear hix hall hms hrow h1 hidx hno hf
    go_enter Tryd.func48, Tryd.ntmps48
    go_wp2_with fail
    refine Hix.out.mono ?_
    rintro e w1 ⟨rfl, hb1⟩
    have Hb1 := Lib.hid hb1
    clear hb1
    go_wp2_with fail
    go_ret
    refine ⟨_, rfl, ?_, ?_, rfl⟩
    · rw [Hall.out]; exact row_later Hb1.out Hrow.out
    · exact ⟨Hb1.out.os, Hb1.out.tape, Hb1.out.output, Hb1.out.size, fun k hk _ => Hb1.out.block k hk⟩
  · obtain ⟨k0, hk0⟩ : ∃ k : Nat, idxR delB ms = k := ⟨(idxR delB ms).toNat, by omega⟩
    rw [hk0] at hix hidx
    have hkl : k0 < ms.length := by omega
    have hfx : ms.findIdx delB = k0 := by
      unfold idxR at hk0
      by_cases hlt : ms.findIdx delB < ms.length
      · rw [if_pos hlt] at hk0; omega
      · rw [if_neg hlt] at hk0; omega
    have hdel : delB ms[k0] = true := by
      have h := List.findIdx_getElem (p := delB) (xs := ms) (w := by rw [hfx]; exact hkl)
      simpa only [hfx] using h
    have hbef : ∀ j (hj : j < ms.length), j < k0 → delB ms[j] = false := fun j hj hjk => by
      have := List.not_of_lt_findIdx (p := delB) (xs := ms) (i := j) (by rw [hfx]; exact hjk)
      simpa using this
    have hK0 : keepM (ms.take (k0 + 1)) = ms.take k0 := by
      rw [List.take_succ_eq_append_getElem hkl, keepM_append]
      have e1 : keepM (ms.take k0) = ms.take k0 := by
        unfold keepM
        rw [List.filter_eq_self]
        intro m hm
        obtain ⟨j, hj, rfl⟩ := List.getElem_of_mem hm
        rw [List.length_take] at hj
        rw [List.getElem_take, hbef j (by omega) (by omega)]
        rfl
      have e2 : keepM [ms[k0]] = [] := by simp [keepM, hdel]
      rw [e1, e2, List.append_nil]
    obtain ⟨g, c', e⟩ := Joins.ownsRow_form hrow (by omega)
    obtain ⟨rfl, _, rfl⟩ := Value.slice.inj e
    have hcap := own_cap hrow
    have hstart : ms.take k0 ++ [ms[k0]] ++ ms.drop (k0 + 1) = ms := by
      rw [List.append_assoc, List.singleton_append, ← List.drop_eq_getElem_cons hkl, List.take_append_drop]
    have Hix := Lib.hid hix
    have Hrow := Lib.hid hrow
    have Hf := Lib.hid hf
    have HK0 := Lib.hid hK0
    have Hst := Lib.hid hstart
    have hk00 : ((k0 : Int) == -1) = false := by rw [beq_eq_false_iff_ne]; omega
    obtain ⟨n, hn⟩ : ∃ n, ms.length = n := ⟨_, rfl⟩
    have Hn := Lib.hid hn
    rw [hn] at Hix Hrow hkl hl hcap
    have hkn : k0 + 1 ≤ n := by omega
    obtain ⟨x0, hx0⟩ : ∃ x0, ms[k0] = x0 := ⟨_, rfl⟩
    rw [hx0] at Hst
    clear hix hrow hf hms hbef hdel hfx hK0 hstart hno hidx hk0 e hx0
    rw [hn]
    clear hn
    go_enter Tryd.func48, Tryd.ntmps48
    go_wp2_with fail
    refine Hix.out.mono ?_
    rintro e w1 ⟨rfl, hb1⟩
    have hg1 : w.grownBy w1 (some g) := ⟨hb1.os, hb1.tape, hb1.output, hb1.size, fun k hk _ => hb1.block k hk⟩
    have hr1 := row_later hb1 Hrow.out
    clear hb1 Hix Hrow
    go_wp2_with fail
    go_loopw [5, 6] (fun a b wr => ∃ (j : Nat) (mid : List MailS), j ≤ n ∧ a = .int .i64 ((keepM (ms.take j)).length : Nat) ∧ b = .int .i64 j ∧ mid.length + (keepM (ms.take j)).length = j ∧ 0 < mid.length ∧ wr.ownsRow B 85 3 (.slice (some ⟨g, 0, none⟩) n c) n (mailsCells (keepM (ms.take j) ++ mid ++ ms.drop j)) ∧ Hid (w.grownBy wr (some g))) (fun _ b _ => n - (intOf b).toNat)
    case atStart =>
      have hlt : (ms.take k0).length = k0 := by rw [List.length_take, Hn.out]; omega
      exact ⟨k0 + 1, [x0], hkn, by rw [HK0.out, hlt], by go_num, by rw [HK0.out, hlt]; simp; omega, by simp, by rw [HK0.out, Hst.out]; exact hr1, Lib.hid hg1⟩
    case round =>
      obtain ⟨j, mid, hj, rfl, rfl, hmid, hmp, hrow, Hg⟩ := hrel
      clear hg1 hr1
      have hsz := Hg.out.size
      by_cases hjn : j < n
      · have hjl : j < ms.length := by rw [Hn.out]; exact hjn
        have hdr : ms.drop j = ms[j] :: ms.drop (j + 1) := List.drop_eq_getElem_cons hjl
        have htk : keepM (ms.take (j + 1)) = keepM (ms.take j) ++ keepM [ms[j]] := by rw [List.take_succ_eq_append_getElem hjl, keepM_append]
        have hfl := Hf.out ms[j] (List.getElem_mem hjl)
        obtain ⟨m, hm⟩ : ∃ m, ms[j] = m := ⟨_, rfl⟩
        rw [hm] at hdr htk hfl
        obtain ⟨K, hK⟩ : ∃ K, keepM (ms.take j) = K := ⟨_, rfl⟩
        rw [hK] at htk hrow hmid ⊢
        rw [hdr] at hrow
        have hcl : (K ++ mid ++ m :: ms.drop (j + 1)).length = n := by
          rw [List.length_append, List.length_append, List.length_cons, List.length_drop, Hn.out]
          omega
        have hma := ms_of_own hrow hcl
        have hgj : (K ++ mid ++ m :: ms.drop (j + 1))[j]? = some m := by
          rw [List.getElem?_append_right (by simp; omega)]
          have : j - (K ++ mid).length = 0 := by simp; omega
          rw [this]; rfl
        obtain ⟨g2, off, e2, c0, c1, c2⟩ := hma j m hgj
        obtain ⟨rfl, rfl⟩ : g = g2 ∧ 0 = off := by injection e2 with e3; injection e3 with e4 e5; exact ⟨e4, e5⟩
        rw [Nat.zero_add] at c0 c1 c2
        have hbA : Below wr.heap.size wr (wr.alloc (.cells #[.int .i64 m.uid, .int .i64 m.flags, .string m.text] 85)) := (Below.refl _ wr).alloc (Nat.le_refl _) _
        have hX := Bk.new wr [.int .i64 m.uid, .int .i64 m.flags, .string m.text] 85
        have hdc := del_call m hfl.1 hfl.2 (wr.alloc (.cells #[.int .i64 m.uid, .int .i64 m.flags, .string m.text] 85))
        have hrA := row_later hbA hrow
        have hgA : w.grownBy (wr.alloc (.cells #[.int .i64 m.uid, .int .i64 m.flags, .string m.text] 85)) (some g) := grown_trans Hg.out (grown_of_below hbA) (.inr fun k e => by cases e)
        have hj0 : (0 : Int) ≤ (j : Int) := by omega
        have hjn2 : (j : Int) < (n : Int) := by omega
        have hi0 : (0 : Int) ≤ (K.length : Int) := by omega
        have hin : (K.length : Int) < (n : Int) := by omega
        obtain ⟨u, fl, t⟩ := m
        simp only at c0 c1 c2 hbA hX hdc hrA hgA
        have Hdc := Lib.hid hdc
        have Hdr := Lib.hid hdr
        have Htk := Lib.hid htk
        have HK := Lib.hid hK
        have Hcl := Lib.hid hcl
        have x0' := hX.cell 0 _ rfl
        have x1' := hX.cell 1 _ rfl
        have x2' := hX.cell 2 _ rfl
        clear hdc hdr htk hK hcl hma hgj e2 hm hrow hbA Hg
        go_wp2_with fail
        generalize wr.alloc (.cells #[.int .i64 u, .int .i64 fl, .string t] 85) = w2 at *
        refine Hdc.out.mono ?_
        rintro e w3 ⟨rfl, hb3⟩
        have hr3 := row_later hb3 hrA
        have hg3 := grown_trans hgA (grown_of_below hb3) (.inr fun k e => by cases e)
        have hX3 := hX.later hb3
        clear Hdc hb3 hrA hgA hX x0' x1' x2' c0 c1 c2
        cases hd : delB ⟨u, fl, t⟩ with
        | true =>
          have hk1 : keepM (ms.take (j + 1)) = K := by rw [Htk.out]; simp [keepM, hd]
          have Hk1 := Lib.hid hk1
          have Hg3 := Lib.hid hg3
          have Hr3 := Lib.hid hr3
          clear hk1 hd hg3 hr3 hX3
          go_wp2_with fail
          go_roundw
          case rel => exact ⟨j + 1, mid ++ [⟨u, fl, t⟩], by omega, by rw [Hk1.out], by go_num, by rw [Hk1.out]; simp; omega, by simp, by rw [Hk1.out]; have h := Hr3.out; simpa using h, Hg3⟩
          case measure => simp [intOf]; omega
        | false =>
          have hk1 : keepM (ms.take (j + 1)) = K ++ [⟨u, fl, t⟩] := by rw [Htk.out]; simp [keepM, hd]
          obtain ⟨y, mt, rfl⟩ : ∃ y mt, mid = y :: mt := by
            cases mid with
            | nil => simp at hmp
            | cons y mt => exact ⟨y, mt, rfl⟩
          have hset := mail_set hr3 Hcl.out K.length ⟨u, fl, t⟩ (by omega)
          have hse : (K ++ y :: mt ++ (⟨u, fl, t⟩ : MailS) :: ms.drop (j + 1)).set K.length ⟨u, fl, t⟩ = (K ++ [⟨u, fl, t⟩]) ++ (mt ++ [⟨u, fl, t⟩]) ++ ms.drop (j + 1) := by
            rw [List.append_assoc, List.set_append_right _ _ (Nat.le_refl _), Nat.sub_self]
            simp
          rw [hse] at hset
          have hy := ms_of_own hr3 Hcl.out K.length y (by simp)
          obtain ⟨g2, off, e2, d0, d1, d2⟩ := hy
          obtain ⟨rfl, rfl⟩ : g = g2 ∧ 0 = off := by injection e2 with e3; injection e3 with e4 e5; exact ⟨e4, e5⟩
          rw [Nat.zero_add] at d0 d1 d2
          have f0 := hr3.frozenAt (K.length * 3)
          have f1 := hr3.frozenAt (K.length * 3 + 1)
          have f2 := hr3.frozenAt (K.length * 3 + 2)
          have y0 := hX3.cell 0 _ rfl
          have y1 := hX3.cell 1 _ rfl
          have y2 := hX3.cell 2 _ rfl
          have hg4 := grown_trans (grown_trans (grown_trans hg3 (setCell_grown w3 g (K.length * 3) (.int .i64 u)) (.inl rfl)) (setCell_grown _ g (K.length * 3 + 1) (.int .i64 fl)) (.inl rfl)) (setCell_grown _ g (K.length * 3 + 2) (.string t)) (.inl rfl)
          have Hk1 := Lib.hid hk1
          have Hg4 := Lib.hid hg4
          have Hset := Lib.hid hset
          clear hk1 hd hg3 hr3 hX3 hset hse hg4 e2 Hcl
          simp only [List.length_cons] at hmid
          go_wp2_with fail
          go_roundw
          case rel => exact ⟨j + 1, mt ++ [⟨u, fl, t⟩], by omega, by rw [Hk1.out, List.length_append]; go_num, by go_num, by rw [Hk1.out]; simp; omega, by simp, by rw [Hk1.out]; exact Hset.out, Hg4⟩
          case measure => simp [intOf]; omega
      · obtain rfl : j = n := by omega
        have hfull : ms.take j = ms := List.take_of_length_le (by rw [Hn.out]; exact Nat.le_refl _)
        have hdr : ms.drop j = [] := List.drop_of_length_le (by rw [Hn.out]; exact Nat.le_refl _)
        rw [hfull, hdr, List.append_nil] at hrow
        rw [hfull] at hmid ⊢
        obtain ⟨K, hK⟩ : ∃ K, keepM ms = K := ⟨_, rfl⟩
        rw [hK] at hrow hmid ⊢
        have hi0 : (0 : Int) ≤ (K.length : Int) := by omega
        have hin : (K.length : Int) < (j : Int) := by omega
        have hic : (K.length : Int) ≤ (c : Int) := by omega
        have hjc : (j : Int) ≤ (c : Int) := by omega
        have hne : ¬ c = K.length := by omega
        have hcells : ∀ q, q < (j - K.length) * 3 → (wr.cell? ⟨g, K.length * 3 + q, none⟩).isSome = true := by
          intro q hq
          rw [hrow.cellAt _ (by omega), List.getElem?_eq_getElem (by rw [hrow.1]; omega)]
          rfl
        obtain ⟨cs, hcs⟩ := run_clear_mails wr g (K.length * 3) (j - K.length) (c - K.length) (by omega) hcells (fun q _ => hrow.frozenAt _)
        have hcut := row_behind cs (K.length * 3) wr (row_cut hrow K.length (by omega)) (Nat.le_refl _)
        have htk : (mailsCells (K ++ mid)).take (K.length * 3) = mailsCells K := by
          have e1 : mailsCells (K ++ mid) = mailsCells K ++ mailsCells mid := by simp [mailsCells]
          rw [e1, List.take_append_of_le_length (by rw [mailsCells_len]; exact Nat.le_refl _), List.take_of_length_le (by rw [mailsCells_len]; exact Nat.le_refl _)]
        rw [htk] at hcut
        have hgz := grown_trans Hg.out hcut.2 (.inl rfl)
        have HK := Lib.hid hK
        have Hgz := Lib.hid hgz
        have Hcut := Lib.hid hcut.1
        clear hfull hdr hrow hcells hcut htk hK hgz Hg
        go_wp2_with fail
        go_ret
        exact ⟨_, rfl, by rw [HK.out]; exact Hcut.out, Hgz.out, rfl⟩
end Go.Proofs.YtpncahklapfoaaaDoor
namespace Go.Proofs.YtpncahklapfoaaaDoor
open Go.RowKit
attribute [local go_sem ↓] Go.wp_at_zero Go.wp_at_succ
set_option linter.unusedVariables false

/-- Bounds that a state keeps. -/
structure InvS (s : StS) : Prop where
  nb : s.boxes.length ≤ 5
  ns : s.spool.length ≤ 20
  nm : ∀ b ∈ s.boxes, b.mails.length ≤ 30 ∧ 0 ≤ b.next ∧ ∀ m ∈ b.mails, 0 ≤ m.flags ∧ m.flags ≤ 31 ∧ m.text.size ≤ 2000
theorem OkS.inv {s : StS} (h : OkS s) : InvS s := ⟨h.nb, h.ns, fun b hb => by
  obtain ⟨h1, _, h2, _, h3⟩ := h.nm b hb
  exact ⟨h1, by omega, fun m hm => ⟨(h3 m hm).2.2.1, (h3 m hm).2.2.2.1, (h3 m hm).2.2.2.2⟩⟩⟩
theorem InvS.z {s : StS} (h : InvS s) : OkZ s := ⟨by have := h.nb; omega, fun b hb => by
  obtain ⟨h1, _, h3⟩ := h.nm b hb
  exact ⟨by omega, fun m hm => (h3 m hm).2.2⟩⟩
/-- What stands in apply: the state, the entry. -/
structure KA (w W : World) (B p h : Nat) (s : StS) (vb vs : Value) (vm : List Value) (x : Ent) : Prop where
  o : OwnSt W B p s vb vs vm
  x : EB W h x
  bl : Below B w W
theorem KA.later {w W W' : World} {B p h : Nat} {s : StS} {vb vs : Value} {vm : List Value} {x : Ent} (k : KA w W B p h s vb vs vm x) (hb : Below W.heap.size W W') : KA w W' B p h s vb vs vm x :=
  ⟨k.o.later hb, (hb.block h (Array.getElem?_eq_some_iff.1 k.x).1).trans k.x, k.bl.trans (hb.mono (by have := k.o.pB; have := k.o.lt; omega))⟩
theorem keepA {f : FuncId} {args : Array Value} {r : Value} {w W : World} {B p h : Nat} {s : StS} {vb vs b : Value} {vm : List Value} {x : Ent} {j : Nat}
    (hc : KA w W B p h s vb vs vm x → Calls Tryd.prog f args W fun e w' => e = .returned r ∧ Below W.heap.size W w')
    (hk : W.cell? ⟨p, 0, none⟩ = some vb ∧ W.cell? ⟨h, j, none⟩ = some b ∧ KA w W B p h s vb vs vm x) :
    Calls Tryd.prog f args W fun e w' => e = .returned r ∧ (w'.cell? ⟨p, 0, none⟩ = some vb ∧ w'.cell? ⟨h, j, none⟩ = some b ∧ KA w w' B p h s vb vs vm x) :=
  (hc hk.2.2).mono fun _ _ ⟨he, hb⟩ => ⟨he, cell_later hb hk.1, cell_later hb hk.2.1, hk.2.2.later hb⟩
set_option maxRecDepth 100000 in
set_option maxHeartbeats 8000000 in
theorem apply_spool (s : StS) (bx : ByteArray) (ud fl : Int) (ds tx : ByteArray) (B p : Nat) (vb vs : Value) (vm : List Value) (w : World) (h : OwnSt w B p s vb vs vm) (hi : InvS s) :
    Calls Tryd.prog 37 #[.pointer (some ⟨p, 0, none⟩), entVal ⟨6, bx, ud, fl, ds, tx⟩] w fun e w' => StepOk w B p (applyR s ⟨6, bx, ud, fl, ds, tx⟩) e w' := by
  unfold entVal
  simp only
  obtain ⟨A, c, rfl⟩ := own_sliceE h.rb
  have hbA : Below w.heap.size w (w.alloc (.cells #[.int .i64 6, .string bx, .int .i64 ud, .int .i64 fl, .string ds, .string tx] 63)) := (Below.refl _ w).alloc (Nat.le_refl _) _
  have hB : B ≤ w.heap.size := by have := h.pB; have := h.lt; omega
  have hX : EB (w.alloc (.cells #[.int .i64 6, .string bx, .int .i64 ud, .int .i64 fl, .string ds, .string tx] 63)) w.heap.size ⟨6, bx, ud, fl, ds, tx⟩ := World.alloc_heap_new w _
  have hka : KA w (w.alloc (.cells #[.int .i64 6, .string bx, .int .i64 ud, .int .i64 fl, .string ds, .string tx] 63)).drew B p w.heap.size s (.slice A s.boxes.length c) vs vm ⟨6, bx, ud, fl, ds, tx⟩ := KA.later ⟨h.later hbA, hX, hbA.mono hB⟩ (bel_drew _)
  have e0 := hka.o.c0
  have x1 := (EB.cells hka.x).2.1
  have hfi := fun W (hW : KA w W B p w.heap.size s (.slice A s.boxes.length c) vs vm ⟨6, bx, ud, fl, ds, tx⟩) => find_calls s.boxes A c bx W (by have := hi.nb; omega) (hW.o.bx rfl)
  have Hka := Lib.hid hka
  have Hfi := Lib.hid hfi
  have Hi := Lib.hid hi
  have hnb := hi.nb
  have hns := hi.ns
  clear hfi hX hbA hka h hi
  go_enter Tryd.func37, Tryd.ntmps37
  go_wp2_with fail
  go_region_held3 (fun w' => w'.cell? ⟨p, 0, none⟩ = some (.slice A s.boxes.length c) ∧ w'.cell? ⟨w.heap.size, 1, none⟩ = some (.string bx) ∧ KA w w' B p w.heap.size s (.slice A s.boxes.length c) vs vm ⟨6, bx, ud, fl, ds, tx⟩) (first | exact hKK | exact ⟨e0, x1, Hka.out⟩)
    (first
      | (go_at_call 43; (with_reducible refine (keepA (w := w) (B := B) (p := p) (h := w.heap.size) (s := s) (vb := .slice A s.boxes.length c) (vs := vs) (vm := vm) (x := ⟨6, bx, ud, fl, ds, tx⟩) (b := .string bx) (j := 1) (Hfi.out _) ?_).mono ?_); (first | assumption | exact hS); rintro e w2 ⟨rfl, hKK⟩))
  obtain ⟨_, _, hK⟩ := hKK
  obtain ⟨x0, x1, x2, x3, x4, x5⟩ := EB.cells hK.x
  have e0 := hK.o.c0
  have HK := Lib.hid hK
  have hlt2 : w.heap.size < w2.heap.size := (Array.getElem?_eq_some_iff.1 hK.x).1
  have hpl := hK.o.lt
  have hpB := hK.o.pB
  clear Hka Hfi hK
  obtain ⟨A2, c2, rfl⟩ := own_sliceE HK.out.o.rs
  have e1 := HK.out.o.c1
  have hr : applyR s ⟨6, bx, ud, fl, ds, tx⟩ = if s.spool.length = 20 then (5, s) else (0, { s with spool := s.spool ++ [⟨6, bx, ud, fl, ds, tx⟩] }) := by unfold applyR; rw [if_pos rfl]
  by_cases h20 : s.spool.length = 20
  · rw [if_pos h20] at hr
    have Hr := Lib.hid hr
    rw [h20] at e1
    clear hr
    go_wp2_with fail
    go_ret
    exact ⟨by rw [Hr.out]; rfl, _, _, _, by rw [Hr.out]; exact HK.out.o, HK.out.bl⟩
  · rw [if_neg h20] at hr
    have Hr := Lib.hid hr
    have hne : (((s.spool.length : Nat) : Int) == 20) = false := by rw [beq_eq_false_iff_ne]; omega
    have hbB : Below w2.heap.size w2 (w2.alloc (.cells #[.int .i64 6, .string bx, .int .i64 ud, .int .i64 fl, .string ds, .string tx] 63)) := (Below.refl _ w2).alloc (Nat.le_refl _) _
    have hrs := HK.out.o.rs
    have y0 := cell_later hbB x0
    have y1 := cell_later hbB x1
    have y2 := cell_later hbB x2
    have y3 := cell_later hbB x3
    have y4 := cell_later hbB x4
    have y5 := cell_later hbB x5
    have y6 := cell_later hbB e1
    have hfin : ∀ (g' cap : Nat) (w11 X : World), Below w2.heap.size w2 X → w11.ownsRow B 63 6 (.slice (some ⟨g', 0, none⟩) (s.spool.length + 1) cap) (s.spool.length + 1) (entsCells s.spool ++ [.int .i64 6, .string bx, .int .i64 ud, .int .i64 fl, .string ds, .string tx]) → X.grownBy w11 (Value.ownBlock (.slice A2 s.spool.length c2)) → ((Value.slice A2 s.spool.length c2).ownBlock = some g' ∨ w2.heap.size ≤ g') →
        (w11.cell? ⟨p, 1, none⟩ = some (.slice A2 s.spool.length c2) ∧ w11.frozen? ⟨p, 1, none⟩ = false) ∧ OwnSt (w11.setCell ⟨p, 1, none⟩ (.slice (some ⟨g', 0, none⟩) (s.spool.length + 1) cap)) B p ⟨s.boxes, s.spool ++ [⟨6, bx, ud, fl, ds, tx⟩]⟩ (.slice A s.boxes.length c) (.slice (some ⟨g', 0, none⟩) (s.spool.length + 1) cap) vm ∧ Below B w (w11.setCell ⟨p, 1, none⟩ (.slice (some ⟨g', 0, none⟩) (s.spool.length + 1) cap)) := by
      intro g' cap w11 X hX hown hg hat
      have hg2 := grown_pre hg hX
      have hpk := HK.out.o.pkeep hg2 2 rfl (by decide)
      refine ⟨⟨hpk.2.1, hpk.2.2.2⟩, HK.out.o.addSpool ⟨6, bx, ud, fl, ds, tx⟩ _ hg2 hown (by
        rcases hat with e | e
        · exact .inl e.symm
        · exact .inr ⟨g', rfl, e⟩), ?_⟩
      have hbl : Below B w2 w11 := (Below.refl B w2).grown hg2 (by omega) (fun k e => (HK.out.o.blk 2 k (by show some _ = _; rw [e])).1)
      exact (HK.out.bl.trans hbl).setCell (p := ⟨p, 1, none⟩) hpB _
    have Hfin := Lib.hid hfin
    obtain ⟨i0, hi0, hz0, hz1, hz2⟩ := info_parts info_ent
    clear hr hfin h20 hbB e0
    go_wp2_with fail
    go_region_law (first
      | (refine step_append_lies _ (by rfl) _ _ _ (by rfl) B 63 i0 _ 6 72 Tryd.underlying23 hi0 hz0 hz1 hz2 rfl (by omega) (.slice A2 s.spool.length c2) s.spool.length (entsCells s.spool) (by rfl) (hrs.alloc _) ⟨w2.heap.size, 0, none⟩ 1 1 [.int .i64 6, .string bx, .int .i64 ud, .int .i64 fl, .string ds, .string tx] (by rfl) (by rfl) (World.news_of_block (cs := #[.int .i64 6, .string bx, .int .i64 ud, .int .i64 fl, .string ds, .string tx]) (t := 63) (fr := (0, 0)) (heap_alloc_new w2 _)) (by simp [Value.oneCell']) (by omega) (by unfold maxLen; omega) (by omega) (by simp; omega) _ (by rfl) ?_; intro g' cap w11 hown1 hgrow hat hglt; have fin := Hfin.out g' cap w11 _ (((Below.refl _ w2).alloc (Nat.le_refl _) _).drew) hown1 hgrow (by rcases hat with h | h; exact .inl h; right; rw [h]; simp); have k1 := fin.1.1; have k2 := fin.1.2; have Fin2 := Lib.hid fin.2; clear fin hown1 hgrow hat)
      | fail)
    all_goals
      clear hrs Hfin
      go_wp2
      go_ret
      exact ⟨by rw [Hr.out]; rfl, _, _, _, by rw [Hr.out]; exact Fin2.out.1, Fin2.out.2⟩
theorem applyR_none (s : StS) (x : Ent) (h6 : x.kind ≠ 6) (h1 : x.kind ≠ 1) (hf : findR s.boxes x.box < 0) : applyR s x = (7, s) := by
  unfold applyR
  rw [if_neg h6, if_neg h1]
  split
  · rfl
  · rw [if_pos hf]
theorem applyR_some (s : StS) (x : Ent) (h6 : x.kind ≠ 6) (h1 : x.kind ≠ 1) (i : Nat) (b : BoxS) (hf : findR s.boxes x.box = i) (hb : s.boxes[i]? = some b) : applyR s x =
    if x.kind = 2 then addR s i x.flags x.text
      else if x.kind = 4 then (0, { s with boxes := s.boxes.set i { b with mails := b.mails.filter fun m => !delB m } })
      else match b.mails[(idxR (uidB x.uid) b.mails).toNat]? with
        | none => (7, s)
        | some m => if idxR (uidB x.uid) b.mails < 0 then (7, s)
          else if x.kind = 3 then (0, { s with boxes := s.boxes.set i { b with mails := b.mails.set (idxR (uidB x.uid) b.mails).toNat { m with flags := x.flags } } })
          else if findR s.boxes x.dst < 0 then (7, s) else addR s (findR s.boxes x.dst).toNat m.flags m.text := by
  unfold applyR
  rw [if_neg h6, if_neg h1, hf]
  simp only [Int.toNat_natCast, hb]
  rw [if_neg (by omega)]
  rfl
theorem pick_box (s : StS) (bx : ByteArray) (h : ¬ findR s.boxes bx < 0) : ∃ (i : Nat) (b : BoxS), findR s.boxes bx = i ∧ s.boxes[i]? = some b ∧ i < s.boxes.length := by
  have hl := idxR_lt (fun b : BoxS => decide (b.name = bx)) s.boxes
  have hi := hl.2.2 (by unfold findR at h; omega)
  refine ⟨(findR s.boxes bx).toNat, s.boxes[(findR s.boxes bx).toNat]'hi, by omega, List.getElem?_eq_getElem hi, hi⟩
theorem pick_mail (ms : List MailS) (u : Int) (h : ¬ idxR (uidB u) ms < 0) : ∃ (k : Nat) (m : MailS), idxR (uidB u) ms = k ∧ ms[k]? = some m ∧ k < ms.length := by
  have hl := idxR_lt (uidB u) ms
  have hi := hl.2.2 (by omega)
  exact ⟨(idxR (uidB u) ms).toNat, ms[(idxR (uidB u) ms).toNat]'hi, by omega, List.getElem?_eq_getElem hi, hi⟩
set_option maxRecDepth 100000 in
set_option maxHeartbeats 8000000 in
theorem apply_create (s : StS) (bx : ByteArray) (ud fl : Int) (ds tx : ByteArray) (B p : Nat) (vb vs : Value) (vm : List Value) (w : World) (h : OwnSt w B p s vb vs vm) (hi : InvS s) :
    Calls Tryd.prog 37 #[.pointer (some ⟨p, 0, none⟩), entVal ⟨1, bx, ud, fl, ds, tx⟩] w fun e w' => StepOk w B p (applyR s ⟨1, bx, ud, fl, ds, tx⟩) e w' := by
  unfold entVal
  simp only
  obtain ⟨A, c, rfl⟩ := own_sliceE h.rb
  have hbA : Below w.heap.size w (w.alloc (.cells #[.int .i64 1, .string bx, .int .i64 ud, .int .i64 fl, .string ds, .string tx] 63)) := (Below.refl _ w).alloc (Nat.le_refl _) _
  have hB : B ≤ w.heap.size := by have := h.pB; have := h.lt; omega
  have hX : EB (w.alloc (.cells #[.int .i64 1, .string bx, .int .i64 ud, .int .i64 fl, .string ds, .string tx] 63)) w.heap.size ⟨1, bx, ud, fl, ds, tx⟩ := World.alloc_heap_new w _
  have hka : KA w (w.alloc (.cells #[.int .i64 1, .string bx, .int .i64 ud, .int .i64 fl, .string ds, .string tx] 63)).drew B p w.heap.size s (.slice A s.boxes.length c) vs vm ⟨1, bx, ud, fl, ds, tx⟩ := KA.later ⟨h.later hbA, hX, hbA.mono hB⟩ (bel_drew _)
  have e0 := hka.o.c0
  have x1 := (EB.cells hka.x).2.1
  have hfi := fun W (hW : KA w W B p w.heap.size s (.slice A s.boxes.length c) vs vm ⟨1, bx, ud, fl, ds, tx⟩) => find_calls s.boxes A c bx W (by have := hi.nb; omega) (hW.o.bx rfl)
  have Hka := Lib.hid hka
  have Hfi := Lib.hid hfi
  have Hi := Lib.hid hi
  have hnb := hi.nb
  have hns := hi.ns
  clear hfi hX hbA hka h hi
  go_enter Tryd.func37, Tryd.ntmps37
  go_wp2_with fail
  go_region_held3 (fun w' => w'.cell? ⟨p, 0, none⟩ = some (.slice A s.boxes.length c) ∧ w'.cell? ⟨w.heap.size, 1, none⟩ = some (.string bx) ∧ KA w w' B p w.heap.size s (.slice A s.boxes.length c) vs vm ⟨1, bx, ud, fl, ds, tx⟩) (first | exact hKK | exact ⟨e0, x1, Hka.out⟩)
    (first
      | (go_at_call 43; (with_reducible refine (keepA (w := w) (B := B) (p := p) (h := w.heap.size) (s := s) (vb := .slice A s.boxes.length c) (vs := vs) (vm := vm) (x := ⟨1, bx, ud, fl, ds, tx⟩) (b := .string bx) (j := 1) (Hfi.out _) ?_).mono ?_); (first | assumption | exact hS); rintro e w2 ⟨rfl, hKK⟩))
  obtain ⟨_, _, hK⟩ := hKK
  obtain ⟨x0, x1, x2, x3, x4, x5⟩ := EB.cells hK.x
  have e0 := hK.o.c0
  have HK := Lib.hid hK
  have hlt2 : w.heap.size < w2.heap.size := (Array.getElem?_eq_some_iff.1 hK.x).1
  have hpl := hK.o.lt
  have hpB := hK.o.pB
  clear Hka Hfi hK
  have hr : applyR s ⟨1, bx, ud, fl, ds, tx⟩ = if 0 ≤ findR s.boxes bx then (10, s) else if s.boxes.length = 5 then (5, s) else (0, { s with boxes := s.boxes ++ [⟨bx, 1, []⟩] }) := by unfold applyR; rw [if_neg (by simp), if_pos rfl]
  generalize findR s.boxes bx = q at *
  by_cases hq : 0 ≤ q
  · rw [if_pos hq] at hr
    have Hr := Lib.hid hr
    clear hr
    go_wp2_with fail
    go_ret
    exact ⟨by rw [Hr.out]; rfl, _, _, _, by rw [Hr.out]; exact HK.out.o, HK.out.bl⟩
  · rw [if_neg hq] at hr
    by_cases h5 : s.boxes.length = 5
    · rw [if_pos h5] at hr
      have Hr := Lib.hid hr
      rw [h5] at e0
      clear hr
      go_wp2_with fail
      go_ret
      exact ⟨by rw [Hr.out]; rfl, _, _, _, by rw [Hr.out]; exact HK.out.o, HK.out.bl⟩
    · rw [if_neg h5] at hr
      have Hr := Lib.hid hr
      have hne : (((s.boxes.length : Nat) : Int) == 5) = false := by rw [beq_eq_false_iff_ne]; omega
      have hbB : Below w2.heap.size w2 (w2.alloc (.cells #[.string bx, .int .i64 1, .slice none 0 0] 83)) := (Below.refl _ w2).alloc (Nat.le_refl _) _
      have hrb := HK.out.o.rb
      have y1 := cell_later hbB x1
      have y6 := cell_later hbB e0
      have hfin : ∀ (g' cap : Nat) (w11 X : World), Below w2.heap.size w2 X → w11.ownsRow B 83 3 (.slice (some ⟨g', 0, none⟩) (s.boxes.length + 1) cap) (s.boxes.length + 1) (boxesCells s.boxes vm ++ [.string bx, .int .i64 1, .slice none 0 0]) → X.grownBy w11 (Value.ownBlock (.slice A s.boxes.length c)) → ((Value.slice A s.boxes.length c).ownBlock = some g' ∨ w2.heap.size ≤ g') →
          (w11.cell? ⟨p, 0, none⟩ = some (.slice A s.boxes.length c) ∧ w11.frozen? ⟨p, 0, none⟩ = false) ∧ OwnSt (w11.setCell ⟨p, 0, none⟩ (.slice (some ⟨g', 0, none⟩) (s.boxes.length + 1) cap)) B p ⟨s.boxes ++ [⟨bx, 1, []⟩], s.spool⟩ (.slice (some ⟨g', 0, none⟩) (s.boxes.length + 1) cap) vs (vm ++ [.slice none 0 0]) ∧ Below B w (w11.setCell ⟨p, 0, none⟩ (.slice (some ⟨g', 0, none⟩) (s.boxes.length + 1) cap)) := by
        intro g' cap w11 X hX hown hg hat
        have hg2 := grown_pre hg hX
        have hpk := HK.out.o.pkeep hg2 1 rfl (by decide)
        refine ⟨⟨hpk.1, hpk.2.2.1⟩, HK.out.o.addBox ⟨bx, 1, []⟩ (.slice none 0 0) _ (World.ownsRow_nil _ _ _ _) (fun k e => by cases e) hg2 hown (by
          rcases hat with e | e
          · exact .inl e.symm
          · exact .inr ⟨g', rfl, e⟩), ?_⟩
        have hbl : Below B w2 w11 := (Below.refl B w2).grown hg2 (by omega) (fun k e => (HK.out.o.blk 1 k (by show some _ = _; rw [e])).1)
        exact (HK.out.bl.trans hbl).setCell (p := ⟨p, 0, none⟩) hpB _
      have Hfin := Lib.hid hfin
      obtain ⟨i0, hi0, hz0, hz1, hz2⟩ := info_parts info_box
      clear hr hfin h5 hbB
      go_wp2_with fail
      go_region_law (first
        | (refine step_append_lies _ (by rfl) _ _ _ (by rfl) B 83 i0 _ 3 48 Tryd.underlying54 hi0 hz0 hz1 hz2 rfl (by omega) (.slice A s.boxes.length c) s.boxes.length (boxesCells s.boxes vm) (by rfl) (hrb.alloc _) ⟨w2.heap.size, 0, none⟩ 1 1 [.string bx, .int .i64 1, .slice none 0 0] (by rfl) (by rfl) (World.news_of_block (cs := #[.string bx, .int .i64 1, .slice none 0 0]) (t := 83) (fr := (0, 0)) (heap_alloc_new w2 _)) (by simp [Value.oneCell']) (by omega) (by unfold maxLen; omega) (by omega) (by simp; omega) _ (by rfl) ?_; intro g' cap w11 hown1 hgrow hat hglt; have fin := Hfin.out g' cap w11 _ (((Below.refl _ w2).alloc (Nat.le_refl _) _).drew) hown1 hgrow (by rcases hat with h | h; exact .inl h; right; rw [h]; simp); have k1 := fin.1.1; have k2 := fin.1.2; have Fin2 := Lib.hid fin.2; clear fin hown1 hgrow hat)
        | fail)
      all_goals
        clear hrb Hfin
        go_wp2
        go_ret
        exact ⟨by rw [Hr.out]; rfl, _, _, _, by rw [Hr.out]; exact Fin2.out.1, Fin2.out.2⟩
set_option maxRecDepth 100000 in
set_option maxHeartbeats 8000000 in
theorem apply_none (s : StS) (bx : ByteArray) (ud fl : Int) (ds tx : ByteArray) (B p : Nat) (vb vs : Value) (vm : List Value) (w : World) (h : OwnSt w B p s vb vs vm) (hi : InvS s) (kd : Int) (h6 : (kd == 6) = false) (h1 : (kd == 1) = false) (hf : findR s.boxes bx < 0) :
    Calls Tryd.prog 37 #[.pointer (some ⟨p, 0, none⟩), entVal ⟨kd, bx, ud, fl, ds, tx⟩] w fun e w' => StepOk w B p (applyR s ⟨kd, bx, ud, fl, ds, tx⟩) e w' := by
  unfold entVal
  simp only
  obtain ⟨A, c, rfl⟩ := own_sliceE h.rb
  have hbA : Below w.heap.size w (w.alloc (.cells #[.int .i64 kd, .string bx, .int .i64 ud, .int .i64 fl, .string ds, .string tx] 63)) := (Below.refl _ w).alloc (Nat.le_refl _) _
  have hB : B ≤ w.heap.size := by have := h.pB; have := h.lt; omega
  have hX : EB (w.alloc (.cells #[.int .i64 kd, .string bx, .int .i64 ud, .int .i64 fl, .string ds, .string tx] 63)) w.heap.size ⟨kd, bx, ud, fl, ds, tx⟩ := World.alloc_heap_new w _
  have hka : KA w (w.alloc (.cells #[.int .i64 kd, .string bx, .int .i64 ud, .int .i64 fl, .string ds, .string tx] 63)).drew B p w.heap.size s (.slice A s.boxes.length c) vs vm ⟨kd, bx, ud, fl, ds, tx⟩ := KA.later ⟨h.later hbA, hX, hbA.mono hB⟩ (bel_drew _)
  have e0 := hka.o.c0
  have x1 := (EB.cells hka.x).2.1
  have hfi := fun W (hW : KA w W B p w.heap.size s (.slice A s.boxes.length c) vs vm ⟨kd, bx, ud, fl, ds, tx⟩) => find_calls s.boxes A c bx W (by have := hi.nb; omega) (hW.o.bx rfl)
  have Hka := Lib.hid hka
  have Hfi := Lib.hid hfi
  have Hi := Lib.hid hi
  have hnb := hi.nb
  have hns := hi.ns
  clear hfi hX hbA hka h hi
  go_enter Tryd.func37, Tryd.ntmps37
  go_wp2_with fail
  go_region_held3 (fun w' => w'.cell? ⟨p, 0, none⟩ = some (.slice A s.boxes.length c) ∧ w'.cell? ⟨w.heap.size, 1, none⟩ = some (.string bx) ∧ KA w w' B p w.heap.size s (.slice A s.boxes.length c) vs vm ⟨kd, bx, ud, fl, ds, tx⟩) (first | exact hKK | exact ⟨e0, x1, Hka.out⟩)
    (first
      | (go_at_call 43; (with_reducible refine (keepA (w := w) (B := B) (p := p) (h := w.heap.size) (s := s) (vb := .slice A s.boxes.length c) (vs := vs) (vm := vm) (x := ⟨kd, bx, ud, fl, ds, tx⟩) (b := .string bx) (j := 1) (Hfi.out _) ?_).mono ?_); (first | assumption | exact hS); rintro e w2 ⟨rfl, hKK⟩))
  obtain ⟨_, _, hK⟩ := hKK
  obtain ⟨x0, x1, x2, x3, x4, x5⟩ := EB.cells hK.x
  have e0 := hK.o.c0
  have HK := Lib.hid hK
  have hlt2 : w.heap.size < w2.heap.size := (Array.getElem?_eq_some_iff.1 hK.x).1
  have hpl := hK.o.lt
  have hpB := hK.o.pB
  clear Hka Hfi hK
  have hr : applyR s ⟨kd, bx, ud, fl, ds, tx⟩ = (7, s) := applyR_none s _ (by simpa using h6) (by simpa using h1) hf
  generalize findR s.boxes bx = q at *
  have Hr := Lib.hid hr
  clear hr
  go_wp2_with fail
  go_ret
  exact ⟨by rw [Hr.out]; rfl, _, _, _, by rw [Hr.out]; exact HK.out.o, HK.out.bl⟩
set_option maxRecDepth 100000 in
set_option maxHeartbeats 8000000 in
theorem apply_append (s : StS) (bx : ByteArray) (ud fl : Int) (ds tx : ByteArray) (B p : Nat) (vb vs : Value) (vm : List Value) (w : World) (h : OwnSt w B p s vb vs vm) (hi : InvS s) (i : Nat) (b : BoxS) (hf : findR s.boxes bx = i) (hb : s.boxes[i]? = some b) (hil : i < s.boxes.length) (ht : tx.size ≤ 100000) :
    Calls Tryd.prog 37 #[.pointer (some ⟨p, 0, none⟩), entVal ⟨2, bx, ud, fl, ds, tx⟩] w fun e w' => StepOk w B p (applyR s ⟨2, bx, ud, fl, ds, tx⟩) e w' := by
  unfold entVal
  simp only
  obtain ⟨A, c, rfl⟩ := own_sliceE h.rb
  have hbA : Below w.heap.size w (w.alloc (.cells #[.int .i64 2, .string bx, .int .i64 ud, .int .i64 fl, .string ds, .string tx] 63)) := (Below.refl _ w).alloc (Nat.le_refl _) _
  have hB : B ≤ w.heap.size := by have := h.pB; have := h.lt; omega
  have hX : EB (w.alloc (.cells #[.int .i64 2, .string bx, .int .i64 ud, .int .i64 fl, .string ds, .string tx] 63)) w.heap.size ⟨2, bx, ud, fl, ds, tx⟩ := World.alloc_heap_new w _
  have hka : KA w (w.alloc (.cells #[.int .i64 2, .string bx, .int .i64 ud, .int .i64 fl, .string ds, .string tx] 63)).drew B p w.heap.size s (.slice A s.boxes.length c) vs vm ⟨2, bx, ud, fl, ds, tx⟩ := KA.later ⟨h.later hbA, hX, hbA.mono hB⟩ (bel_drew _)
  have e0 := hka.o.c0
  have x1 := (EB.cells hka.x).2.1
  have hfi := fun W (hW : KA w W B p w.heap.size s (.slice A s.boxes.length c) vs vm ⟨2, bx, ud, fl, ds, tx⟩) => find_calls s.boxes A c bx W (by have := hi.nb; omega) (hW.o.bx rfl)
  have Hka := Lib.hid hka
  have Hfi := Lib.hid hfi
  have Hi := Lib.hid hi
  have hnb := hi.nb
  have hns := hi.ns
  clear hfi hX hbA hka h hi
  go_enter Tryd.func37, Tryd.ntmps37
  go_wp2_with fail
  go_region_held3 (fun w' => w'.cell? ⟨p, 0, none⟩ = some (.slice A s.boxes.length c) ∧ w'.cell? ⟨w.heap.size, 1, none⟩ = some (.string bx) ∧ KA w w' B p w.heap.size s (.slice A s.boxes.length c) vs vm ⟨2, bx, ud, fl, ds, tx⟩) (first | exact hKK | exact ⟨e0, x1, Hka.out⟩)
    (first
      | (go_at_call 43; (with_reducible refine (keepA (w := w) (B := B) (p := p) (h := w.heap.size) (s := s) (vb := .slice A s.boxes.length c) (vs := vs) (vm := vm) (x := ⟨2, bx, ud, fl, ds, tx⟩) (b := .string bx) (j := 1) (Hfi.out _) ?_).mono ?_); (first | assumption | exact hS); rintro e w2 ⟨rfl, hKK⟩))
  obtain ⟨_, _, hK⟩ := hKK
  obtain ⟨x0, x1, x2, x3, x4, x5⟩ := EB.cells hK.x
  have e0 := hK.o.c0
  have HK := Lib.hid hK
  have hlt2 : w.heap.size < w2.heap.size := (Array.getElem?_eq_some_iff.1 hK.x).1
  have hpl := hK.o.lt
  have hpB := hK.o.pB
  clear Hka Hfi hK
  have hr : applyR s ⟨2, bx, ud, fl, ds, tx⟩ = addR s i fl tx := by rw [applyR_some s _ (by simp) (by simp) i b hf hb]; rfl
  have had := add_calls s i fl tx B p _ _ _ w2 HK.out.o hil Hi.out.z (fun b hb => (Hi.out.nm b hb).2.1) ht
  have Hr := Lib.hid hr
  have Had := Lib.hid had
  have Hb := Lib.hid hb
  have hi0 : ¬ (i : Int) < 0 := by omega
  clear hr had hb hf
  go_wp2_with fail
  refine Had.out.mono ?_
  rintro e w3 ⟨rfl, vb', vs', vm', hO3, hb3⟩
  have HO3 := Lib.hid hO3
  have Hb3 := Lib.hid (HK.out.bl.trans hb3)
  clear hO3 hb3 Had
  go_wp2_with fail
  go_ret
  exact ⟨by rw [Hr.out]; rfl, vb', vs', vm', by rw [Hr.out]; exact HO3.out, Hb3.out⟩
set_option maxRecDepth 100000 in
set_option maxHeartbeats 8000000 in
theorem apply_expunge (s : StS) (bx : ByteArray) (ud fl : Int) (ds tx : ByteArray) (B p : Nat) (vb vs : Value) (vm : List Value) (w : World) (h : OwnSt w B p s vb vs vm) (hi : InvS s) (i : Nat) (b : BoxS) (hf : findR s.boxes bx = i) (hb : s.boxes[i]? = some b) (hil : i < s.boxes.length) :
    Calls Tryd.prog 37 #[.pointer (some ⟨p, 0, none⟩), entVal ⟨4, bx, ud, fl, ds, tx⟩] w fun e w' => StepOk w B p (applyR s ⟨4, bx, ud, fl, ds, tx⟩) e w' := by
  unfold entVal
  simp only
  obtain ⟨A, c, rfl⟩ := own_sliceE h.rb
  have hbA : Below w.heap.size w (w.alloc (.cells #[.int .i64 4, .string bx, .int .i64 ud, .int .i64 fl, .string ds, .string tx] 63)) := (Below.refl _ w).alloc (Nat.le_refl _) _
  have hB : B ≤ w.heap.size := by have := h.pB; have := h.lt; omega
  have hX : EB (w.alloc (.cells #[.int .i64 4, .string bx, .int .i64 ud, .int .i64 fl, .string ds, .string tx] 63)) w.heap.size ⟨4, bx, ud, fl, ds, tx⟩ := World.alloc_heap_new w _
  have hka : KA w (w.alloc (.cells #[.int .i64 4, .string bx, .int .i64 ud, .int .i64 fl, .string ds, .string tx] 63)).drew B p w.heap.size s (.slice A s.boxes.length c) vs vm ⟨4, bx, ud, fl, ds, tx⟩ := KA.later ⟨h.later hbA, hX, hbA.mono hB⟩ (bel_drew _)
  have e0 := hka.o.c0
  have x1 := (EB.cells hka.x).2.1
  have hfi := fun W (hW : KA w W B p w.heap.size s (.slice A s.boxes.length c) vs vm ⟨4, bx, ud, fl, ds, tx⟩) => find_calls s.boxes A c bx W (by have := hi.nb; omega) (hW.o.bx rfl)
  have Hka := Lib.hid hka
  have Hfi := Lib.hid hfi
  have Hi := Lib.hid hi
  have hnb := hi.nb
  have hns := hi.ns
  clear hfi hX hbA hka h hi
  go_enter Tryd.func37, Tryd.ntmps37
  go_wp2_with fail
  go_region_held3 (fun w' => w'.cell? ⟨p, 0, none⟩ = some (.slice A s.boxes.length c) ∧ w'.cell? ⟨w.heap.size, 1, none⟩ = some (.string bx) ∧ KA w w' B p w.heap.size s (.slice A s.boxes.length c) vs vm ⟨4, bx, ud, fl, ds, tx⟩) (first | exact hKK | exact ⟨e0, x1, Hka.out⟩)
    (first
      | (go_at_call 43; (with_reducible refine (keepA (w := w) (B := B) (p := p) (h := w.heap.size) (s := s) (vb := .slice A s.boxes.length c) (vs := vs) (vm := vm) (x := ⟨4, bx, ud, fl, ds, tx⟩) (b := .string bx) (j := 1) (Hfi.out _) ?_).mono ?_); (first | assumption | exact hS); rintro e w2 ⟨rfl, hKK⟩))
  obtain ⟨_, _, hK⟩ := hKK
  obtain ⟨x0, x1, x2, x3, x4, x5⟩ := EB.cells hK.x
  have e0 := hK.o.c0
  have HK := Lib.hid hK
  have hlt2 : w.heap.size < w2.heap.size := (Array.getElem?_eq_some_iff.1 hK.x).1
  have hpl := hK.o.lt
  have hpB := hK.o.pB
  clear Hka Hfi hK
  have hr : applyR s ⟨4, bx, ud, fl, ds, tx⟩ = (0, { s with boxes := s.boxes.set i { b with mails := keepM b.mails } }) := by rw [applyR_some s _ (by simp) (by simp) i b hf hb]; rfl
  obtain ⟨Am, cm, hv⟩ := HK.out.o.vmAt i b hb
  obtain ⟨g, c', e, q0, q1, q2, qf⟩ := HK.out.o.boxAt i b _ hb hv
  obtain ⟨rfl, _, rfl⟩ := Value.slice.inj e
  rw [Nat.zero_add] at q0 q1 q2
  have hi0 : (0 : Int) ≤ (i : Int) := by omega
  have hin : (i : Int) < (s.boxes.length : Int) := by omega
  have hi1 : ¬ (i : Int) < 0 := by omega
  have hbi := Hi.out.nm b (List.mem_of_getElem? hb)
  have hrm := HK.out.o.rm i b _ hb hv
  have hdel := delFunc_calls b.mails (.slice Am b.mails.length cm) B w2.drew (by show B ≤ w2.heap.size; omega) hrm.drew (fun m hm => ⟨(hbi.2.2 m hm).1, (hbi.2.2 m hm).2.1⟩) (by omega)
  have hfin : ∀ (w3 : World) (v' : Value), w3.ownsRow B 85 3 v' (keepM b.mails).length (mailsCells (keepM b.mails)) → w2.drew.grownBy w3 (Value.ownBlock (.slice Am b.mails.length cm)) → v'.ownBlock = (Value.slice Am b.mails.length cm).ownBlock →
      (w3.cell? ⟨p, 0, none⟩ = some (.slice (some ⟨g, 0, none⟩) s.boxes.length c) ∧ w3.cell? ⟨g, i * 3 + 2, none⟩ = some (.slice Am b.mails.length cm) ∧ w3.frozen? ⟨g, i * 3 + 2, none⟩ = false) ∧ OwnSt (w3.setCell ⟨g, i * 3 + 2, none⟩ v') B p ⟨s.boxes.set i ⟨b.name, b.next, keepM b.mails⟩, s.spool⟩ (.slice (some ⟨g, 0, none⟩) s.boxes.length c) vs (vm.set i v') ∧ Below B w (w3.setCell ⟨g, i * 3 + 2, none⟩ v') := by
    intro w3 v' hrow hg hob
    have hg2 := grown_pre hg (bel_drew w2)
    have hbi2 : (blksOf p (.slice (some ⟨g, 0, none⟩) s.boxes.length c) vs vm)[i + 3]? = some (Value.slice Am b.mails.length cm).ownBlock := by simp [blksOf, hv]
    have hpk := HK.out.o.pkeep hg2 (i + 3) hbi2 (by omega)
    have hgb : (blksOf p (.slice (some ⟨g, 0, none⟩) s.boxes.length c) vs vm)[1]? = some (some g) := rfl
    have hgl := HK.out.o.blk 1 g hgb
    have hgv : some g ≠ (Value.slice Am b.mails.length cm).ownBlock := by
      rcases HK.out.o.ne hgb hbi2 (by omega) with h1 | h1
      · cases h1
      · exact h1
    refine ⟨⟨hpk.1, hg2.cell q2 hgv, (World.frozen?_of_block (hg2.block g hgl.2 hgv)).trans (qf _)⟩, HK.out.o.setMails i g c b _ v' (keepM b.mails) hb hv rfl hg2 hrow (.inl hob), ?_⟩
    have hbl : Below B w2 w3 := (Below.refl B w2).grown hg2 (by omega) (fun k e => (HK.out.o.blk (i + 3) k (by rw [hbi2, e])).1)
    exact (HK.out.bl.trans hbl).setCell (p := ⟨g, i * 3 + 2, none⟩) hgl.1 _
  have Hr := Lib.hid hr
  have Hdel := Lib.hid hdel
  have Hfin := Lib.hid hfin
  obtain ⟨nm, nx, ms⟩ := b
  simp only at *
  clear hr hdel hfin hb hv hbi hrm e
  go_wp2_with fail
  go_region_law (first
    | (go_simp; go_at_call 48; refine Hdel.out.mono ?_; rintro e w3 ⟨v', rfl, hrow3, hg3, hob⟩; obtain ⟨A3, c3, rfl⟩ := own_sliceE hrow3; have fin := Hfin.out w3 _ hrow3 hg3 hob; have k1 := fin.1.1; have k2 := fin.1.2.1; have k3 := fin.1.2.2; have Fin2 := Lib.hid fin.2; clear fin hrow3 hg3 hob)
    | fail)
  all_goals
    clear Hdel Hfin
    go_wp2
    go_ret
    exact ⟨by rw [Hr.out]; rfl, _, _, _, by rw [Hr.out]; exact Fin2.out.1, Fin2.out.2⟩
end Go.Proofs.YtpncahklapfoaaaDoor
namespace Go.Proofs.YtpncahklapfoaaaDoor
open Go.RowKit
attribute [local go_sem ↓] Go.wp_at_zero Go.wp_at_succ
set_option linter.unusedVariables false

theorem applyR_nomail (s : StS) (x : Ent) (h6 : x.kind ≠ 6) (h1 : x.kind ≠ 1) (h2 : x.kind ≠ 2) (h4 : x.kind ≠ 4) (i : Nat) (b : BoxS) (hf : findR s.boxes x.box = i) (hb : s.boxes[i]? = some b) (hk : idxR (uidB x.uid) b.mails < 0) : applyR s x = (7, s) := by
  rw [applyR_some s x h6 h1 i b hf hb, if_neg h2, if_neg h4]
  split
  · rfl
  · rw [if_pos hk]
theorem applyR_mail (s : StS) (x : Ent) (h6 : x.kind ≠ 6) (h1 : x.kind ≠ 1) (h2 : x.kind ≠ 2) (h4 : x.kind ≠ 4) (i : Nat) (b : BoxS) (hf : findR s.boxes x.box = i) (hb : s.boxes[i]? = some b) (k : Nat) (m : MailS) (hk : idxR (uidB x.uid) b.mails = k) (hm : b.mails[k]? = some m) : applyR s x =
    if x.kind = 3 then (0, { s with boxes := s.boxes.set i { b with mails := b.mails.set k { m with flags := x.flags } } })
          else if findR s.boxes x.dst < 0 then (7, s) else addR s (findR s.boxes x.dst).toNat m.flags m.text := by
  rw [applyR_some s x h6 h1 i b hf hb, if_neg h2, if_neg h4, hk]
  simp only [Int.toNat_natCast, hm]
  rw [if_neg (by omega)]
set_option maxRecDepth 100000 in
set_option maxHeartbeats 8000000 in
theorem apply_nomail (s : StS) (bx : ByteArray) (ud fl : Int) (ds tx : ByteArray) (B p : Nat) (vb vs : Value) (vm : List Value) (w : World) (h : OwnSt w B p s vb vs vm) (hi : InvS s) (kd : Int) (h6 : (kd == 6) = false) (h1 : (kd == 1) = false) (h2 : (kd == 2) = false) (h4 : (kd == 4) = false) (i : Nat) (b : BoxS) (hf : findR s.boxes bx = i) (hb : s.boxes[i]? = some b) (hil : i < s.boxes.length) (hk : idxR (uidB ud) b.mails < 0) :
    Calls Tryd.prog 37 #[.pointer (some ⟨p, 0, none⟩), entVal ⟨kd, bx, ud, fl, ds, tx⟩] w fun e w' => StepOk w B p (applyR s ⟨kd, bx, ud, fl, ds, tx⟩) e w' := by
  unfold entVal
  simp only
  obtain ⟨A, c, rfl⟩ := own_sliceE h.rb
  have hbA : Below w.heap.size w (w.alloc (.cells #[.int .i64 kd, .string bx, .int .i64 ud, .int .i64 fl, .string ds, .string tx] 63)) := (Below.refl _ w).alloc (Nat.le_refl _) _
  have hB : B ≤ w.heap.size := by have := h.pB; have := h.lt; omega
  have hX : EB (w.alloc (.cells #[.int .i64 kd, .string bx, .int .i64 ud, .int .i64 fl, .string ds, .string tx] 63)) w.heap.size ⟨kd, bx, ud, fl, ds, tx⟩ := World.alloc_heap_new w _
  have hka : KA w (w.alloc (.cells #[.int .i64 kd, .string bx, .int .i64 ud, .int .i64 fl, .string ds, .string tx] 63)).drew B p w.heap.size s (.slice A s.boxes.length c) vs vm ⟨kd, bx, ud, fl, ds, tx⟩ := KA.later ⟨h.later hbA, hX, hbA.mono hB⟩ (bel_drew _)
  have e0 := hka.o.c0
  have x1 := (EB.cells hka.x).2.1
  have hfi := fun W (hW : KA w W B p w.heap.size s (.slice A s.boxes.length c) vs vm ⟨kd, bx, ud, fl, ds, tx⟩) => find_calls s.boxes A c bx W (by have := hi.nb; omega) (hW.o.bx rfl)
  have Hka := Lib.hid hka
  have Hfi := Lib.hid hfi
  have Hi := Lib.hid hi
  have hnb := hi.nb
  have hns := hi.ns
  clear hfi hX hbA hka h hi
  go_enter Tryd.func37, Tryd.ntmps37
  go_wp2_with fail
  go_region_held3 (fun w' => w'.cell? ⟨p, 0, none⟩ = some (.slice A s.boxes.length c) ∧ w'.cell? ⟨w.heap.size, 1, none⟩ = some (.string bx) ∧ KA w w' B p w.heap.size s (.slice A s.boxes.length c) vs vm ⟨kd, bx, ud, fl, ds, tx⟩) (first | exact hKK | exact ⟨e0, x1, Hka.out⟩)
    (first
      | (go_at_call 43; (with_reducible refine (keepA (w := w) (B := B) (p := p) (h := w.heap.size) (s := s) (vb := .slice A s.boxes.length c) (vs := vs) (vm := vm) (x := ⟨kd, bx, ud, fl, ds, tx⟩) (b := .string bx) (j := 1) (Hfi.out _) ?_).mono ?_); (first | assumption | exact hS); rintro e w2 ⟨rfl, hKK⟩))
  obtain ⟨_, _, hK⟩ := hKK
  obtain ⟨x0, x1, x2, x3, x4, x5⟩ := EB.cells hK.x
  have e0 := hK.o.c0
  have HK := Lib.hid hK
  have hlt2 : w.heap.size < w2.heap.size := (Array.getElem?_eq_some_iff.1 hK.x).1
  have hpl := hK.o.lt
  have hpB := hK.o.pB
  clear Hka Hfi hK
  have hr : applyR s ⟨kd, bx, ud, fl, ds, tx⟩ = (7, s) := applyR_nomail s _ (by simpa using h6) (by simpa using h1) (by simpa using h2) (by simpa using h4) i b hf hb hk
  obtain ⟨Am, cm, hv⟩ := HK.out.o.vmAt i b hb
  obtain ⟨g, c', e, q0, q1, q2, qf⟩ := HK.out.o.boxAt i b _ hb hv
  obtain ⟨rfl, _, rfl⟩ := Value.slice.inj e
  rw [Nat.zero_add] at q0 q1 q2
  have hi0 : (0 : Int) ≤ (i : Int) := by omega
  have hin : (i : Int) < (s.boxes.length : Int) := by omega
  have hi1 : ¬ (i : Int) < 0 := by omega
  have hbi := Hi.out.nm b (List.mem_of_getElem? hb)
  have hrm := HK.out.o.rm i b _ hb hv
  have hix := idxM_calls 51 #[.pointer (some ⟨w.heap.size, 0, none⟩)] (uidB ud) ent_uid b.mails Am cm w2 (by omega) (ms_of_own hrm rfl) (uid_pred w2 b.mails w.heap.size ud x2)
  have Hr := Lib.hid hr
  have Hix := Lib.hid hix
  obtain ⟨nm, nx, ms⟩ := b
  simp only at *
  generalize idxR (uidB ud) ms = q at *
  clear hr hix hb hv hbi hrm e
  go_wp2_with fail
  refine Hix.out.mono ?_
  rintro e w3 ⟨rfl, hb3⟩
  have HK3 := Lib.hid (HK.out.later hb3)
  clear Hix hb3
  go_wp2_with fail
  go_ret
  exact ⟨by rw [Hr.out]; rfl, _, _, _, by rw [Hr.out]; exact HK3.out.o, HK3.out.bl⟩
set_option maxRecDepth 100000 in
set_option maxHeartbeats 8000000 in
theorem apply_flag (s : StS) (bx : ByteArray) (ud fl : Int) (ds tx : ByteArray) (B p : Nat) (vb vs : Value) (vm : List Value) (w : World) (h : OwnSt w B p s vb vs vm) (hi : InvS s) (i : Nat) (b : BoxS) (hf : findR s.boxes bx = i) (hb : s.boxes[i]? = some b) (hil : i < s.boxes.length) (k : Nat) (m : MailS) (hk : idxR (uidB ud) b.mails = k) (hm : b.mails[k]? = some m) (hkl : k < b.mails.length) :
    Calls Tryd.prog 37 #[.pointer (some ⟨p, 0, none⟩), entVal ⟨3, bx, ud, fl, ds, tx⟩] w fun e w' => StepOk w B p (applyR s ⟨3, bx, ud, fl, ds, tx⟩) e w' := by
  unfold entVal
  simp only
  obtain ⟨A, c, rfl⟩ := own_sliceE h.rb
  have hbA : Below w.heap.size w (w.alloc (.cells #[.int .i64 3, .string bx, .int .i64 ud, .int .i64 fl, .string ds, .string tx] 63)) := (Below.refl _ w).alloc (Nat.le_refl _) _
  have hB : B ≤ w.heap.size := by have := h.pB; have := h.lt; omega
  have hX : EB (w.alloc (.cells #[.int .i64 3, .string bx, .int .i64 ud, .int .i64 fl, .string ds, .string tx] 63)) w.heap.size ⟨3, bx, ud, fl, ds, tx⟩ := World.alloc_heap_new w _
  have hka : KA w (w.alloc (.cells #[.int .i64 3, .string bx, .int .i64 ud, .int .i64 fl, .string ds, .string tx] 63)).drew B p w.heap.size s (.slice A s.boxes.length c) vs vm ⟨3, bx, ud, fl, ds, tx⟩ := KA.later ⟨h.later hbA, hX, hbA.mono hB⟩ (bel_drew _)
  have e0 := hka.o.c0
  have x1 := (EB.cells hka.x).2.1
  have hfi := fun W (hW : KA w W B p w.heap.size s (.slice A s.boxes.length c) vs vm ⟨3, bx, ud, fl, ds, tx⟩) => find_calls s.boxes A c bx W (by have := hi.nb; omega) (hW.o.bx rfl)
  have Hka := Lib.hid hka
  have Hfi := Lib.hid hfi
  have Hi := Lib.hid hi
  have hnb := hi.nb
  have hns := hi.ns
  clear hfi hX hbA hka h hi
  go_enter Tryd.func37, Tryd.ntmps37
  go_wp2_with fail
  go_region_held3 (fun w' => w'.cell? ⟨p, 0, none⟩ = some (.slice A s.boxes.length c) ∧ w'.cell? ⟨w.heap.size, 1, none⟩ = some (.string bx) ∧ KA w w' B p w.heap.size s (.slice A s.boxes.length c) vs vm ⟨3, bx, ud, fl, ds, tx⟩) (first | exact hKK | exact ⟨e0, x1, Hka.out⟩)
    (first
      | (go_at_call 43; (with_reducible refine (keepA (w := w) (B := B) (p := p) (h := w.heap.size) (s := s) (vb := .slice A s.boxes.length c) (vs := vs) (vm := vm) (x := ⟨3, bx, ud, fl, ds, tx⟩) (b := .string bx) (j := 1) (Hfi.out _) ?_).mono ?_); (first | assumption | exact hS); rintro e w2 ⟨rfl, hKK⟩))
  obtain ⟨_, _, hK⟩ := hKK
  obtain ⟨x0, x1, x2, x3, x4, x5⟩ := EB.cells hK.x
  have e0 := hK.o.c0
  have HK := Lib.hid hK
  have hlt2 : w.heap.size < w2.heap.size := (Array.getElem?_eq_some_iff.1 hK.x).1
  have hpl := hK.o.lt
  have hpB := hK.o.pB
  clear Hka Hfi hK
  have hr : applyR s ⟨3, bx, ud, fl, ds, tx⟩ = (0, { s with boxes := s.boxes.set i { b with mails := b.mails.set k { m with flags := fl } } }) := by rw [applyR_mail s _ (by simp) (by simp) (by simp) (by simp) i b hf hb k m hk hm]; rfl
  obtain ⟨Am, cm, hv⟩ := HK.out.o.vmAt i b hb
  obtain ⟨g, c', e, q0, q1, q2, qf⟩ := HK.out.o.boxAt i b _ hb hv
  obtain ⟨rfl, _, rfl⟩ := Value.slice.inj e
  rw [Nat.zero_add] at q0 q1 q2
  have hi0 : (0 : Int) ≤ (i : Int) := by omega
  have hin : (i : Int) < (s.boxes.length : Int) := by omega
  have hi1 : ¬ (i : Int) < 0 := by omega
  have hbi := Hi.out.nm b (List.mem_of_getElem? hb)
  have hrm := HK.out.o.rm i b _ hb hv
  have hix := idxM_calls 51 #[.pointer (some ⟨w.heap.size, 0, none⟩)] (uidB ud) ent_uid b.mails Am cm w2 (by omega) (ms_of_own hrm rfl) (uid_pred w2 b.mails w.heap.size ud x2)
  rw [hk] at hix
  obtain ⟨gm, cm', em, _, _⟩ := hrm.form (by omega)
  obtain ⟨rfl, _, rfl⟩ := Value.slice.inj em
  have hk0 : (0 : Int) ≤ (k : Int) := by omega
  have hkn : (k : Int) < (b.mails.length : Int) := by omega
  have hk1 : ¬ (k : Int) < 0 := by omega
  have Hr := Lib.hid hr
  have Hix := Lib.hid hix
  have Hv := Lib.hid hv
  have Hb := Lib.hid hb
  have Hm := Lib.hid hm
  obtain ⟨nm, nx, ms⟩ := b
  simp only at *
  clear hr hix hb hv hbi hrm e em hk hm
  go_wp2_with fail
  refine Hix.out.mono ?_
  rintro e w3 ⟨rfl, hb3⟩
  have hK3 := HK.out.later hb3
  have hrm3 := hK3.o.rm i _ _ Hb.out Hv.out
  obtain ⟨g2, off, e2, a0, a1, a2⟩ := ms_of_own hrm3 rfl k m Hm.out
  obtain ⟨rfl, rfl⟩ : gm = g2 ∧ 0 = off := by injection e2 with e3; injection e3 with e4 e5; exact ⟨e4, e5⟩
  rw [Nat.zero_add] at a0 a1 a2
  have af := hrm3.frozenAt (k * 3 + 1)
  have p0 := hK3.o.c0
  obtain ⟨_, _, _, r3, _, _⟩ := EB.cells hK3.x
  have r0 := (EB.cells hK3.x).1
  have q2' := cell_later hb3 q2
  have HK3 := Lib.hid hK3
  clear Hix hb3 hrm3 hK3 e2 x0 x1 x2 x3 x4 x5 e0 q0 q1 q2 qf a0 a2 HK
  go_wp2_with fail
  go_region
  all_goals
    go_wp2
    go_ret
    exact ⟨by rw [Hr.out]; rfl, _, _, _, by rw [Hr.out]; exact (HK3.out.later (bel_drew _)).o.setFlag i k gm _ _ m fl Hb.out Hv.out Hm.out, (HK3.out.later (bel_drew _)).bl.setCell (p := ⟨gm, k * 3 + 1, none⟩) (by
      have hbi2 : (blksOf p (.slice (some ⟨g, 0, none⟩) s.boxes.length c) vs vm)[i + 3]? = some (some gm) := by simp [blksOf, Hv.out, Value.ownBlock]
      exact (HK3.out.o.blk (i + 3) gm hbi2).1) _⟩
set_option maxRecDepth 100000 in
set_option maxHeartbeats 8000000 in
theorem apply_copy_none (s : StS) (bx : ByteArray) (ud fl : Int) (ds tx : ByteArray) (B p : Nat) (vb vs : Value) (vm : List Value) (w : World) (h : OwnSt w B p s vb vs vm) (hi : InvS s) (i : Nat) (b : BoxS) (hf : findR s.boxes bx = i) (hb : s.boxes[i]? = some b) (hil : i < s.boxes.length) (k : Nat) (m : MailS) (hk : idxR (uidB ud) b.mails = k) (hm : b.mails[k]? = some m) (hkl : k < b.mails.length) (hd : findR s.boxes ds < 0) :
    Calls Tryd.prog 37 #[.pointer (some ⟨p, 0, none⟩), entVal ⟨5, bx, ud, fl, ds, tx⟩] w fun e w' => StepOk w B p (applyR s ⟨5, bx, ud, fl, ds, tx⟩) e w' := by
  unfold entVal
  simp only
  obtain ⟨A, c, rfl⟩ := own_sliceE h.rb
  have hbA : Below w.heap.size w (w.alloc (.cells #[.int .i64 5, .string bx, .int .i64 ud, .int .i64 fl, .string ds, .string tx] 63)) := (Below.refl _ w).alloc (Nat.le_refl _) _
  have hB : B ≤ w.heap.size := by have := h.pB; have := h.lt; omega
  have hX : EB (w.alloc (.cells #[.int .i64 5, .string bx, .int .i64 ud, .int .i64 fl, .string ds, .string tx] 63)) w.heap.size ⟨5, bx, ud, fl, ds, tx⟩ := World.alloc_heap_new w _
  have hka : KA w (w.alloc (.cells #[.int .i64 5, .string bx, .int .i64 ud, .int .i64 fl, .string ds, .string tx] 63)).drew B p w.heap.size s (.slice A s.boxes.length c) vs vm ⟨5, bx, ud, fl, ds, tx⟩ := KA.later ⟨h.later hbA, hX, hbA.mono hB⟩ (bel_drew _)
  have e0 := hka.o.c0
  have x1 := (EB.cells hka.x).2.1
  have hfi := fun W (hW : KA w W B p w.heap.size s (.slice A s.boxes.length c) vs vm ⟨5, bx, ud, fl, ds, tx⟩) => find_calls s.boxes A c bx W (by have := hi.nb; omega) (hW.o.bx rfl)
  have Hka := Lib.hid hka
  have Hfi := Lib.hid hfi
  have Hi := Lib.hid hi
  have hnb := hi.nb
  have hns := hi.ns
  clear hfi hX hbA hka h hi
  go_enter Tryd.func37, Tryd.ntmps37
  go_wp2_with fail
  go_region_held3 (fun w' => w'.cell? ⟨p, 0, none⟩ = some (.slice A s.boxes.length c) ∧ w'.cell? ⟨w.heap.size, 1, none⟩ = some (.string bx) ∧ KA w w' B p w.heap.size s (.slice A s.boxes.length c) vs vm ⟨5, bx, ud, fl, ds, tx⟩) (first | exact hKK | exact ⟨e0, x1, Hka.out⟩)
    (first
      | (go_at_call 43; (with_reducible refine (keepA (w := w) (B := B) (p := p) (h := w.heap.size) (s := s) (vb := .slice A s.boxes.length c) (vs := vs) (vm := vm) (x := ⟨5, bx, ud, fl, ds, tx⟩) (b := .string bx) (j := 1) (Hfi.out _) ?_).mono ?_); (first | assumption | exact hS); rintro e w2 ⟨rfl, hKK⟩))
  obtain ⟨_, _, hK⟩ := hKK
  obtain ⟨x0, x1, x2, x3, x4, x5⟩ := EB.cells hK.x
  have e0 := hK.o.c0
  have HK := Lib.hid hK
  have hlt2 : w.heap.size < w2.heap.size := (Array.getElem?_eq_some_iff.1 hK.x).1
  have hpl := hK.o.lt
  have hpB := hK.o.pB
  clear Hka Hfi hK
  have hr : applyR s ⟨5, bx, ud, fl, ds, tx⟩ = (7, s) := by rw [applyR_mail s _ (by simp) (by simp) (by simp) (by simp) i b hf hb k m hk hm, if_neg (by simp), if_pos hd]
  obtain ⟨Am, cm, hv⟩ := HK.out.o.vmAt i b hb
  obtain ⟨g, c', e, q0, q1, q2, qf⟩ := HK.out.o.boxAt i b _ hb hv
  obtain ⟨rfl, _, rfl⟩ := Value.slice.inj e
  rw [Nat.zero_add] at q0 q1 q2
  have hi0 : (0 : Int) ≤ (i : Int) := by omega
  have hin : (i : Int) < (s.boxes.length : Int) := by omega
  have hi1 : ¬ (i : Int) < 0 := by omega
  have hbi := Hi.out.nm b (List.mem_of_getElem? hb)
  have hrm := HK.out.o.rm i b _ hb hv
  have hix := idxM_calls 51 #[.pointer (some ⟨w.heap.size, 0, none⟩)] (uidB ud) ent_uid b.mails Am cm w2 (by omega) (ms_of_own hrm rfl) (uid_pred w2 b.mails w.heap.size ud x2)
  rw [hk] at hix
  obtain ⟨gm, cm', em, _, _⟩ := hrm.form (by omega)
  obtain ⟨rfl, _, rfl⟩ := Value.slice.inj em
  have hk0 : (0 : Int) ≤ (k : Int) := by omega
  have hkn : (k : Int) < (b.mails.length : Int) := by omega
  have hk1 : ¬ (k : Int) < 0 := by omega
  have hmb := hbi.2.2 m (List.mem_of_getElem? hm)
  have Hr := Lib.hid hr
  have Hix := Lib.hid hix
  have Hv := Lib.hid hv
  have Hb := Lib.hid hb
  have Hm := Lib.hid hm
  have hfd := fun W (hW : KA w W B p w.heap.size s (.slice (some ⟨g, 0, none⟩) s.boxes.length c) vs vm ⟨5, bx, ud, fl, ds, tx⟩) => find_calls s.boxes (some ⟨g, 0, none⟩) c ds W (by omega) (hW.o.bx rfl)
  have Hfd := Lib.hid hfd
  obtain ⟨nm, nx, ms⟩ := b
  simp only at *
  clear hr hix hb hv hbi hrm e em hk hm hfd
  go_wp2_with fail
  refine Hix.out.mono ?_
  rintro e w3 ⟨rfl, hb3⟩
  have hK3 := HK.out.later hb3
  have hK3d := hK3.later (bel_drew _)
  have e0' := hK3d.o.c0
  have r0 := (EB.cells hK3.x).1
  have y4 := (EB.cells hK3d.x).2.2.2.2.1
  have HK3d := Lib.hid hK3d
  clear Hix hb3 hK3 hK3d x0 x1 x2 x3 x4 x5 e0 q0 q1 q2 qf HK
  go_wp2_with fail
  go_region_held3 (fun w' => w'.cell? ⟨p, 0, none⟩ = some (.slice (some ⟨g, 0, none⟩) s.boxes.length c) ∧ w'.cell? ⟨w.heap.size, 4, none⟩ = some (.string ds) ∧ KA w w' B p w.heap.size s (.slice (some ⟨g, 0, none⟩) s.boxes.length c) vs vm ⟨5, bx, ud, fl, ds, tx⟩) (first | exact hKK | exact ⟨e0', y4, HK3d.out⟩)
    (first
      | (go_at_call 43; (with_reducible refine (keepA (w := w) (B := B) (p := p) (h := w.heap.size) (s := s) (vb := .slice (some ⟨g, 0, none⟩) s.boxes.length c) (vs := vs) (vm := vm) (x := ⟨5, bx, ud, fl, ds, tx⟩) (b := .string ds) (j := 4) (Hfd.out _) ?_).mono ?_); (first | assumption | exact hS); rintro e w4 ⟨rfl, hKK⟩))
  obtain ⟨_, _, hK4⟩ := hKK
  have HK4 := Lib.hid hK4
  generalize findR s.boxes ds = q at *
  clear hK4 Hfd e0' r0 y4
  go_wp2_with fail
  go_ret
  exact ⟨by rw [Hr.out]; rfl, _, _, _, by rw [Hr.out]; exact HK4.out.o, HK4.out.bl⟩
set_option maxRecDepth 100000 in
set_option maxHeartbeats 8000000 in
theorem apply_copy (s : StS) (bx : ByteArray) (ud fl : Int) (ds tx : ByteArray) (B p : Nat) (vb vs : Value) (vm : List Value) (w : World) (h : OwnSt w B p s vb vs vm) (hi : InvS s) (i : Nat) (b : BoxS) (hf : findR s.boxes bx = i) (hb : s.boxes[i]? = some b) (hil : i < s.boxes.length) (k : Nat) (m : MailS) (hk : idxR (uidB ud) b.mails = k) (hm : b.mails[k]? = some m) (hkl : k < b.mails.length) (q : Nat) (hd : findR s.boxes ds = q) (htl : q < s.boxes.length) :
    Calls Tryd.prog 37 #[.pointer (some ⟨p, 0, none⟩), entVal ⟨5, bx, ud, fl, ds, tx⟩] w fun e w' => StepOk w B p (applyR s ⟨5, bx, ud, fl, ds, tx⟩) e w' := by
  unfold entVal
  simp only
  obtain ⟨A, c, rfl⟩ := own_sliceE h.rb
  have hbA : Below w.heap.size w (w.alloc (.cells #[.int .i64 5, .string bx, .int .i64 ud, .int .i64 fl, .string ds, .string tx] 63)) := (Below.refl _ w).alloc (Nat.le_refl _) _
  have hB : B ≤ w.heap.size := by have := h.pB; have := h.lt; omega
  have hX : EB (w.alloc (.cells #[.int .i64 5, .string bx, .int .i64 ud, .int .i64 fl, .string ds, .string tx] 63)) w.heap.size ⟨5, bx, ud, fl, ds, tx⟩ := World.alloc_heap_new w _
  have hka : KA w (w.alloc (.cells #[.int .i64 5, .string bx, .int .i64 ud, .int .i64 fl, .string ds, .string tx] 63)).drew B p w.heap.size s (.slice A s.boxes.length c) vs vm ⟨5, bx, ud, fl, ds, tx⟩ := KA.later ⟨h.later hbA, hX, hbA.mono hB⟩ (bel_drew _)
  have e0 := hka.o.c0
  have x1 := (EB.cells hka.x).2.1
  have hfi := fun W (hW : KA w W B p w.heap.size s (.slice A s.boxes.length c) vs vm ⟨5, bx, ud, fl, ds, tx⟩) => find_calls s.boxes A c bx W (by have := hi.nb; omega) (hW.o.bx rfl)
  have Hka := Lib.hid hka
  have Hfi := Lib.hid hfi
  have Hi := Lib.hid hi
  have hnb := hi.nb
  have hns := hi.ns
  clear hfi hX hbA hka h hi
  go_enter Tryd.func37, Tryd.ntmps37
  go_wp2_with fail
  go_region_held3 (fun w' => w'.cell? ⟨p, 0, none⟩ = some (.slice A s.boxes.length c) ∧ w'.cell? ⟨w.heap.size, 1, none⟩ = some (.string bx) ∧ KA w w' B p w.heap.size s (.slice A s.boxes.length c) vs vm ⟨5, bx, ud, fl, ds, tx⟩) (first | exact hKK | exact ⟨e0, x1, Hka.out⟩)
    (first
      | (go_at_call 43; (with_reducible refine (keepA (w := w) (B := B) (p := p) (h := w.heap.size) (s := s) (vb := .slice A s.boxes.length c) (vs := vs) (vm := vm) (x := ⟨5, bx, ud, fl, ds, tx⟩) (b := .string bx) (j := 1) (Hfi.out _) ?_).mono ?_); (first | assumption | exact hS); rintro e w2 ⟨rfl, hKK⟩))
  obtain ⟨_, _, hK⟩ := hKK
  obtain ⟨x0, x1, x2, x3, x4, x5⟩ := EB.cells hK.x
  have e0 := hK.o.c0
  have HK := Lib.hid hK
  have hlt2 : w.heap.size < w2.heap.size := (Array.getElem?_eq_some_iff.1 hK.x).1
  have hpl := hK.o.lt
  have hpB := hK.o.pB
  clear Hka Hfi hK
  have hr : applyR s ⟨5, bx, ud, fl, ds, tx⟩ = addR s q m.flags m.text := by rw [applyR_mail s _ (by simp) (by simp) (by simp) (by simp) i b hf hb k m hk hm, if_neg (by simp), if_neg (by show ¬ findR s.boxes ds < 0; omega)]; show addR s (findR s.boxes ds).toNat _ _ = _; rw [hd]; rfl
  obtain ⟨Am, cm, hv⟩ := HK.out.o.vmAt i b hb
  obtain ⟨g, c', e, q0, q1, q2, qf⟩ := HK.out.o.boxAt i b _ hb hv
  obtain ⟨rfl, _, rfl⟩ := Value.slice.inj e
  rw [Nat.zero_add] at q0 q1 q2
  have hi0 : (0 : Int) ≤ (i : Int) := by omega
  have hin : (i : Int) < (s.boxes.length : Int) := by omega
  have hi1 : ¬ (i : Int) < 0 := by omega
  have hbi := Hi.out.nm b (List.mem_of_getElem? hb)
  have hrm := HK.out.o.rm i b _ hb hv
  have hix := idxM_calls 51 #[.pointer (some ⟨w.heap.size, 0, none⟩)] (uidB ud) ent_uid b.mails Am cm w2 (by omega) (ms_of_own hrm rfl) (uid_pred w2 b.mails w.heap.size ud x2)
  rw [hk] at hix
  obtain ⟨gm, cm', em, _, _⟩ := hrm.form (by omega)
  obtain ⟨rfl, _, rfl⟩ := Value.slice.inj em
  have hk0 : (0 : Int) ≤ (k : Int) := by omega
  have hkn : (k : Int) < (b.mails.length : Int) := by omega
  have hk1 : ¬ (k : Int) < 0 := by omega
  have hmb := hbi.2.2 m (List.mem_of_getElem? hm)
  have Hr := Lib.hid hr
  have Hix := Lib.hid hix
  have Hv := Lib.hid hv
  have Hb := Lib.hid hb
  have Hm := Lib.hid hm
  have hfd := fun W (hW : KA w W B p w.heap.size s (.slice (some ⟨g, 0, none⟩) s.boxes.length c) vs vm ⟨5, bx, ud, fl, ds, tx⟩) => find_calls s.boxes (some ⟨g, 0, none⟩) c ds W (by omega) (hW.o.bx rfl)
  have Hfd := Lib.hid hfd
  obtain ⟨nm, nx, ms⟩ := b
  simp only at *
  clear hr hix hb hv hbi hrm e em hk hm hfd
  go_wp2_with fail
  refine Hix.out.mono ?_
  rintro e w3 ⟨rfl, hb3⟩
  have hK3 := HK.out.later hb3
  have hK3d := hK3.later (bel_drew _)
  have e0' := hK3d.o.c0
  have r0 := (EB.cells hK3.x).1
  have y4 := (EB.cells hK3d.x).2.2.2.2.1
  have HK3d := Lib.hid hK3d
  clear Hix hb3 hK3 hK3d x0 x1 x2 x3 x4 x5 e0 q0 q1 q2 qf HK
  go_wp2_with fail
  go_region_held3 (fun w' => w'.cell? ⟨p, 0, none⟩ = some (.slice (some ⟨g, 0, none⟩) s.boxes.length c) ∧ w'.cell? ⟨w.heap.size, 4, none⟩ = some (.string ds) ∧ KA w w' B p w.heap.size s (.slice (some ⟨g, 0, none⟩) s.boxes.length c) vs vm ⟨5, bx, ud, fl, ds, tx⟩) (first | exact hKK | exact ⟨e0', y4, HK3d.out⟩)
    (first
      | (go_at_call 43; (with_reducible refine (keepA (w := w) (B := B) (p := p) (h := w.heap.size) (s := s) (vb := .slice (some ⟨g, 0, none⟩) s.boxes.length c) (vs := vs) (vm := vm) (x := ⟨5, bx, ud, fl, ds, tx⟩) (b := .string ds) (j := 4) (Hfd.out _) ?_).mono ?_); (first | assumption | exact hS); rintro e w4 ⟨rfl, hKK⟩))
  obtain ⟨_, _, hK4⟩ := hKK
  have HK4 := Lib.hid hK4
  have hto : ¬ (q : Int) < 0 := by omega
  have hrm4 := hK4.o.rm i _ _ Hb.out Hv.out
  obtain ⟨g3, c3, e3, z0, z1, z2, zf⟩ := hK4.o.boxAt i _ _ Hb.out Hv.out
  obtain ⟨e5, _, _⟩ := Value.slice.inj e3
  obtain rfl : g = g3 := by injection e5 with e6; injection e6
  rw [Nat.zero_add] at z0 z1 z2
  obtain ⟨g2, off, e2, a0, a1, a2⟩ := ms_of_own hrm4 rfl k m Hm.out
  obtain ⟨rfl, rfl⟩ : gm = g2 ∧ 0 = off := by injection e2 with e3; injection e3 with e4 e5; exact ⟨e4, e5⟩
  rw [Nat.zero_add] at a0 a1 a2
  have p0 := hK4.o.c0
  obtain ⟨um, fm, tm⟩ := m
  simp only at a0 a1 a2 Hr Hm hmb
  have hbB : Below w4.heap.size w4 (w4.alloc (.cells #[.int .i64 um, .int .i64 fm, .string tm] 85)) := (Below.refl _ w4).alloc (Nat.le_refl _) _
  have hX := Bk.new w4 [.int .i64 um, .int .i64 fm, .string tm] 85
  have m1 := hX.cell 1 _ rfl
  have m2 := hX.cell 2 _ rfl
  have hK5 := hK4.later hbB
  have had := add_calls s q fm tm B p _ _ _ _ hK5.o htl Hi.out.z (fun b hb => (Hi.out.nm b hb).2.1) (by omega)
  have Had := Lib.hid had
  have HK5 := Lib.hid hK5
  clear hK4 Hfd e0' r0 y4 hrm4 e3 e5 zf hbB hX hK5 had e2 HK4
  go_wp2_with fail
  refine Had.out.mono ?_
  rintro e w6 ⟨rfl, vb', vs', vm', hO3, hb3⟩
  have HO3 := Lib.hid hO3
  have Hb3 := Lib.hid (HK5.out.bl.trans hb3)
  clear hO3 hb3 Had
  go_wp2_with fail
  go_ret
  exact ⟨by rw [Hr.out]; rfl, vb', vs', vm', by rw [Hr.out]; exact HO3.out, Hb3.out⟩
theorem apply_calls (s : StS) (x : Ent) (B p : Nat) (vb vs : Value) (vm : List Value) (w : World) (h : OwnSt w B p s vb vs vm) (hi : InvS s) (hf : formR x = 0) :
    Calls Tryd.prog 37 #[.pointer (some ⟨p, 0, none⟩), entVal x] w fun e w' => StepOk w B p (applyR s x) e w' := by
  have ho := form_ok x hf
  obtain ⟨kd, bx, ud, fl, ds, tx⟩ := x
  obtain ⟨k1, k2, f1, f2, u1, u2, ht, hb, hd⟩ := ho
  simp only at k1 k2 ht
  have hk : kd = 6 ∨ kd = 1 ∨ kd = 2 ∨ kd = 3 ∨ kd = 4 ∨ kd = 5 := by omega
  rcases hk with rfl | rfl | hk
  · exact apply_spool s bx ud fl ds tx B p vb vs vm w h hi
  · exact apply_create s bx ud fl ds tx B p vb vs vm w h hi
  · by_cases hq : findR s.boxes bx < 0
    · exact apply_none s bx ud fl ds tx B p vb vs vm w h hi kd (by simp; omega) (by simp; omega) hq
    · obtain ⟨i, b, h1, h2, h3⟩ := pick_box s bx hq
      rcases hk with rfl | hk | rfl | hk
      · exact apply_append s bx ud fl ds tx B p vb vs vm w h hi i b h1 h2 h3 (by omega)
      · by_cases hm : idxR (uidB ud) b.mails < 0
        · exact apply_nomail s bx ud fl ds tx B p vb vs vm w h hi kd (by simp; omega) (by simp; omega) (by simp; omega) (by simp; omega) i b h1 h2 h3 hm
        · obtain ⟨k, m, m1, m2, m3⟩ := pick_mail b.mails ud hm
          subst hk
          exact apply_flag s bx ud fl ds tx B p vb vs vm w h hi i b h1 h2 h3 k m m1 m2 m3
      · exact apply_expunge s bx ud fl ds tx B p vb vs vm w h hi i b h1 h2 h3
      · by_cases hm : idxR (uidB ud) b.mails < 0
        · exact apply_nomail s bx ud fl ds tx B p vb vs vm w h hi kd (by simp; omega) (by simp; omega) (by simp; omega) (by simp; omega) i b h1 h2 h3 hm
        · obtain ⟨k, m, m1, m2, m3⟩ := pick_mail b.mails ud hm
          subst hk
          by_cases hd2 : findR s.boxes ds < 0
          · exact apply_copy_none s bx ud fl ds tx B p vb vs vm w h hi i b h1 h2 h3 k m m1 m2 m3 hd2
          · obtain ⟨q, b2, d1, d2, d3⟩ := pick_box s ds hd2
            exact apply_copy s bx ud fl ds tx B p vb vs vm w h hi i b h1 h2 h3 k m m1 m2 m3 q d1 d3
theorem inv_set {s : StS} (h : InvS s) (i : Nat) (b' : BoxS) (hb : b'.mails.length ≤ 30 ∧ 0 ≤ b'.next ∧ ∀ m ∈ b'.mails, 0 ≤ m.flags ∧ m.flags ≤ 31 ∧ m.text.size ≤ 2000) : InvS { s with boxes := s.boxes.set i b' } := by
  refine ⟨by show (s.boxes.set i b').length ≤ 5; rw [List.length_set]; exact h.nb, h.ns, fun b hbm => ?_⟩
  rcases List.mem_or_eq_of_mem_set hbm with h1 | rfl
  · exact h.nm b h1
  · exact hb
theorem inv_add {s : StS} (h : InvS s) (i : Nat) (fl : Int) (t : ByteArray) (hf : 0 ≤ fl ∧ fl ≤ 31) (ht : t.size ≤ 2000) : InvS (addR s i fl t).2 := by
  unfold addR
  split
  · exact h
  · next b hb =>
    split
    · exact h
    · next hc =>
      have hbm := h.nm b (List.mem_of_getElem? hb)
      refine inv_set h i _ ⟨by simp; omega, by show 0 ≤ b.next + 1; omega, fun m hm => ?_⟩
      rcases List.mem_append.1 hm with hm | hm
      · exact hbm.2.2 m hm
      · simp at hm
        subst hm
        exact ⟨hf.1, hf.2, ht⟩
theorem inv_apply {s : StS} (h : InvS s) (x : Ent) (hf : formR x = 0) : InvS (applyR s x).2 := by
  have ho := form_ok x hf
  unfold applyR
  split
  · split
    · exact h
    · exact ⟨h.nb, by show (s.spool ++ [x]).length ≤ 20; rw [List.length_append, List.length_cons, List.length_nil]; have := h.ns; omega, h.nm⟩
  · split
    · split
      · exact h
      · split
        · exact h
        · refine ⟨by show (s.boxes ++ [_]).length ≤ 5; rw [List.length_append, List.length_cons, List.length_nil]; have := h.nb; omega, h.ns, fun b hb => ?_⟩
          rcases List.mem_append.1 hb with hb | hb
          · exact h.nm b hb
          · simp at hb
            subst hb
            simp
    · split
      · exact h
      · next b hb =>
        have hbm := h.nm b (List.mem_of_getElem? hb)
        split
        · exact h
        · split
          · exact inv_add h _ _ _ ⟨ho.f1, ho.f2⟩ ho.tx
          · split
            · refine inv_set h _ _ ⟨Nat.le_trans (List.length_filter_le _ _) hbm.1, hbm.2.1, fun m hm => hbm.2.2 m (List.mem_filter.1 hm).1⟩
            · split
              · exact h
              · next m hm =>
                have hmm := hbm.2.2 m (List.mem_of_getElem? hm)
                split
                · exact h
                · split
                  · refine inv_set h _ _ ⟨by simpa using hbm.1, hbm.2.1, fun m' hm' => ?_⟩
                    rcases List.mem_or_eq_of_mem_set hm' with h1 | rfl
                    · exact hbm.2.2 m' h1
                    · exact ⟨ho.f1, ho.f2, hmm.2.2⟩
                  · split
                    · exact h
                    · exact inv_add h _ _ _ ⟨hmm.1, hmm.2.1⟩ hmm.2.2
end Go.Proofs.YtpncahklapfoaaaDoor
namespace Go.Proofs.YtpncahklapfoaaaDoor
open Go.RowKit
set_option linter.unusedVariables false

/-- What All ends in: the error, and a state in memory that the call made. -/
def AllOk (w : World) (r : Int × StS) (e : Ending) (w' : World) : Prop :=
  ∃ v, e = .returned (.tuple #[v, .int .i64 r.1]) ∧ Below w.heap.size w w' ∧ if r.1 = 0 then ∃ vb vs vm p, v = .agg #[vb, vs] ∧ OwnSt w' w.heap.size p r.2 vb vs vm else v = .agg #[.slice none 0 0, .slice none 0 0]
theorem allR_eq (s : StS) (l : List Ent) (h : checkR s = 0) (hl : ¬ 10 < l.length) : (allR s l).1 = (goR s l).1 ∧ ((goR s l).1 = 0 → allR s l = goR s l) := by
  unfold allR
  rw [if_neg (by rw [h]; simp), if_neg hl]
  by_cases hz : (goR s l).1 ≠ 0
  · rw [if_pos hz]; exact ⟨rfl, fun h => absurd h hz⟩
  · rw [if_neg hz]; exact ⟨rfl, fun _ => rfl⟩
theorem goR_cons (s : StS) (x : Ent) (r : List Ent) : goR s (x :: r) = if formR x ≠ 0 then (formR x, s) else if (applyR s x).1 ≠ 0 then applyR s x else goR (applyR s x).2 r := rfl
set_option maxRecDepth 100000 in
set_option maxHeartbeats 4000000 in
theorem all_calls (s : StS) (l : List Ent) (A A2 A3 : Option Addr) (c c2 c3 : Nat) (m : Int) (w : World) (hA : StAt w A c A2 c2 s) (hok : OkC s) (hl : EsAt w A3 l) (hsm : ∀ e ∈ l, SmE e) (hll : l.length ≤ 1000000) (hm : w.cell? ⟨0, 0, none⟩ = some (.int .i64 m)) :
    Calls Tryd.prog 25 #[.agg #[.slice A s.boxes.length c, .slice A2 s.spool.length c2], .slice A3 l.length c3] w fun e w' => AllOk w (allR s l) e w' := by
  have hb1 : Below w.heap.size w ((w.alloc (.cells #[.slice A s.boxes.length c, .slice A2 s.spool.length c2] 56)).alloc (.cells #[.slice none 0 0, .slice none 0 0] 56)) := ((Below.refl _ w).alloc (Nat.le_refl _) _).alloc (by simp) _
  have hX := (Bk.new w [.slice A s.boxes.length c, .slice A2 s.spool.length c2] 56).alloc (.cells #[.slice none 0 0, .slice none 0 0] 56)
  have hR := Bk.new (w.alloc (.cells #[.slice A s.boxes.length c, .slice A2 s.spool.length c2] 56)) [.slice none 0 0, .slice none 0 0] 56
  rw [show (w.alloc (.cells #[.slice A s.boxes.length c, .slice A2 s.spool.length c2] 56)).heap.size = w.heap.size + 1 by simp] at hR
  have hs1 : w.heap.size + 2 ≤ ((w.alloc (.cells #[.slice A s.boxes.length c, .slice A2 s.spool.length c2] 56)).alloc (.cells #[.slice none 0 0, .slice none 0 0] 56)).heap.size := by simp
  have hck := checkS_calls s A A2 c c2 m _ (hA.later hb1) hok (cell_later hb1 hm)
  have x0 := hX.cell 0 _ rfl
  have x1 := hX.cell 1 _ rfl
  have Hck := Lib.hid hck
  have HA := Lib.hid hA
  have Hl := Lib.hid hl
  have Hm := Lib.hid hm
  have Hsm := Lib.hid hsm
  have hown := fun W (hW : StAt W A c A2 c2 s) (ho : OkS s) => own_calls s A A2 c c2 W hW (by have := ho.nb; omega) (by have := ho.ns; omega) (fun b hb => by have := (ho.nm b hb).1; omega)
  have Hown := Lib.hid hown
  have Hall := Lib.hid (allR_eq s l)
  have hr0 : checkR s ≠ 0 → allR s l = (checkR s, noneS) := fun h => by unfold allR; rw [if_pos h]
  have hr1 : checkR s = 0 → 10 < l.length → allR s l = (1, noneS) := fun h h2 => by unfold allR; rw [if_neg (by rw [h]; simp), if_pos h2]
  have hcs := check_ok s
  have Hcs := Lib.hid hcs
  have Hr0 := Lib.hid hr0
  have Hr1 := Lib.hid hr1
  clear hck hA hl hm hsm hown hr0 hr1 hcs
  go_enter Tryd.func25, Tryd.ntmps25
  go_wp2_with fail
  generalize (w.alloc (.cells #[.slice A s.boxes.length c, .slice A2 s.spool.length c2] 56)).alloc (.cells #[.slice none 0 0, .slice none 0 0] 56) = w1 at *
  refine Hck.out.mono ?_
  rintro e w2 ⟨rfl, hb2⟩
  have hX2 := hX.later hb2
  have hR2 := hR.later hb2
  have hb3 := hb1.trans (hb2.mono hb1.size)
  have hs2 : w.heap.size + 2 ≤ w2.heap.size := Nat.le_trans hs1 hb2.size
  clear Hck hX hR hb1 hb2 x0 x1 hs1
  have r0 := hR2.cell 0 _ rfl
  have r1 := hR2.cell 1 _ rfl
  have g0 := hR2.frozen 0
  have g1 := hR2.frozen 1
  have hZ := (hR2.set 0 (.slice none 0 0)).set 1 (.slice none 0 0)
  have z0 := hZ.cell 0 _ rfl
  have z1 := hZ.cell 1 _ rfl
  have hbz := (hb3.setCell (p := ⟨w.heap.size + 1, 0, none⟩) (by show w.heap.size ≤ w.heap.size + 1; omega) (.slice none 0 0)).setCell (p := ⟨w.heap.size + 1, 1, none⟩) (by show w.heap.size ≤ w.heap.size + 1; omega) (.slice none 0 0)
  have Hbz := Lib.hid hbz
  clear hZ hbz
  by_cases hz : checkR s = 0
  · by_cases h10 : 10 < l.length
    · have hr := Hr1.out hz h10
      have d10 : (10 : Int) < (l.length : Int) := by omega
      have Hr := Lib.hid hr
      rw [hz]
      clear hr Hr0 Hr1 hz
      go_wp2_with fail
      exact bodyPost_ret (v := .tuple #[.agg #[.slice none 0 0, .slice none 0 0], .int .i64 1]) (by simp [results, Tryd.results25, go_sem, z0, z1]) rfl ⟨_, by rw [Hr.out], Hbz.out, by rw [Hr.out, if_neg (by decide)]⟩
    · have d10 : ¬ (10 : Int) < (l.length : Int) := by omega
      have ho := Hcs.out hz
      have hall := Hall.out hz h10
      have how := Hown.out w2 (HA.out.later hb3) ho
      have How := Lib.hid how
      have Hallr := Lib.hid hall
      have Hinv := Lib.hid ho.inv
      have x0 := hX2.cell 0 _ rfl
      have x1 := hX2.cell 1 _ rfl
      rw [hz]
      clear hz ho hall how Hr0 Hr1 Hcs Hown Hall z0 z1 Hbz
      go_wp2_with fail
      refine How.out.mono ?_
      rintro e w3 ⟨vb, vs, vm, p0, rfl, hO, hb4⟩
      have hR3 := hR2.later hb4
      have hb5 := hb3.trans (hb4.mono hb3.size)
      have hs3 := hb4.size
      clear How hX2 hR2 hb4 x0 x1 r0 r1 g0 g1 hb3
      -- the state is boxed
      obtain ⟨Ab, cb, As, cs, rfl, rfl⟩ := hO.slices
      have hbA : Below w3.heap.size w3 (w3.alloc (.cells #[.slice Ab s.boxes.length cb, .slice As s.spool.length cs] 56)) := (Below.refl _ w3).alloc (Nat.le_refl _) _
      have hO2 := hO.rebox hbA (Bk.new w3 [.slice Ab s.boxes.length cb, .slice As s.spool.length cs] 56) (by omega)
      have hR4 := hR3.later hbA
      have hb6 := hb5.trans (hbA.mono hb5.size)
      have hpl : w2.heap.size ≤ w3.heap.size := hs3
      clear hO hR3 hb5
      go_wp2_with fail
      generalize w3.alloc (.cells #[.slice Ab s.boxes.length cb, .slice As s.spool.length cs] 56) = w4 at *
      generalize w3.heap.size = p at *
      clear hbA hs3
      have Hb6 := Lib.hid hb6
      have hB2 : w.heap.size + 1 < w2.heap.size := by omega
      generalize w2.heap.size = B2 at *
      clear hb6 hs2
      go_loopw [26] (fun i wr => ∃ (k : Nat) (st : StS) (vb vs : Value) (vm : List Value), k ≤ l.length ∧ i = .int .i64 k ∧ Hid (goR s l = goR st (l.drop k)) ∧ Hid (InvS st) ∧ OwnSt wr B2 p st vb vs vm ∧ Bk wr (w.heap.size + 1) [.slice none 0 0, .slice none 0 0] 56 ∧ Hid (Below w.heap.size w wr)) (fun i _ => l.length - (intOf i).toNat)
      case atStart => exact ⟨0, s, _, _, vm, Nat.zero_le _, rfl, Lib.hid rfl, Hinv, hO2, hR4, Hb6⟩
      case round =>
        obtain ⟨k, st, vb, vs, vm, hk, rfl, Hgo, Hi, hO, hR, Hb⟩ := hrel
        clear hO2 hR4 Hb6 Hinv
        have hR' := hR
        by_cases hlt : k < l.length
        · obtain ⟨g, off, rfl, c0, c1, c2', c3', c4, c5⟩ := Hl.out.later Hb.out k hlt
          have hdr : l.drop k = l[k] :: l.drop (k + 1) := List.drop_eq_getElem_cons hlt
          have hse := Hsm.out l[k] (List.getElem_mem hlt)
          have hgo := Hgo.out
          rw [hdr, goR_cons] at hgo
          have hk0 : (0 : Int) ≤ (k : Int) := by omega
          have hkn : (k : Int) < (l.length : Int) := by omega
          generalize l[k] = x at *
          have hb4 : Below wr.heap.size wr (wr.alloc (.cells (entCells x).toArray 63)) := (Below.refl _ wr).alloc (Nat.le_refl _) _
          have hE : EB (wr.alloc (.cells (entCells x).toArray 63)) wr.heap.size x := World.alloc_heap_new wr _
          have hb5 := Hb.out.trans (hb4.mono Hb.out.size)
          obtain ⟨s1, s2, s3⟩ := hse
          have hfo := form_calls x m (wr.alloc (.cells (entCells x).toArray 63)) (by omega) (by omega) (by omega) (cell_later hb5 Hm.out)
          have hO4 := hO.later hb4
          have hR4 := hR.later hb4
          have Hfo := Lib.hid hfo
          have Hb5 := Lib.hid hb5
          have Hgo2 := Lib.hid hgo
          have hO4s := hO4.lt
          have happ := fun W (hW : OwnSt W B2 p st vb vs vm) (hf : formR x = 0) => apply_calls st x B2 p vb vs vm W hW Hi.out hf
          have hinv2 := fun (hf : formR x = 0) => inv_apply Hi.out x hf
          have Happ := Lib.hid happ
          have Hin2 := Lib.hid hinv2
          unfold entCells at hE Hfo Hb5 hO4 hR4
          unfold entVal at Hfo Happ
          clear hfo hb5 hdr hb4 hO hR hR' Hgo Hb hgo happ hinv2 hO4s
          go_wp2_with fail
          generalize wr.alloc (.cells [Value.int .i64 x.kind, .string x.box, .int .i64 x.uid, .int .i64 x.flags, .string x.dst, .string x.text].toArray 63) = w5 at *
          refine Hfo.out.mono ?_
          rintro e w6 ⟨rfl, hb6⟩
          have hE6 : EB w6 wr.heap.size x := (hb6.block _ (Array.getElem?_eq_some_iff.1 hE).1).trans hE
          have hO6 := hO4.later hb6
          have hR6 := hR4.later hb6
          have Hb6 := Lib.hid (Hb5.out.trans (hb6.mono Hb5.out.size))
          have r0 := hR6.cell 0 _ rfl
          have r1 := hR6.cell 1 _ rfl
          have g0 := hR6.frozen 0
          have g1 := hR6.frozen 1
          clear Hfo hb6 hE hO4 hR4 Hb5 c0 c1 c2' c3' c4 c5
          by_cases hf : formR x = 0
          · have happ := Happ.out w6 hO6 hf
            have Happ2 := Lib.hid happ
            have hgo := Hgo2.out
            rw [if_neg (by rw [hf]; simp)] at hgo
            have Hgo3 := Lib.hid hgo
            have Hin3 := Lib.hid (Hin2.out hf)
            rw [hf]
            obtain ⟨x0, x1, x2, x3, x4, x5⟩ := EB.cells hE6
            clear happ hgo Hgo2 Hin2 Happ hf
            go_wp2_with fail
            refine Happ2.out.mono ?_
            rintro e w7 ⟨rfl, vb', vs', vm', hO7, hb7⟩
            have hR7 := hR6.below hb7 (by omega)
            have hBw : B2 ≤ w6.heap.size := by have := hO6.pB; have := hO6.lt; omega
            have Hb7 := Lib.hid (Hb6.out.trans (hb7.mono (by omega)))
            have hgo := Hgo3.out
            clear Happ2 hO6 hR6 hb7 hE6 x0 x1 x2 x3 x4 x5 r0 r1 g0 g1 Hgo3 Hb6
            by_cases ha : (applyR st x).1 = 0
            · rw [if_neg (by rw [ha]; simp)] at hgo
              have Hgo4 := Lib.hid hgo
              rw [ha]
              clear hgo ha
              go_wp2_with fail
              go_roundw
              case rel => exact ⟨k + 1, _, vb', vs', vm', by omega, by go_num, Hgo4, Hin3, hO7, hR7, Hb7⟩
              case measure => simp [intOf]; omega
            · rw [if_pos ha] at hgo
              have hr := Hallr.out.1
              rw [hgo] at hr
              have Hr := Lib.hid hr
              have Ha := Lib.hid ha
              have hne : ((applyR st x).1 != 0) = true := by simpa using ha
              have r0 := hR7.cell 0 _ rfl
              have r1 := hR7.cell 1 _ rfl
              have g0 := hR7.frozen 0
              have g1 := hR7.frozen 1
              have hZ := (hR7.set 0 (.slice none 0 0)).set 1 (.slice none 0 0)
              have z0 := hZ.cell 0 _ rfl
              have z1 := hZ.cell 1 _ rfl
              have hbz := (Hb7.out.setCell (p := ⟨w.heap.size + 1, 0, none⟩) (by show w.heap.size ≤ w.heap.size + 1; omega) (.slice none 0 0)).setCell (p := ⟨w.heap.size + 1, 1, none⟩) (by show w.heap.size ≤ w.heap.size + 1; omega) (.slice none 0 0)
              have Hbz := Lib.hid hbz
              generalize (applyR st x).1 = q at *
              clear hgo hr ha hZ hbz hR7 hO7
              go_wp2_with fail
              exact bodyPost_ret (v := .tuple #[.agg #[.slice none 0 0, .slice none 0 0], .int .i64 q]) (by simp [results, Tryd.results25, go_sem, z0, z1]) rfl ⟨_, by rw [Hr.out], Hbz.out, by rw [Hr.out, if_neg Ha.out]⟩
          · have hgo := Hgo2.out
            rw [if_pos hf] at hgo
            have hr := Hallr.out.1
            rw [hgo] at hr
            have hr2 : (allR s l).1 = formR x := hr
            have Hr := Lib.hid hr2
            have Hf := Lib.hid hf
            have hne : (formR x != 0) = true := by simpa using hf
            have hZ := (hR6.set 0 (.slice none 0 0)).set 1 (.slice none 0 0)
            have z0 := hZ.cell 0 _ rfl
            have z1 := hZ.cell 1 _ rfl
            have hbz := (Hb6.out.setCell (p := ⟨w.heap.size + 1, 0, none⟩) (by show w.heap.size ≤ w.heap.size + 1; omega) (.slice none 0 0)).setCell (p := ⟨w.heap.size + 1, 1, none⟩) (by show w.heap.size ≤ w.heap.size + 1; omega) (.slice none 0 0)
            have Hbz := Lib.hid hbz
            generalize formR x = q at *
            clear hgo hr hr2 hf hZ hbz hR6 hO6 Hgo2 Hin2 Happ
            go_wp2_with fail
            exact bodyPost_ret (v := .tuple #[.agg #[.slice none 0 0, .slice none 0 0], .int .i64 q]) (by simp [results, Tryd.results25, go_sem, z0, z1]) rfl ⟨_, by rw [Hr.out], Hbz.out, by rw [Hr.out, if_neg Hf.out]⟩
        · obtain rfl : k = l.length := by omega
          have hgo := Hgo.out
          rw [List.drop_length] at hgo
          have hgo2 : goR s l = (0, st) := hgo
          have hr := Hallr.out.2 (by rw [hgo2])
          rw [hgo2] at hr
          obtain ⟨Ab, cb, As, cs, rfl, rfl⟩ := hO.slices
          have hinv := Hi.out
          have how := own_calls st Ab As cb cs wr (hO.at rfl rfl) (by have := hinv.nb; omega) (by have := hinv.ns; omega) (fun b hb => by have := (hinv.nm b hb).1; omega)
          have How := Lib.hid how
          have Hr := Lib.hid hr
          have e0 := hO.c0
          have e1 := hO.c1
          have hpl2 := hO.lt
          have hpB := hO.pB
          clear hgo hgo2 hr hinv how hO Hgo hR'
          go_wp2_with fail
          refine How.out.mono ?_
          rintro e w5 ⟨vb', vs', vm', p', rfl, hO5, hb5⟩
          have hR5 := hR.later hb5
          have Hb5 := Lib.hid (Hb.out.trans (hb5.mono Hb.out.size))
          obtain ⟨Ac, cc, At', ct, rfl, rfl⟩ := hO5.slices
          have g0 := hR5.frozen 0
          have g1 := hR5.frozen 1
          have r0 := hR5.cell 0 _ rfl
          have r1 := hR5.cell 1 _ rfl
          have hZ := (hR5.set 0 (.slice Ac st.boxes.length cc)).set 1 (.slice At' st.spool.length ct)
          have z0 := hZ.cell 0 _ rfl
          have z1 := hZ.cell 1 _ rfl
          have hbz := (Hb5.out.setCell (p := ⟨w.heap.size + 1, 0, none⟩) (by show w.heap.size ≤ w.heap.size + 1; omega) (.slice Ac st.boxes.length cc)).setCell (p := ⟨w.heap.size + 1, 1, none⟩) (by show w.heap.size ≤ w.heap.size + 1; omega) (.slice At' st.spool.length ct)
          have hOz := ((hO5.setOther (w.heap.size + 1) 0 (.slice Ac st.boxes.length cc) (by omega)).setOther (w.heap.size + 1) 1 (.slice At' st.spool.length ct) (by omega)).mono (B' := w.heap.size) (by omega)
          have Hbz := Lib.hid hbz
          have HOz := Lib.hid hOz
          clear How hZ hbz hOz hO5 hR5 hR hb5 e0 e1 Hb5
          go_wp2_with fail
          exact bodyPost_ret (v := .tuple #[.agg #[.slice Ac st.boxes.length cc, .slice At' st.spool.length ct], .int .i64 0]) (by simp [results, Tryd.results25, go_sem, z0, z1]) rfl ⟨_, by rw [Hr.out], Hbz.out, by rw [Hr.out, if_pos rfl]; exact ⟨_, _, _, _, rfl, HOz.out⟩⟩
  · have hr := Hr0.out hz
    have hne : (checkR s != 0) = true := by simpa using hz
    have Hr := Lib.hid hr
    have Hz := Lib.hid hz
    generalize checkR s = z at *
    clear hr Hr0 Hr1 hz
    go_wp2_with fail
    exact bodyPost_ret (v := .tuple #[.agg #[.slice none 0 0, .slice none 0 0], .int .i64 z]) (by simp [results, Tryd.results25, go_sem, z0, z1]) rfl ⟨_, by rw [Hr.out], Hbz.out, by rw [Hr.out, if_neg Hz.out]⟩
end Go.Proofs.YtpncahklapfoaaaDoor
namespace Go.Proofs.YtpncahklapfoaaaDoor
open Go.RowKit
set_option linter.unusedVariables false

set_option maxRecDepth 100000 in
set_option maxHeartbeats 4000000 in
theorem aply_calls (s : StS) (x : Ent) (A A2 : Option Addr) (c c2 : Nat) (m : Int) (w : World) (hA : StAt w A c A2 c2 s) (hok : OkC s) (hsm : SmE x) (hm : w.cell? ⟨0, 0, none⟩ = some (.int .i64 m)) :
    Calls Tryd.prog 34 #[.agg #[.slice A s.boxes.length c, .slice A2 s.spool.length c2], entVal x] w fun e w' => AllOk w (allR s [x]) e w' := by
  obtain ⟨kd, bx, ud, fl, ds, tx⟩ := x
  have Hm := Lib.hid hm
  have HA := Lib.hid hA
  have hall := fun W A3 c3 hW hL hM => all_calls s [⟨kd, bx, ud, fl, ds, tx⟩] A A2 A3 c c2 c3 m W hW hok hL (fun e he => by simp at he; subst he; exact hsm) (by simp) hM
  have Hall := Lib.hid hall
  generalize allR s [⟨kd, bx, ud, fl, ds, tx⟩] = r at *
  have hb1 : Below w.heap.size w (((w.alloc (.cells #[.slice A s.boxes.length c, .slice A2 s.spool.length c2] 56)).alloc (.cells #[.int .i64 kd, .string bx, .int .i64 ud, .int .i64 fl, .string ds, .string tx] 63)).alloc (.cells #[.slice none 0 0, .slice none 0 0] 56)) := (((Below.refl _ w).alloc (Nat.le_refl _) _).alloc (by simp) _).alloc (by simp; omega) _
  have hR := Bk.new ((w.alloc (.cells #[.slice A s.boxes.length c, .slice A2 s.spool.length c2] 56)).alloc (.cells #[.int .i64 kd, .string bx, .int .i64 ud, .int .i64 fl, .string ds, .string tx] 63)) [.slice none 0 0, .slice none 0 0] 56
  have hs1 : ((w.alloc (.cells #[.slice A s.boxes.length c, .slice A2 s.spool.length c2] 56)).alloc (.cells #[.int .i64 kd, .string bx, .int .i64 ud, .int .i64 fl, .string ds, .string tx] 63)).heap.size = w.heap.size + 1 + 1 := by simp
  rw [hs1] at hR
  have hse : (((w.alloc (.cells #[.slice A s.boxes.length c, .slice A2 s.spool.length c2] 56)).alloc (.cells #[.int .i64 kd, .string bx, .int .i64 ud, .int .i64 fl, .string ds, .string tx] 63)).alloc (.cells #[.slice none 0 0, .slice none 0 0] 56)).heap.size = w.heap.size + 1 + 1 + 1 := by simp
  have Hse := Lib.hid hse
  clear hse
  have hs2 : w.heap.size + 3 ≤ (((w.alloc (.cells #[.slice A s.boxes.length c, .slice A2 s.spool.length c2] 56)).alloc (.cells #[.int .i64 kd, .string bx, .int .i64 ud, .int .i64 fl, .string ds, .string tx] 63)).alloc (.cells #[.slice none 0 0, .slice none 0 0] 56)).heap.size := by simp
  clear hall hm hA hs1
  unfold entVal
  simp only
  go_enter Tryd.func34, Tryd.ntmps34
  go_wp2_with fail
  generalize ((w.alloc (.cells #[.slice A s.boxes.length c, .slice A2 s.spool.length c2] 56)).alloc (.cells #[.int .i64 kd, .string bx, .int .i64 ud, .int .i64 fl, .string ds, .string tx] 63)).alloc (.cells #[.slice none 0 0, .slice none 0 0] 56) = w1 at *
  have hbA : Below w1.heap.size w1 (w1.alloc (.cells #[.int .i64 kd, .string bx, .int .i64 ud, .int .i64 fl, .string ds, .string tx] 63)) := (Below.refl _ w1).alloc (Nat.le_refl _) _
  have hlit := World.ownsRow_lit (base := w1.heap.size) (e := 63) (size := 6) w1 #[.int .i64 kd, .string bx, .int .i64 ud, .int .i64 fl, .string ds, .string tx] 1 (Nat.le_refl _) (by decide) rfl
  have hR2 := hR.later hbA
  have hb2 := hb1.trans (hbA.mono hb1.size)
  have hes : EsAt (w1.alloc (.cells #[.int .i64 kd, .string bx, .int .i64 ud, .int .i64 fl, .string ds, .string tx] 63)) (some ⟨w1.heap.size, 0, none⟩) [⟨kd, bx, ud, fl, ds, tx⟩] := ownsRow_ents (es := [⟨kd, bx, ud, fl, ds, tx⟩]) hlit rfl
  have hes2 : EsAt (w1.alloc (.cells #[.int .i64 kd, .string bx, .int .i64 ud, .int .i64 fl, .string ds, .string tx] 63)) (some ⟨w.heap.size + 1 + 1 + 1, 0, none⟩) [⟨kd, bx, ud, fl, ds, tx⟩] := by rw [← Hse.out]; exact hes
  refine (Hall.out _ (some ⟨w.heap.size + 1 + 1 + 1, 0, none⟩) 1 (HA.out.later hb2) hes2 (cell_later hb2 Hm.out)).mono ?_
  rintro e w2 ⟨v, rfl, hb3, hif⟩
  have hR3 := hR2.later hb3
  have hs3 := Nat.le_trans hs2 hbA.size
  have hb4 := hb2.trans (hb3.mono hb2.size)
  have r0 := hR3.cell 0 _ rfl
  have r1 := hR3.cell 1 _ rfl
  have g0 := hR3.frozen 0
  have g1 := hR3.frozen 1
  obtain ⟨A0, n0, k0, A1, n1, k1, rfl⟩ : ∃ A0 n0 k0 A1 n1 k1, v = .agg #[.slice A0 n0 k0, .slice A1 n1 k1] := by
    by_cases hz : r.1 = 0
    · rw [if_pos hz] at hif
      obtain ⟨vb, vs, _, _, e, hO⟩ := hif
      obtain ⟨Ab, cb, As, cs, rfl, rfl⟩ := hO.slices
      exact ⟨_, _, _, _, _, _, e⟩
    · rw [if_neg hz] at hif
      exact ⟨_, _, _, _, _, _, hif⟩
  have hZ := (hR3.set 0 (.slice A0 n0 k0)).set 1 (.slice A1 n1 k1)
  have z0 := hZ.cell 0 _ rfl
  have z1 := hZ.cell 1 _ rfl
  have hbz := (hb4.setCell (p := ⟨w.heap.size + 1 + 1, 0, none⟩) (by show w.heap.size ≤ w.heap.size + 1 + 1; omega) (.slice A0 n0 k0)).setCell (p := ⟨w.heap.size + 1 + 1, 1, none⟩) (by show w.heap.size ≤ w.heap.size + 1 + 1; omega) (.slice A1 n1 k1)
  have hfin : AllOk w r (.returned (.tuple #[.agg #[.slice A0 n0 k0, .slice A1 n1 k1], .int .i64 r.1])) ((w2.setCell ⟨w.heap.size + 1 + 1, 0, none⟩ (.slice A0 n0 k0)).setCell ⟨w.heap.size + 1 + 1, 1, none⟩ (.slice A1 n1 k1)) := by
    refine ⟨_, rfl, hbz, ?_⟩
    by_cases hz : r.1 = 0
    · rw [if_pos hz] at hif ⊢
      obtain ⟨vb, vs, vm, p, e, hO⟩ := hif
      exact ⟨vb, vs, vm, p, e, ((hO.setOther (w.heap.size + 1 + 1) 0 _ (by omega)).setOther (w.heap.size + 1 + 1) 1 _ (by omega)).mono (by omega)⟩
    · rw [if_neg hz] at hif ⊢
      exact hif
  have Hfin := Lib.hid hfin
  clear hfin hbz hZ hR3 hif hb4 hb3 hs3 hR2 hb2 hb1 hR hbA hlit hes hes2 Hall
  go_wp2_with fail
  exact bodyPost_ret (v := .tuple #[.agg #[.slice A0 n0 k0, .slice A1 n1 k1], .int .i64 r.1]) (by simp [results, Tryd.results34, go_sem, z0, z1]) rfl Hfin.out
end Go.Proofs.YtpncahklapfoaaaDoor
