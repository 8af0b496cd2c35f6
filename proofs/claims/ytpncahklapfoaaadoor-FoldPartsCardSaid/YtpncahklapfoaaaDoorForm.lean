/- box.Form: what it answers for every entry. -/
import Derived.Test.YtpncahklapfoaaaDoorRName
import Derived.Deep.DrawnRows
import Derived.Deep.RegionHeld
import Derived.Outline
import Derived.RegionTactic
import Derived.BigRegion
import Derived.Deep.DeepCutAuto
import Derived.Deep.CutRange
import Derived.Deep.CutBlock
import Derived.WalkKit
namespace Go.Proofs.YtpncahklapfoaaaDoor
open Go.RowKit
set_option linter.unusedVariables false

set_option maxRecDepth 100000 in
set_option maxHeartbeats 2000000 in
theorem list_long (s : ByteArray) (w : World) (hs : 2000 < s.size) (hs2 : s.size ≤ 9223372036854775807) :
    Calls Tryd.prog 39 #[.string s] w fun e w' => e = .returned (.tuple #[.slice none 0 0, .int .i64 1]) ∧ Below w.heap.size w w' := by
  go_enter_defers Tryd.func39, Tryd.ntmps39
  go_wp2_with fail
  exact ⟨.tuple #[.slice none 0 0, .int .i64 1], by simp [results, Tryd.results39, go_sem], rfl, ((Below.refl _ w).alloc (Nat.le_refl _) _).alloc (by simp) _⟩

/-- The block of an entry. -/
def EB (W : World) (c : Nat) (e : Ent) : Prop := W.heap[c]? = some (.cells (entCells e).toArray 63 (0, 0))

theorem EB.cells {W : World} {c : Nat} {k u f : Int} {b t s : ByteArray} (h : EB W c ⟨k, b, u, f, t, s⟩) :
    W.cell? ⟨c, 0, none⟩ = some (.int .i64 k) ∧ W.cell? ⟨c, 1, none⟩ = some (.string b) ∧ W.cell? ⟨c, 2, none⟩ = some (.int .i64 u) ∧ W.cell? ⟨c, 3, none⟩ = some (.int .i64 f) ∧ W.cell? ⟨c, 4, none⟩ = some (.string t) ∧ W.cell? ⟨c, 5, none⟩ = some (.string s) := by
  simp [World.cell?, show W.heap[c]? = _ from h, entCells]
theorem formR_own (x : Ent) (h : ownE x = some x) : formR x = if x.flags < 0 ∨ 31 < x.flags ∨ x.uid < 0 ∨ 1048576 < x.uid then 6 else if 2000 < x.text.size then 1
    else if x.kind = 6 then (if oneL x.dst = true then 0 else 3)
    else if nameR (bs x.box) ≠ 0 then nameR (bs x.box) else if x.kind = 5 then nameR (bs x.dst) else 0 := by
  unfold formR; rw [h]; simp
theorem oneL_long (t : ByteArray) (h : 100 < t.size) : oneL t = false := by
  unfold oneL
  split
  · simp; omega
  · rfl
/-- What stands behind the switch. -/
structure EK (w W : World) (b : Nat) (x y : Ent) : Prop where
  kx : EB W b x
  ky : EB W (b + 1) y
  bl : Below b w W
theorem EK.new (w : World) (x y : Ent) (n : Nat) : EK w (((w.alloc (.cells (entCells x).toArray 63)).alloc (.cells (entCells y).toArray 63)).drewN n) w.heap.size x y := by
  have h0 := World.alloc_heap_new w (.cells (entCells x).toArray 63)
  have h1 := World.alloc_heap_new (w.alloc (.cells (entCells x).toArray 63)) (.cells (entCells y).toArray 63)
  rw [show (w.alloc (.cells (entCells x).toArray 63)).heap.size = w.heap.size + 1 by simp] at h1
  exact ⟨(((Below.refl (w.heap.size + 1) _).alloc (by simp) _).block w.heap.size (by omega)).trans h0, h1, bel_drewN (((Below.refl _ w).alloc (Nat.le_refl _) _).alloc (by simp) _) n⟩
set_option maxRecDepth 100000 in
set_option maxHeartbeats 2000000 in
theorem form_calls (x : Ent) (m : Int) (w : World) (hb : x.box.size ≤ 9223372036854775807) (ht : x.dst.size ≤ 9223372036854775807) (hx : x.text.size ≤ 9223372036854775807) (hm : w.cell? ⟨0, 0, none⟩ = some (.int .i64 m)) :
    Calls Tryd.prog 31 #[entVal x] w fun e w' => e = .returned (.int .i64 (formR x)) ∧ Below w.heap.size w w' := by
  obtain ⟨k, b, u, f, t, s⟩ := x
  unfold entVal
  simp only at hb ht hx ⊢
  cases hy : ownE ⟨k, b, u, f, t, s⟩ with
  | none =>
    have hr : formR ⟨k, b, u, f, t, s⟩ = 2 := by unfold formR; rw [hy]
    unfold ownE at hy
    simp only at hy
    have Hr := Lib.hid hr
    clear hr
    have h1 : k ≠ 1 := by intro h; subst h; simp at hy
    have h2 : k ≠ 2 := by intro h; subst h; simp at hy
    have h3 : k ≠ 3 := by intro h; subst h; simp at hy
    have h4 : k ≠ 4 := by intro h; subst h; simp at hy
    have h5 : k ≠ 5 := by intro h; subst h; simp at hy
    have h6 : k ≠ 6 := by intro h; subst h; simp at hy
    have e1 : (k == 1) = false := by simpa using h1
    have e2 : (k == 2) = false := by simpa using h2
    have e3 : (k == 3) = false := by simpa using h3
    have e4 : (k == 4) = false := by simpa using h4
    have e5 : (k == 5) = false := by simpa using h5
    have e6 : (k == 6) = false := by simpa using h6
    clear hy h1 h2 h3 h4 h5 h6
    go_enter Tryd.func31, Tryd.ntmps31
    go_wp2
    go_ret
    exact ⟨by rw [Hr.out]; rfl, ((Below.refl _ w).alloc (Nat.le_refl _) _).alloc (by simp) _⟩
  | some y =>
    go_enter Tryd.func31, Tryd.ntmps31
    go_upto_block 0 with fail
    go_cut [1, 3] (fun p q wx => p = .pointer (some ⟨w.heap.size, 0, none⟩) ∧ q = .pointer (some ⟨w.heap.size + 1, 0, none⟩) ∧ EK w wx w.heap.size ⟨k, b, u, f, t, s⟩ y)
    case first =>
      have Hm := Lib.hid hm
      clear hm
      have hk : k = 1 ∨ k = 2 ∨ k = 3 ∨ k = 4 ∨ k = 5 ∨ k = 6 := by
        rcases Decidable.em (k = 1 ∨ k = 2 ∨ k = 3 ∨ k = 4 ∨ k = 5 ∨ k = 6) with h | h
        · exact h
        · exfalso
          simp only [not_or] at h
          obtain ⟨h1, h2, h3, h4, h5, h6⟩ := h
          simp [ownE, h1, h2, h3, h4, h5, h6] at hy
      rcases hk with h1 | h2 | h3 | h4 | h5 | h6
      · subst h1
        obtain rfl : (⟨1, b, 0, 0, ⟨#[]⟩, ⟨#[]⟩⟩ : Ent) = y := by simpa [ownE] using hy
        clear hy
        go_wp2
        go_meet
        exact ⟨rfl, rfl, EK.new w ⟨1, b, u, f, t, s⟩ ⟨1, b, 0, 0, ⟨#[]⟩, ⟨#[]⟩⟩ 0⟩
      · subst h2
        obtain rfl : (⟨2, b, 0, f, ⟨#[]⟩, s⟩ : Ent) = y := by simpa [ownE] using hy
        clear hy
        go_wp2_with fail
        go_region
        all_goals
          go_wp2
          go_meet
          exact ⟨rfl, rfl, EK.new w ⟨2, b, u, f, t, s⟩ ⟨2, b, 0, f, ⟨#[]⟩, s⟩ 1⟩
      · subst h3
        obtain rfl : (⟨3, b, u, f, ⟨#[]⟩, ⟨#[]⟩⟩ : Ent) = y := by simpa [ownE] using hy
        clear hy
        go_wp2_with fail
        go_region
        all_goals
          go_wp2
          go_meet
          exact ⟨rfl, rfl, EK.new w ⟨3, b, u, f, t, s⟩ ⟨3, b, u, f, ⟨#[]⟩, ⟨#[]⟩⟩ 1⟩
      · subst h4
        obtain rfl : (⟨4, b, 0, 0, ⟨#[]⟩, ⟨#[]⟩⟩ : Ent) = y := by simpa [ownE] using hy
        clear hy
        go_wp2
        go_meet
        exact ⟨rfl, rfl, EK.new w ⟨4, b, u, f, t, s⟩ ⟨4, b, 0, 0, ⟨#[]⟩, ⟨#[]⟩⟩ 0⟩
      · subst h5
        obtain rfl : (⟨5, b, u, 0, t, ⟨#[]⟩⟩ : Ent) = y := by simpa [ownE] using hy
        clear hy
        go_wp2_with fail
        go_region
        all_goals
          go_wp2
          go_meet
          exact ⟨rfl, rfl, EK.new w ⟨5, b, u, f, t, s⟩ ⟨5, b, u, 0, t, ⟨#[]⟩⟩ 1⟩
      · subst h6
        obtain rfl : (⟨6, ⟨#[]⟩, 0, 0, t, s⟩ : Ent) = y := by simpa [ownE] using hy
        clear hy
        go_wp2_with fail
        go_region
        all_goals
          go_wp2
          go_meet
          exact ⟨rfl, rfl, EK.new w ⟨6, b, u, f, t, s⟩ ⟨6, ⟨#[]⟩, 0, 0, t, s⟩ 1⟩
    case rest =>
      obtain ⟨rfl, rfl, hK⟩ := hcut
      obtain ⟨k', b', u', f', t', s'⟩ := y
      obtain ⟨x0, x1, x2, x3, x4, x5⟩ := EB.cells hK.kx
      obtain ⟨y0, y1, y2, y3, y4, y5⟩ := EB.cells hK.ky
      have hbl := hK.bl
      have hinj : ∀ p q : ByteArray, p.toList = q.toList → p = q := fun p q h => bs_inj (by rw [← toList_bs, ← toList_bs, h])
      by_cases hxy : (⟨k, b, u, f, t, s⟩ : Ent) = ⟨k', b', u', f', t', s'⟩
      · have hy2 := hy
        rw [← hxy] at hy2
        simp only [Ent.mk.injEq] at hxy
        obtain ⟨rfl, rfl, rfl, rfl, rfl, rfl⟩ := hxy
        have hfr := formR_own ⟨k, b, u, f, t, s⟩ hy2
        simp only at hfr
        have hmc : wc.cell? ⟨0, 0, none⟩ = some (.int .i64 m) := cell_later hbl hm
        clear hy hy2 hm hinj hK
        go_upto_region 17 with fail
        clear y0 y1 y2 y3 y4 y5
        by_cases hR : f < 0 ∨ 31 < f ∨ u < 0 ∨ 1048576 < u
        · rw [if_pos hR] at hfr
          have Hr := Lib.hid hfr
          clear hfr
          by_cases r1 : f < 0
          · go_wp2
            go_ret
            exact ⟨by rw [Hr.out]; rfl, hbl⟩
          · by_cases r2 : 31 < f
            · go_wp2
              go_ret
              exact ⟨by rw [Hr.out]; rfl, hbl⟩
            · by_cases r3 : u < 0
              · go_wp2
                go_ret
                exact ⟨by rw [Hr.out]; rfl, hbl⟩
              · have r4 : 1048576 < u := by omega
                go_wp2
                go_ret
                exact ⟨by rw [Hr.out]; rfl, hbl⟩
        · rw [if_neg hR] at hfr
          have r1 : ¬ f < 0 := fun h => hR (.inl h)
          have r2 : ¬ 31 < f := fun h => hR (.inr (.inl h))
          have r3 : ¬ u < 0 := fun h => hR (.inr (.inr (.inl h)))
          have r4 : ¬ 1048576 < u := fun h => hR (.inr (.inr (.inr h)))
          clear hR
          by_cases r5 : 2000 < s.size
          · rw [if_pos r5] at hfr
            have Hr := Lib.hid hfr
            clear hfr
            go_wp2
            go_ret
            exact ⟨by rw [Hr.out]; rfl, hbl⟩
          · rw [if_neg r5] at hfr
            by_cases r6 : k = 6
            · subst r6
              rw [if_pos rfl] at hfr
              by_cases r7 : 2000 < t.size
              · have ho : oneL t = false := oneL_long t (by omega)
                rw [ho] at hfr
                have Hr := Lib.hid hfr
                clear hfr ho
                go_wp2_with fail
                refine (list_long t wc r7 ht).mono ?_
                rintro e w1 ⟨rfl, hb1⟩
                go_wp2
                go_ret
                exact ⟨by rw [Hr.out]; rfl, hbl.trans (hb1.mono hbl.size)⟩
              · have Hfr := Lib.hid hfr
                clear hfr
                go_wp2_with fail
                refine (list_calls t m wc (by omega) hmc (listL (t.size + 1) (t.size + 1) (bs t)) rfl).mono ?_
                rintro e w1 ⟨v, err, rfl, hb1, hv⟩
                have hb2 := hbl.trans (hb1.mono hbl.size)
                have x4' := cell_later hb1 x4
                clear x0 x1 x2 x3 x4 x5 hmc hb1 hbl
                cases hL : listL (t.size + 1) (t.size + 1) (bs t) with
                | none =>
                  rw [hL] at hv
                  obtain ⟨rfl, rfl⟩ := hv
                  have ho : oneL t = false := by unfold oneL; rw [hL]
                  have hr := Hfr.out
                  rw [ho] at hr
                  have Hr := Lib.hid hr
                  clear hr Hfr ho
                  go_wp2
                  go_ret
                  exact ⟨by rw [Hr.out]; rfl, hb2⟩
                | some l =>
                  rw [hL] at hv
                  simp only at hv
                  by_cases r8 : 20 < l.length
                  · rw [if_pos r8] at hv
                    obtain ⟨rfl, rfl⟩ := hv
                    have ho : oneL t = false := by
                      unfold oneL; rw [hL]
                      split
                      · next h => rw [Option.some.injEq] at h; subst h; simp at r8
                      · rfl
                    have hr := Hfr.out
                    rw [ho] at hr
                    have Hr := Lib.hid hr
                    clear hr Hfr ho hL
                    go_wp2
                    go_ret
                    exact ⟨by rw [Hr.out]; rfl, hb2⟩
                  · rw [if_neg r8] at hv
                    obtain ⟨rfl, hrow⟩ := hv
                    obtain ⟨A, c, rfl⟩ : ∃ A c, v = .slice A l.length c := by
                      rcases hrow.2 with ⟨h1, h2⟩ | ⟨g, cap, cur, h1, _⟩
                      · exact ⟨none, 0, by rw [h1, h2]⟩
                      · exact ⟨_, _, h1⟩
                    by_cases r9 : l.length = 1
                    · obtain ⟨a, rfl⟩ := List.length_eq_one_iff.1 r9
                      have ho : oneL t = decide (t.size ≤ 100) := by unfold oneL; rw [hL]
                      clear r9 r8
                      have hr := Hfr.out
                      rw [ho] at hr
                      clear ho hL
                      by_cases r10 : t.size ≤ 100
                      · rw [if_pos (by simpa using r10)] at hr
                        have Hr := Lib.hid hr
                        clear hr Hfr
                        go_wp2
                        go_ret
                        exact ⟨by rw [Hr.out]; rfl, hb2⟩
                      · rw [if_neg (by simpa using r10)] at hr
                        have Hr := Lib.hid hr
                        clear hr Hfr
                        go_wp2
                        go_ret
                        exact ⟨by rw [Hr.out]; rfl, hb2⟩
                    · have ho : oneL t = false := by
                        unfold oneL; rw [hL]
                        split
                        · next h => rw [Option.some.injEq] at h; subst h; simp at r9
                        · rfl
                      have hr := Hfr.out
                      rw [ho] at hr
                      have Hr := Lib.hid hr
                      clear hr Hfr ho hL
                      generalize l.length = n at *
                      have hne : ((n : Int) != 1) = true := by simp; omega
                      clear hrow
                      go_wp2
                      go_ret
                      exact ⟨by rw [Hr.out]; rfl, hb2⟩
            · rw [if_neg r6] at hfr
              have Hfr := Lib.hid hfr
              clear hfr
              go_wp2_with fail
              refine (rname_calls b _ hb).mono ?_
              rintro e w1 ⟨rfl, rfl⟩
              by_cases r7 : nameR (bs b) = 0
              · rw [r7]
                have hr := Hfr.out
                rw [if_neg (by rw [r7]; simp)] at hr
                by_cases r8 : k = 5
                · subst r8
                  rw [if_pos rfl] at hr
                  have Hr := Lib.hid hr
                  clear hr Hfr
                  go_wp2_with fail
                  refine (rname_calls t _ ht).mono ?_
                  rintro e w1 ⟨rfl, rfl⟩
                  go_wp2
                  go_ret
                  exact ⟨by rw [Hr.out]; rfl, hbl⟩
                · rw [if_neg r8] at hr
                  have Hr := Lib.hid hr
                  clear hr Hfr
                  go_wp2
                  go_ret
                  exact ⟨by rw [Hr.out]; rfl, hbl⟩
              · have hr := Hfr.out
                rw [if_pos r7] at hr
                have hne : (nameR (bs b) != 0) = true := by simpa using r7
                generalize nameR (bs b) = nb at *
                have Hr := Lib.hid hr
                clear hr Hfr
                go_wp2
                go_ret
                exact ⟨by rw [Hr.out]; rfl, hbl⟩
      · have hr : formR ⟨k, b, u, f, t, s⟩ = 3 := by unfold formR; rw [hy]; simp only; rw [if_pos hxy]
        have Hr := Lib.hid hr
        clear hr hy hm hK
        go_upto_region 17 with fail
        all_goals first
          | (exfalso; apply hxy; simp only [Ent.mk.injEq]; refine ⟨?_, ?_, ?_, ?_, ?_, ?_⟩ <;> first | assumption | exact hinj _ _ (by assumption))
          | (go_ret; exact ⟨by rw [Hr.out]; rfl, hbl⟩)
end Go.Proofs.YtpncahklapfoaaaDoor
