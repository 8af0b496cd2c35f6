/- What is appended stands last, with the next Uid; nothing else changes: for every list of raw numbers and every chore. -/
import Derived.Test.YtbddahdkjngecaaDoorAppUndo
namespace Go.Proofs.YtbddahdkjngecaaDoor
open Go.RowKit
set_option linter.unusedVariables false
def nextLe (n : Int) (s : StS) : Prop := ∀ b ∈ s.boxes, b.next ≤ n
theorem b7 {a b c d e f B : Prop} (k : a ∧ b ∧ c ∧ d ∧ e ∧ f ∧ B) : B := k.2.2.2.2.2.2
theorem next_set {n : Int} {s : StS} (h : nextLe n s) (i : Nat) (b' : BoxS) (hb : b'.next ≤ n + 1) : nextLe (n + 1) { s with boxes := s.boxes.set i b' } := fun b hm => by
  rcases List.mem_or_eq_of_mem_set hm with h1 | h1
  · have := h b h1; omega
  · rw [h1]; exact hb
theorem next_add {n : Int} {s : StS} (h : nextLe n s) (i : Nat) (fl : Int) (t : ByteArray) : nextLe (n + 1) (addR s i fl t).2 := by
  have h0 : nextLe (n + 1) s := fun b hb => by have := h b hb; omega
  unfold addR
  split
  · exact h0
  · next b hb =>
    split
    · exact h0
    · exact next_set h i _ (by have := h b (List.mem_of_getElem? hb); simp only; omega)
theorem next_apply {n : Int} (hn : 0 ≤ n) {s : StS} (h : nextLe n s) (x : Ent) : nextLe (n + 1) (applyR s x).2 := by
  have h0 : nextLe (n + 1) s := fun b hb => by have := h b hb; omega
  unfold applyR
  split
  · split
    · exact h0
    · exact fun b hb => h0 b hb
  · split
    · split
      · exact h0
      · split
        · exact h0
        · intro b hb
          rcases List.mem_append.1 hb with h1 | h1
          · exact h0 b h1
          · simp at h1
            subst h1
            simp only; omega
    · split
      · exact h0
      · next b hb =>
        have hbn := h b (List.mem_of_getElem? hb)
        split
        · exact h0
        · split
          · exact next_add h _ _ _
          · split
            · exact next_set h _ _ (by simp only; omega)
            · split
              · exact h0
              · split
                · exact h0
                · split
                  · exact next_set h _ _ (by simp only; omega)
                  · split
                    · exact h0
                    · exact next_add h _ _ _
theorem next_step {n : Int} (hn : 0 ≤ n) {s : StS} (hv : Vld s) (h : nextLe n s) (x : Ent) (hf : formR x = 0) : nextLe (n + 1) (stepS s x) := by
  have h0 : nextLe (n + 1) s := fun b hb => by have := h b hb; omega
  have ha := allR_one hv x hf
  unfold stepS
  by_cases hz : (applyR s x).1 = 0
  · rw [if_neg (by rw [hz]; simp)] at ha
    rw [ha, if_pos rfl]
    exact next_apply hn h x
  · rw [if_pos hz] at ha
    rw [ha, if_neg hz]
    exact h0
theorem next_fold : ∀ (l : List Ent) (n : Int) (s : StS), 0 ≤ n → Vld s → nextLe n s → (∀ e ∈ l, formR e = 0) → nextLe (n + l.length) (l.foldl stepS s)
  | [], n, s, _, _, h, _ => by simpa using h
  | x :: r, n, s, hn, hv, h, hf => by
    have ih := next_fold r (n + 1) (stepS s x) (by omega) (vld_step hv x) (next_step hn hv h x (hf x List.mem_cons_self)) fun e he => hf e (List.mem_cons_of_mem _ he)
    rw [List.length_cons, List.foldl_cons]
    intro b hb
    have := ih b hb
    omega
theorem next_st (x : List Chr) : nextLe 41 (stR x) := by
  have h := next_fold ((x.take 40).map entC) 1 inbS (by decide) vld_inb (fun b hb => by simp [inbS] at hb; subst hb; decide) (fun e he => by
    obtain ⟨c, _, rfl⟩ := List.mem_map.1 he
    exact entC_form c)
  intro b hb
  have := h b hb
  rw [List.length_map, List.length_take] at this
  omega

set_option maxRecDepth 100000 in
set_option maxHeartbeats 8000000 in
theorem appendLast_walk (x : List Chr) (A : Option Addr) (c : Nat) (z : Chr) (m : Int) (w : World) (hx : x.length ≤ 9223372036854775807) (hA : kChr.Row w A x) (h1 : (Lit.int .i64 z.kind).wf = true) (h2 : (Lit.int .i64 z.box).wf = true) (h3 : (Lit.int .i64 z.uid).wf = true) (h4 : (Lit.int .i64 z.flags).wf = true) (h5 : (Lit.int .i64 z.dst).wf = true) (h6 : z.text.size ≤ 9223372036854775807) (hm : w.cell? ⟨0, 0, none⟩ = some (.int .i64 m)) :
    Calls Tryd.prog 9 #[.slice A x.length c, .agg #[.int .i64 z.kind, .int .i64 z.box, .int .i64 z.uid, .int .i64 z.flags, .int .i64 z.dst, .string z.text]] w fun e w' => e = .returned (.bool true) ∧ Below w.heap.size w w' := by
  obtain ⟨kd, bx, ud, fl, dz, tx⟩ := z
  simp only at h1 h2 h3 h4 h5 h6 ⊢
  have hen := fun W => entry_calls ⟨1, bx, 0, fl, 0, tx⟩ W (show (Lit.int .i64 1).wf = true by decide) h2 (show (Lit.int .i64 0).wf = true by decide) h4 (show (Lit.int .i64 0).wf = true by decide) h6
  have hec : entC ⟨1, bx, 0, fl, 0, tx⟩ = ⟨2, nmN (pickN bx 6), 0, (pickN fl 32 : Int), ⟨#[]⟩, cutS tx 300⟩ := by
    unfold entC
    rw [show pickN 1 6 = 1 by decide]
    rfl
  have hfo := entC_form ⟨1, bx, 0, fl, 0, tx⟩
  have hsm := entC_small ⟨1, bx, 0, fl, 0, tx⟩
  rw [hec] at hfo hsm hen
  clear hec
  have hv := vld_st x
  have hst := fun W (hb : Below w.heap.size w W) => state_calls x A c m W hx (hA.later hb) (cell_later hb hm)
  simp only at hen
  unfold entVal at hen
  generalize hs : stR x = s at *
  generalize hg_nm : nmN (pickN bx 6) = nm at *
  generalize hg_kf : (pickN fl 32 : Int) = kf at *
  generalize hg_t3 : cutS tx 300 = t3 at *
  have Hst := Lib.hid hst
  have Hen := Lib.hid hen
  have Hm := Lib.hid hm
  have hok := check_ok s ((vld_iff s).2 hv)
  have hnb := hok.nb
  have hns := hok.ns
  have aply := fun s A A2 c c2 W hA hv hm => aply_ok s ⟨2, nm, 0, kf, ⟨#[]⟩, t3⟩ A A2 c c2 m W hA hv hsm hm
  unfold entVal at aply
  have hfk := fun n A A2 c c2 W hA => findk_calls s A A2 c c2 n W (by omega) hA
  have Aply := Lib.hid aply
  have Hfk := Lib.hid hfk
  have Hv := Lib.hid hv
  have Hok := Lib.hid hok
  have Hfo := Lib.hid hfo
  have Hsm := Lib.hid hsm
  have Hs := Lib.hid hs
  clear hst hen hfo hsm hm hA hok aply hv h1 h2 h3 h4 h5 h6 hfk hs
  have hbC : Below w.heap.size w (w.alloc (.cells #[.int .i64 kd, .int .i64 bx, .int .i64 ud, .int .i64 fl, .int .i64 dz, .string tx] 24)) := (Below.refl _ w).alloc (Nat.le_refl _) _
  have hC := Bk.new w [.int .i64 kd, .int .i64 bx, .int .i64 ud, .int .i64 fl, .int .i64 dz, .string tx] 24
  go_enter Tryd.func9, Tryd.ntmps9
  go_wp2_with fail
  generalize w.alloc (.cells #[.int .i64 kd, .int .i64 bx, .int .i64 ud, .int .i64 fl, .int .i64 dz, .string tx] 24) = w0 at *
  refine (Hst.out _ hbC).mono ?_
  rintro e w1 ⟨A1, c1, B1, d1, rfl, hS1, hb1⟩
  have hC1 := hC.later hb1
  have hb1 := bel_tr hbC hb1
  have hal1 : Below w1.heap.size w1 (w1.alloc (.cells #[.slice A1 s.boxes.length c1, .slice B1 s.spool.length d1] 28)) := (Below.refl _ w1).alloc (Nat.le_refl _) _
  have hb2 := bel_tr hb1 hal1
  have hX := Bk.new w1 [.slice A1 s.boxes.length c1, .slice B1 s.spool.length d1] 28
  have hS2 := hS1.later hal1
  have hC2 := hC1.later hal1
  have k1 := hC2.cell 1 _ rfl
  have k2 := hC2.cell 2 _ rfl
  have k3 := hC2.cell 3 _ rfl
  have k4 := hC2.cell 4 _ rfl
  have k5 := hC2.cell 5 _ rfl
  clear hS1 hb1 Hst hC hC1 hal1 hbC
  go_wp2_with fail
  generalize w1.alloc (.cells #[.slice A1 s.boxes.length c1, .slice B1 s.spool.length d1] 28) = w2 at *
  refine (Hen.out _).mono ?_
  rintro e w3 ⟨rfl, hb3⟩
  have hX3 := hX.later hb3
  have hS3 := hS2.later hb3
  have hb4 := bel_tr hb2 hb3
  clear hX hS2 hb2 hb3 Hen hC2 k1 k2 k3 k4 k5
  have hbA : Below w3.heap.size w3 (w3.alloc (.cells #[.int .i64 2, .string nm, .int .i64 0, .int .i64 kf, .string ⟨#[]⟩, .string t3] 31)) := (Below.refl _ w3).alloc (Nat.le_refl _) _
  have hX4 := hX3.later hbA
  have hS4 := hS3.later hbA
  have hY4 := Bk.new w3 [.int .i64 2, .string nm, .int .i64 0, .int .i64 kf, .string ⟨#[]⟩, .string t3] 31
  have hb5 := bel_tr hb4 hbA
  have x0 := hX4.cell 0 _ rfl
  have x1 := hX4.cell 1 _ rfl
  have hm5 := cell_later hb5 Hm.out
  clear hX3 hS3 hb4 hbA
  go_wp2_with fail
  generalize w3.alloc (.cells #[.int .i64 2, .string nm, .int .i64 0, .int .i64 kf, .string ⟨#[]⟩, .string t3] 31) = w4 at *
  refine (Aply.out s _ _ _ _ _ hS4 Hv.out hm5).mono ?_
  rintro e w5 ⟨A9, c9, A92, c92, rfl, hat9, hown9, hb6⟩
  have hX5 := hX4.later hb6
  have hS5 := hS4.later hb6
  have hY5 := hY4.later hb6
  have hb7 := bel_tr hb5 hb6
  have hs34a := hY4.lt
  have hs04 := hb5.size
  clear hX4 hY4 hb5 x0 x1 hm5
  -- the block of what Apply returned
  generalize hr : allR s [⟨2, nm, 0, kf, ⟨#[]⟩, t3⟩] = r at *
  have hbB : Below w5.heap.size w5 (w5.alloc (.cells #[.slice A9 r.2.boxes.length c9, .slice A92 r.2.spool.length c92] 28)) := (Below.refl _ w5).alloc (Nat.le_refl _) _
  have hZ6 := Bk.new w5 [.slice A9 r.2.boxes.length c9, .slice A92 r.2.spool.length c92] 28
  have hX6 := hX5.later hbB
  have hY6 := hY5.later hbB
  have hS6 := hS5.later hbB
  have hat6 := hat9.later hbB
  have hb8 := bel_tr hb7 hbB
  have x0 := hX6.cell 0 _ rfl
  have x1 := hX6.cell 1 _ rfl
  have y1 := hY6.cell 1 _ rfl
  have hown6 : r.1 = 0 → ∃ B vm p, B ≤ w5.heap.size ∧ OwnSt (w5.alloc (.cells #[.slice A9 r.2.boxes.length c9, .slice A92 r.2.spool.length c92] 28)) B p r.2 (.slice A9 r.2.boxes.length c9) (.slice A92 r.2.spool.length c92) vm := fun hz => by
    obtain ⟨vm, p, hO⟩ := hown9 hz
    exact ⟨_, vm, p, by have := hO.pB; have := hO.lt; omega, hO.later hbB⟩
  have HS4 := Lib.hid hS4
  have hown6 : r.1 = 0 → ∃ vm p, OwnSt (w5.alloc (.cells #[.slice A9 r.2.boxes.length c9, .slice A92 r.2.spool.length c92] 28)) w4.heap.size p r.2 (.slice A9 r.2.boxes.length c9) (.slice A92 r.2.spool.length c92) vm := fun hz => by
    obtain ⟨vm, p, hO⟩ := hown9 hz
    exact ⟨vm, p, hO.later hbB⟩
  have H46 := Lib.hid (hb6.trans (hbB.mono hb6.size))
  have hs36 := hY5.lt
  clear hS4 hb6
  have hlt1 := hX5.lt
  have hlt2 := hY5.lt
  have hne1 : w3.heap.size ≠ w1.heap.size := by
    intro h
    have a := hX5
    have b := hY5
    rw [h] at b
    unfold Bk at a b
    rw [a] at b
    simp at b
  clear hX5 hY5 hS5 hat9 hb7 hbB hown9
  have Hr := Lib.hid hr
  clear hr
  go_wp2_with fail
  refine (Hfk.out nm _ _ _ _ _ hS6).mono ?_
  rintro e w7 ⟨rfl, hb9⟩
  have HX := Lib.hid (hX6.later hb9)
  have HY := Lib.hid (hY6.later hb9)
  have HZ := Lib.hid (hZ6.later hb9)
  have HS := Lib.hid (hS6.later hb9)
  have Hat := Lib.hid (hat6.later hb9)
  have Hb := Lib.hid (bel_tr hb8 hb9)
  have H47 := Lib.hid (H46.out.trans (hb9.mono H46.out.size))
  have hown7 : r.1 = 0 → ∃ vm p, OwnSt w7 w4.heap.size p r.2 (.slice A9 r.2.boxes.length c9) (.slice A92 r.2.spool.length c92) vm := fun hz => by
    obtain ⟨vm, p, hO⟩ := hown6 hz
    exact ⟨vm, p, hO.later hb9⟩
  have Hown := Lib.hid hown7
  clear hX6 hY6 hZ6 hS6 hat6 hb8 hb9 hown6 hown7 x0 x1 y1
  have hall := allR_one Hv.out _ Hfo.out
  rw [Hr.out] at hall
  have hnx := next_st x
  rw [Hs.out] at hnx
  have hkf := pickN_lt fl 32 (by decide)
  have ht3 := cutS_size tx 300
  rw [hg_t3] at ht3
  by_cases hf : findR s.boxes nm < 0
  · have hr : r = (7, noneS) := by rw [hall, applyR_none s _ (by simp) (by simp) hf]; rfl
    subst hr
    clear hall
    generalize findR s.boxes nm = i at *
    go_wp2_with fail
    go_ret
    exact ⟨rfl, Hb.out⟩
  · obtain ⟨i, b, hfi, hil, hbi⟩ := find_box (show 0 ≤ findR s.boxes nm by omega)
    have hap : applyR s ⟨2, nm, 0, kf, ⟨#[]⟩, t3⟩ = if b.mails.length = 30 ∨ 1048576 < b.next ∨ 6000 < sizeR s + t3.size then (5, s) else (0, appTo s i b kf t3) := by
      rw [applyR_some s _ (by simp) (by simp) i b hfi hbi]
      simp only
      rw [if_pos trivial]
      unfold addR
      rw [hbi]
      rfl
    have hbn := hnx b (List.mem_of_getElem? hbi)
    have hvb := Hv.out.bx b (List.mem_of_getElem? hbi)
    have hml := hvb.ml
    have hn1 := hvb.n1
    have hsz := Hv.out.sz
    have Hap := Lib.hid hap
    have szs := fun A A2 c c2 W hA hm => sizeV_calls s Hv.out A A2 c c2 m W hA hm
    have Szs := Lib.hid szs
    have Hbi := Lib.hid hbi
    have Hall := Lib.hid hall
    rw [hfi]
    have hi0 : (0 : Int) ≤ (i : Int) := by omega
    have hin : (i : Int) < (s.boxes.length : Int) := by omega
    have x0 := HX.out.cell 0 _ rfl
    have x1 := HX.out.cell 1 _ rfl
    clear hall hap hfi hf hbi szs hnx hvb
    go_wp2_with fail
    refine (Szs.out _ _ _ _ _ HS.out (cell_later Hb.out Hm.out)).mono ?_
    rintro e w8 ⟨rfl, hb10⟩
    have hX8 := HX.out.later hb10
    have hY8 := HY.out.later hb10
    have hS8 := HS.out.later hb10
    obtain ⟨g, off, Am, cm, rfl, d0, d1', d2, _, hmA⟩ := hS8.bx i b Hbi.out
    have hbA : Below w8.heap.size w8 (w8.alloc (.cells #[.string b.name, .int .i64 b.next, .slice Am b.mails.length cm] 39)) := (Below.refl _ w8).alloc (Nat.le_refl _) _
    have hB := Bk.new w8 [.string b.name, .int .i64 b.next, .slice Am b.mails.length cm] 39
    have hbB := hb10.trans (hbA.mono hb10.size)
    have hX9 := HX.out.later hbB
    have hY9 := HY.out.later hbB
    have Hb9 := Lib.hid (bel_tr Hb.out hbB)
    have HbB := Lib.hid hbB
    have htb := hb10.size
    clear x0 x1 Szs
    have x0 := hX8.cell 0 _ rfl
    have x1 := hX8.cell 1 _ rfl
    clear hb10 hX8 hY8 hS8 hbA hbB
    go_upto_region 9 with fail
    generalize w8.alloc (.cells #[.string b.name, .int .i64 b.next, .slice Am b.mails.length cm] 39) = w9 at *
    generalize w8.heap.size = tb at *
    clear x0 x1 d0 d1' d2
    have y5 := hY9.cell 5 _ rfl
    have b2 := hB.cell 2 _ rfl
    by_cases h30 : b.mails.length = 30
    · have hr : r = (5, noneS) := by rw [Hall.out, Hap.out, if_pos (show b.mails.length = 30 ∨ _ from .inl h30)]; rfl
      subst hr
      rw [h30] at b2
      clear hX9 hY9 hB
      go_wp2_with fail
      go_ret
      exact ⟨rfl, Hb9.out⟩
    · have h30' : ((b.mails.length : Int) == 30) = false := by rw [beq_eq_false_iff_ne]; omega
      generalize hzz : sizeR s = zz at *
      have hwr : IntKind.i64.wrap ((zz : Int) + (t3.size : Int)) = (zz : Int) + (t3.size : Int) := by rw [IntKind.wrap_i64]; omega
      by_cases h60 : 6000 < zz + t3.size
      · have hr : r = (5, noneS) := by rw [Hall.out, Hap.out, if_pos (show b.mails.length = 30 ∨ 1048576 < b.next ∨ 6000 < zz + t3.size from .inr (.inr h60))]; rfl
        subst hr
        have h60' : (6000 : Int) < (zz : Int) + (t3.size : Int) := by omega
        clear hX9 hY9 hB
        go_wp2_with fail
        go_ret
        exact ⟨rfl, Hb9.out⟩
      · have hr : r = (0, appTo s i b kf t3) := by rw [Hall.out, Hap.out, if_neg (show ¬ (b.mails.length = 30 ∨ 1048576 < b.next ∨ 6000 < zz + t3.size) by omega)]; rfl
        have h60' : ¬ (6000 : Int) < (zz : Int) + (t3.size : Int) := by omega
        subst hr
        obtain ⟨vm, p, hO⟩ := Hown.out rfl
        have hO9 : OwnSt w9 w4.heap.size p (appTo s i b kf t3) (.slice A9 (appTo s i b kf t3).boxes.length c9) (.slice A92 (appTo s i b kf t3).spool.length c92) vm := hO.later HbB.out
        have hlen : (appTo s i b kf t3).boxes.length = s.boxes.length := by unfold appTo; simp
        have hsp : (appTo s i b kf t3).spool = s.spool := rfl
        obtain ⟨g2, cq, gm, cm2, hvb, hvm, _⟩ := undo_app Hbi.out hO9
        have hg27 : g2 < w7.heap.size := by
          rw [hvb] at hO
          exact (hO.blk 1 g2 rfl).2
        rw [hlen] at hvb
        obtain ⟨rfl, _, rfl⟩ := Value.slice.inj hvb
        have hb' : (appTo s i b kf t3).boxes[i]? = some ⟨b.name, b.next + 1, b.mails ++ [⟨b.next, kf, t3⟩]⟩ := by unfold appTo; simp [hil]
        obtain ⟨g3, cc3, e3, q0, q1, q2, qf⟩ := hO9.boxAt i _ _ hb' hvm
        obtain ⟨hg3, _, rfl⟩ := Value.slice.inj e3
        obtain ⟨rfl, _, _⟩ := Addr.mk.inj (Option.some.inj hg3)
        have hrm := hO9.rm i _ _ hb' hvm
        simp only [List.length_append, List.length_singleton] at hrm
        have hmr := ms_of_own hrm (by simp)
        obtain ⟨gm', om, ea, u0, u1, u2⟩ := hmr b.mails.length ⟨b.next, kf, t3⟩ (by simp)
        obtain ⟨rfl, rfl, _⟩ := Addr.mk.inj (Option.some.inj ea)
        simp only [Nat.zero_add] at q0 q1 q2 u0 u1 u2
        have hZ9 : Bk w9 w5.heap.size [.slice (some ⟨g2, 0, none⟩) s.boxes.length c9, .slice A92 s.spool.length c92] 28 := by
          have h := HZ.out.later HbB.out
          simp only [hlen, hsp] at h
          exact h
        have hgl : g2 < w9.heap.size ∧ w4.heap.size ≤ g2 := by
          have := hO9.blk 1 g2 rfl
          exact ⟨this.2, this.1⟩
        have z0 := hZ9.cell 0 _ rfl
        have x0 := hX9.cell 0 _ rfl
        have HO9 := Lib.hid hO9
        have HZ9 := Lib.hid hZ9
        have HX9 := Lib.hid hX9
        have HY9 := Lib.hid hY9
        have HB9 := Lib.hid hB
        have hn0 : (0 : Int) ≤ (b.mails.length : Int) := by omega
        have hn1 : (b.mails.length : Int) < ((b.mails.length + 1 : Nat) : Int) := by omega
        clear hrm hO hO9 hZ9 hX9 hY9 hB hvb e3 hg3 ea hmr hb'
        go_upto_region 11 with fail
        go_quiet (fail)
        have hcap : b.mails.length + 1 ≤ cm2 := by
          have hb' : (appTo s i b kf t3).boxes[i]? = some ⟨b.name, b.next + 1, b.mails ++ [⟨b.next, kf, t3⟩]⟩ := by unfold appTo; simp [hil]
          have h := own_cap (HO9.out.rm i _ _ hb' (by simpa using hvm))
          simpa using h
        have HbD := Lib.hid (bel_drewN (Below.refl w9.heap.size w9) nq)
        generalize w9.drewN nq = w10 at *
        have z0' := cell_later HbD.out z0
        have q2' := cell_later HbD.out q2
        have b2' := cell_later HbD.out b2
        have u0' := cell_later HbD.out u0
        have u1' := cell_later HbD.out u1
        have u2' := cell_later HbD.out u2
        clear z0 q2 b2 u0 u1 u2 x0
        have hd := bel_drew w10
        have hmk := fun (W : World) (hW : Below w10.drew.heap.size w10.drew W) => And.intro (cell_later hW (cell_later hd z0')) (And.intro (cell_later hW (cell_later hd q2')) (And.intro (cell_later hW (cell_later hd b2')) (And.intro (cell_later hW (cell_later hd u0')) (And.intro (cell_later hW (cell_later hd u1')) (And.intro (cell_later hW (cell_later hd u2')) hW)))))
        have Hmk := Lib.hid hmk
        clear hmk
        have hKK := Hmk.out w10.drew (Below.refl _ _)
        go_wp2_with fail
        have hn0 : (0 : Int) ≤ (b.mails.length : Int) := by omega
        have hn1 : (b.mails.length : Int) < ((b.mails.length + 1 : Nat) : Int) := by omega
        have hn2 : (b.mails.length : Int) < (b.mails.length : Int) + 1 := by omega
        have hi0 : (0 : Int) ≤ (i : Int) := by omega
        have hin : (i : Int) < (s.boxes.length : Int) := by omega
        go_region_held3 (fun W => W.cell? ⟨w5.heap.size, 0, none⟩ = some (.slice (some ⟨g2, 0, none⟩) s.boxes.length c9) ∧ W.cell? ⟨g2, i * 3 + 2, none⟩ = some (.slice (some ⟨gm, 0, none⟩) (b.mails.length + 1) cm2) ∧ W.cell? ⟨tb, 2, none⟩ = some (.slice Am b.mails.length cm) ∧ W.cell? ⟨gm, b.mails.length * 3, none⟩ = some (.int .i64 b.next) ∧ W.cell? ⟨gm, b.mails.length * 3 + 1, none⟩ = some (.int .i64 kf) ∧ W.cell? ⟨gm, b.mails.length * 3 + 2, none⟩ = some (.string t3) ∧ Below w10.drew.heap.size w10.drew W) (first | exact hKK | exact Hmk.out _ (bel_al (b7 (by first | assumption | exact hS)) _) | (refine Hmk.out _ (Below.setCell (Below.setCell (Below.setCell (b7 (by first | assumption | exact hS)) ?_ _) ?_ _) ?_ _) <;> exact Nat.le_refl _) | exact Hmk.out _ (bel_al (Below.refl _ _) _))
          (fail)
        have hal : Below w10.heap.size w10 (w10.alloc (.cells #[.int .i64 b.next, .int .i64 kf, .string t3] 41)).drew := bel_tr (bel_al (Below.refl _ w10) _) (bel_drew _)
        have hM : Bk (w10.alloc (.cells #[.int .i64 b.next, .int .i64 kf, .string t3] 41)).drew w10.heap.size [.int .i64 b.next, .int .i64 kf, .string t3] 41 := Bk.new w10 [.int .i64 b.next, .int .i64 kf, .string t3] 41
        generalize (w10.alloc (.cells #[.int .i64 b.next, .int .i64 kf, .string t3] 41)).drew = w11 at *
        have h9b := bel_tr HbD.out (hal.mono HbD.out.size |> fun h => (by exact hal))
        have hd2 := bel_drew w11
        have hO11 := HO9.out.later (bel_tr h9b hd2)
        have hb'' : (appTo s i b kf t3).boxes[i]? = some ⟨b.name, b.next + 1, b.mails ++ [⟨b.next, kf, t3⟩]⟩ := by unfold appTo; simp [hil]
        have HO11 := Lib.hid hO11
        have z0 := cell_later (bel_tr hal hd2) z0'
        have q2 := cell_later (bel_tr hal hd2) q2'
        have b2 := cell_later (bel_tr hal hd2) b2'
        have qf2 : w11.drew.frozen? ⟨g2, i * 3 + 2, none⟩ = false := by
          obtain ⟨g3, cc3, e3, _, _, _, qf⟩ := hO11.boxAt i _ _ hb'' (by simpa using hvm)
          obtain ⟨hg3, _, _⟩ := Value.slice.inj e3
          obtain ⟨rfl, _, _⟩ := Addr.mk.inj (Option.some.inj hg3)
          exact qf _
        have hcn : (b.mails.length : Int) ≤ (cm2 : Int) := by omega
        -- what stands behind both stores
        have hE := app_end hlen Hbi.out HO11.out (by simpa using hvm)
        obtain ⟨hq1, hqf, vm2, hOE⟩ := hE
        have hni : i < (appTo s i b kf t3).boxes.length := by rw [hlen]; exact hil
        have nX := st_no HO9.out hni HX9.out
        have nZ := st_no HO9.out hni HZ9.out
        have nY : g2 ≠ w3.heap.size := by omega
        have nB : g2 ≠ tb := by omega
        have h9s := HbD.out.size
        have nM : g2 ≠ w10.heap.size := by omega
        have hz0 := (app_bk0 (i := i) (gm := gm) (n := b.mails.length) (cm := cm2) (HZ9.out.later h9b) nZ).cell 0 _ rfl
        have hat2 := hOE.at (A2 := A92) (c2 := c92) rfl (by rw [hsp])
        have HAT := Lib.hid hat2
        clear hat2
        have HME := Lib.hid (app_bk (i := i) (gm := gm) (n := b.mails.length) (cm := cm2) b.next hM nM)
        have HXE := Lib.hid (app_bk (i := i) (gm := gm) (n := b.mails.length) (cm := cm2) b.next (HX9.out.later h9b) nX)
        have HYE := Lib.hid (app_bk (i := i) (gm := gm) (n := b.mails.length) (cm := cm2) b.next (HY9.out.later h9b) nY)
        have HZE := Lib.hid (app_bk (i := i) (gm := gm) (n := b.mails.length) (cm := cm2) b.next (HZ9.out.later h9b) nZ)
        have HBE := Lib.hid (app_bk (i := i) (gm := gm) (n := b.mails.length) (cm := cm2) b.next (HB9.out.later h9b) nB)
        have hw4 : Below w4.heap.size w4 w11 := bel_tr H47.out ((HbB.out.trans (h9b.mono HbB.out.size)))
        have hw0 : Below w.heap.size w w11 := bel_tr Hb9.out h9b
        have hwE : ∀ B, B ≤ g2 → Below B w11 (((w11.setCell ⟨g2, i * 3 + 2, none⟩ (.slice (some ⟨gm, 0, none⟩) b.mails.length cm2)).drew).setCell ⟨g2, i * 3 + 1, none⟩ (.int .i64 b.next)) := fun B hB => ((((Below.refl B w11).setCell (p := ⟨g2, i * 3 + 2, none⟩) hB _).trans (belB B _))).setCell (p := ⟨g2, i * 3 + 1, none⟩) hB _
        have HSE := Lib.hid (HS4.out.later (hw4.trans (hwE _ hgl.2)))
        have Hb0E := Lib.hid (hw0.trans (hwE _ (by omega)))
        have hwn : IntKind.i64.wrap (b.next + 1 - 1) = b.next := by rw [IntKind.wrap_i64]; omega
        have hvd := Hv.out
        have same := fun A A2 B B2 c c2 d d2 W hA hB => same_state s A A2 B B2 c c2 d d2 W hA hB (by have := hvd.nb; omega) (by have := hvd.ns; omega) (fun b hb => by have := (hvd.bx b hb).ml; omega)
        have Same := Lib.hid same
        clear hvd same hOE nX nZ nY nB nM hw4 hw0 hwE h9b hal hM hni
        clear hO11 z0' q2' b2' u0' u1' u2' hKK Hmk hd
        go_wp2_with fail
        apply one_key
        case main =>
          intro key
          go_region_with (fail)
          all_goals exact key
        case pf =>
          generalize (w11.setCell ⟨g2, i * 3 + 2, none⟩ (.slice (some ⟨gm, 0, none⟩) b.mails.length cm2)).drew = w12 at *
          go_upto_region 16 with fail
          generalize w12.setCell ⟨g2, i * 3 + 1, none⟩ (.int .i64 b.next) = w13 at *
          clear hq1 hqf hz0 z0 q2 b2 qf2
          have m0 := HME.out.cell 0 _ rfl
          have m1 := HME.out.cell 1 _ rfl
          have m2 := HME.out.cell 2 _ rfl
          have b1 := HBE.out.cell 1 _ rfl
          have y3 := HYE.out.cell 3 _ rfl
          have y5' := HYE.out.cell 5 _ rfl
          have x0 := HXE.out.cell 0 _ rfl
          have x1 := HXE.out.cell 1 _ rfl
          have z0 := HZE.out.cell 0 _ rfl
          have z1 := HZE.out.cell 1 _ rfl
          go_wp2_with fail
          have hcall := Same.out _ _ _ _ _ _ _ _ _ HSE.out HAT.out
          (with_reducible refine hcall.mono ?_)
          rintro e w14 ⟨rfl, hb14⟩
          clear m0 m1 m2 b1 y3 y5' x0 x1 z0 z1
          go_wp2_with fail
          go_ret
          exact ⟨rfl, bel_tr Hb0E.out hb14⟩
end Go.Proofs.YtbddahdkjngecaaDoor
